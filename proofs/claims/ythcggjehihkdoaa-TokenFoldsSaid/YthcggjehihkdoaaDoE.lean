/- Scan. -/
import Derived.RangeFuncNested
import Derived.RangeFuncBound
import Derived.RangeFuncCalls
import Derived.RangeFuncLeaves
import Derived.Shelf.Abstract
import Derived.Shelf.RegionOpen
import Derived.WalkKit
import Derived.OwnWalkIn
import Derived.TacticsInMore
import Derived.LoopNIn
import Derived.LoopIn
import Derived.Outline
import Derived.Lib.Hide
import Derived.Lib.SliceRun
import Derived.IntWalk
import Derived.WalkLawsBesides
import Derived.WalkSpells
import Derived.Laws.BitsAllLaws
import Derived.Lib.ConvBytes
import Derived.Maps.AppendAt
import Derived.Lib.AppendStr
import Derived.Lib.SlBytesConst
import Derived.Laws.AppendOwnNone
import Derived.Laws.OwnMore
import Derived.Laws.BytesArg
import Derived.Deep.RegionHeld3
import Derived.BigQuiet
import Derived.Deep.RegionLaw
import Derived.Deep.QuietTactic
import Derived.Lib.OthersKept
import Derived.Test.YthcggjehihkdoaaProg
import Derived.Deep.DeepFit
import Derived.Scope
import Derived.Test.YthcggjehihkdoaaDoD
set_option linter.unusedVariables false
set_option linter.unusedSimpArgs false
namespace Go.Proofs.Ythcggjehihkdoaa
open Go Go.RowKit Go.Shelf
attribute [local go_sem] Oper.semAt_some

theorem stepR_scope {P : Program} {b : Frame} {a : Act} {k : List Item} {cs : List Frame} {w : World} {c : Code} : step P (lone (b.atR a (.code (.scope c) :: k)) cs w) = .next (lone (b.atR a (.code c :: .inScope c :: k)) cs w) :=
  step_lone_go (by simp [stepG, stepG.exec, Frame.atR])
theorem stepR_inScope {P : Program} {b : Frame} {a : Act} {k : List Item} {cs : List Frame} {w : World} {c : Code} : step P (lone (b.atR a (.inScope c :: k)) cs w) = .next (lone (b.atR a k) cs w) :=
  step_lone_go (by simp [stepG, stepG.exec, Frame.atR])
/-- a body with labels that nobody jumps to, inside a fence -/
theorem wpIn_scope_none {F : Fence} {n : Nat} {P : Program} {Q : Exit → Act → World → Prop} {a : Act} {w : World} {c : Code} (hg : ∀ l a w, ¬ Q (.goto l) a w) (h : c.wpIn F n P Q a w) : (Code.scope c).wpIn F n P Q a w := by
  intro b k cs hro hb hr
  have h0 : (lone (b.atR a (.code (.scope c) :: k)) cs w).fenced P F := fenced_calm hb hr rfl
  obtain ⟨e, a₁, w₁, hq, harr⟩ := h b (.inScope c :: k) cs hro hb hr
  cases e with
  | normal => exact ⟨.normal, a₁, w₁, hq, .head h0 stepR_scope (StepsIn.trans harr (.one (fenced_calm hb hr rfl) stepR_inScope))⟩
  | exit id =>
    have hx : exitTo id (.inScope c :: k) = exitTo id k := by simp [exitTo]
    exact ⟨.exit id, a₁, w₁, hq, fun k' hk => .head h0 stepR_scope (harr.1 k' (by rw [hx]; exact hk)),
      fun hr' hk => let ⟨k₁, h1, h2⟩ := harr.2 hr' (by rw [hx]; exact hk); ⟨k₁, h1, .head h0 stepR_scope h2⟩⟩
  | goto l => exact absurd hq (hg l a₁ w₁)
  | ret => exact ⟨_, a₁, w₁, hq, .of_steps (.one h0 stepR_scope) harr⟩
  | panic ch => exact ⟨_, a₁, w₁, hq, .of_steps (.one h0 stepR_scope) harr⟩
  | outgrown => exact ⟨_, a₁, w₁, hq, .of_steps (.one h0 stepR_scope) harr⟩
def preU (ls : List (List UInt8)) (k : Nat) : List UInt8 := ((ls.take k).map unst).flatten
def useU (ls : List (List UInt8)) (k : Nat) : Nat := (ls.take k).flatten.length
theorem preU_snoc (ls : List (List UInt8)) (k : Nat) (x : List UInt8) (h : ls[k]? = some x) : preU ls (k + 1) = preU ls k ++ unst x ∧ useU ls (k + 1) = useU ls k + x.length := by
  have hk : k < ls.length := (List.getElem?_eq_some_iff.1 h).1
  rw [List.getElem?_eq_getElem hk] at h
  cases h
  unfold preU useU
  rw [List.take_succ_eq_append_getElem hk, List.map_append, List.flatten_append, List.flatten_append, List.length_append]
  simp only [List.map_cons, List.map_nil, List.flatten_cons, List.flatten_nil, List.append_nil]
  exact ⟨trivial, trivial⟩
theorem scanL_at : ∀ (ls : List (List UInt8)) (k : Nat), (∀ x ∈ ls.take k, x ≠ [46, 13, 10]) → ls[k]? = some [46, 13, 10] → scanL ls = some (preU ls k, useU ls k + 3)
  | [], k, _, h => by simp at h
  | x :: t, 0, _, h => by
    obtain rfl : x = [46, 13, 10] := by simpa using h
    rw [scanL, if_pos rfl]
    rfl
  | x :: t, k + 1, h1, h => by
    have hx : x ≠ [46, 13, 10] := h1 x (by simp)
    rw [scanL, if_neg hx, scanL_at t k (fun y hy => h1 y (by simp [hy])) (by simpa using h)]
    simp [preU, useU]
    omega
theorem scanL_le : ∀ (ls : List (List UInt8)) (o : List UInt8) (n : Nat), scanL ls = some (o, n) → n ≤ ls.flatten.length
  | [], _, _, h => by simp [scanL] at h
  | x :: t, o, n, h => by
    rw [scanL] at h
    by_cases hx : x = [46, 13, 10]
    · rw [if_pos hx] at h
      cases h
      rw [List.flatten_cons, List.length_append, hx]
      simp
    · rw [if_neg hx] at h
      obtain ⟨⟨o', n'⟩, h1, h2⟩ := Option.map_eq_some_iff.1 h
      cases h2
      have := scanL_le t o' n' h1
      rw [List.flatten_cons, List.length_append]
      omega
theorem cell_below {w w' : World} {p : Addr} {v : Value} (h : w.cell? p = some v) (hb : Below w.heap.size w w') : w'.cell? p = some v := (hb.cell (World.block_lt_of_cell? w _ h)).trans h
theorem unst_len (x : List UInt8) : (unst x).length ≤ x.length := by unfold unst; split <;> simp
theorem unflat_len : ∀ (ls : List (List UInt8)), (ls.map unst).flatten.length ≤ ls.flatten.length
  | [] => by simp
  | x :: t => by
    have := unflat_len t
    have := unst_len x
    simp only [List.map_cons, List.flatten_cons, List.length_append]
    omega
theorem preU_len (l : List UInt8) (k : Nat) : (preU (lns l) k).length ≤ l.length ∧ useU (lns l) k ≤ l.length := by
  have h1 := unflat_len ((lns l).take k)
  have h2 := take_flat_len (lns l) k
  have h3 := lns_len l.length l (Nat.le_refl _)
  unfold preU useU
  omega
theorem Grown.mono {n₀ B1 : Nat} {w W : World} {pre : List UInt8} {D D' : Nat → Prop} {v : Value} (h : Grown n₀ B1 w pre D W v) (hd : ∀ b, D b → D' b) : Grown n₀ B1 w pre D' W v :=
  ⟨h.1, h.2.1, hd _ h.2.2.1, fun r hr => hd _ (h.2.2.2.1 r hr), h.2.2.2.2⟩
theorem Grown.set {n₀ B1 : Nat} {w W : World} {pre : List UInt8} {D : Nat → Prop} {v : Value} (h : Grown n₀ B1 w pre D W v) (B : Nat) (u : Value) (hB : n₀ ≤ B) (h1 : B1 ≠ B) (h2 : some B ≠ v.ownBlock) : Grown n₀ B1 w pre D (W.setCell ⟨B, 0, none⟩ u) v := by
  have hg : Grown n₀ B1 w pre (fun b => D b ∧ b ≠ B) W v := ⟨h.1, h.2.1, ⟨h.2.2.1, h1⟩, fun r hr => ⟨h.2.2.2.1 r hr, fun e => h2 (by rw [← e]; exact hr.symm)⟩, h.2.2.2.2⟩
  exact (hg.keep (KeepOn.setCell W B u hB (fun h => h.2 rfl))).mono fun b hb => hb.1
theorem boxed_set_other {W : World} {B B' : Nat} {t : TypeId} {v u : Value} (h : Boxed W B t v) (hne : B ≠ B') : Boxed (W.setCell ⟨B', 0, none⟩ u) B t v :=
  (heap_setCell_other W ⟨B', 0, none⟩ B u hne).trans h
theorem size_set (W : World) (a : Addr) (u : Value) : (W.setCell a u).heap.size = W.heap.size := by simp [World.setCell]
theorem SB_put {W : World} {v : Value} {l : List UInt8} {dk : Nat} {o' : Obj} (h : SB W v l) (hk : W.heap[dk]? = some (.deferred (some []))) : SB (W.putObj dk o') v l := by
  by_cases h0 : 0 < l.length
  · obtain ⟨A, c, rfl, h1, h2, h3⟩ := h.form
    obtain ⟨g, o1, rfl, hc⟩ := h3 h0
    refine .inr ⟨_, c, rfl, h1, h2, fun _ => ⟨g, o1, rfl, fun i hi => ?_⟩⟩
    have hne : g ≠ dk := by
      rintro rfl
      have := hc 0 h0
      simp [World.cell?, hk] at this
    rw [← hc i hi]
    have he := World.putObj_heap_other (w := W) (o := o') hne
    simp [World.cell?, he]
  · exact h.empty (by omega) _
/-- between two rounds -/
def ScI (B1 : Nat) (w : World) (ls : List (List UInt8)) (k : Nat) (D : Nat → Prop) (W : World) : Prop :=
  ∃ v, Grown B1 B1 w (preU ls k) D W v ∧ Boxed W (B1 + 1) 3 (.int .i64 (useU ls k : Nat)) ∧ Boxed W (B1 + 1 + 1) 4 (.bool false) ∧ D (B1 + 1) ∧ D (B1 + 1 + 1) ∧ ∀ x ∈ ls.take k, x ≠ [46, 13, 10]
theorem ScI.stable (B1 : Nat) (w : World) (ls : List (List UInt8)) : StableD B1 (ScI B1 w ls) := by
  rintro k D W W' ⟨v, h1, h2, h3, h4, h5, h6⟩ hk
  exact ⟨v, h1.keep hk, boxed_keepOn h2 hk (.inr h4), boxed_keepOn h3 hk (.inr h5), h4, h5, h6⟩
/-- behind the last line -/
def ScX (B1 : Nat) (w : World) (ls : List (List UInt8)) (c : Code) (D : Nat → Prop) (W : World) : Prop :=
  c = .exit 0 ∧ ∃ v o n, Grown B1 B1 w o D W v ∧ Boxed W (B1 + 1) 3 (.int .i64 (n : Nat)) ∧ Boxed W (B1 + 1 + 1) 4 (.bool true) ∧ D (B1 + 1) ∧ D (B1 + 1 + 1) ∧ scanL ls = some (o, n)
theorem ScX.stable (B1 : Nat) (w : World) (ls : List (List UInt8)) (c : Code) : StableD B1 (fun _ D W => ScX B1 w ls c D W) := by
  rintro k D W W' ⟨hc, v, o, n, h1, h2, h3, h4, h5, h6⟩ hk
  exact ⟨hc, v, o, n, h1.keep hk, boxed_keepOn h2 hk (.inr h4), boxed_keepOn h3 hk (.inr h5), h4, h5, h6⟩

set_option maxRecDepth 100000 in
set_option maxHeartbeats 4000000 in
/-- **Scan** -/
theorem scan_any (v : Value) (l : List UInt8) (w : World) (hlen : l.length ≤ 2000000) (hml : ML w) (h : SB w v l) :
    Calls Try.prog 20 #[v] w fun e w' => ∃ u1 u2, e = .returned (.tuple #[u1, u2, .bool (scanB l)]) ∧ SB w' u1 (scanX l) ∧ SB w' u2 (scanR l) ∧ Below w.heap.size w w' := by
  obtain ⟨A, c, rfl, hcap, hcm, -⟩ := h.form
  have Hs := Lib.hid h
  clear h
  refine (callsIn_wide (n := 0)).1 ?_
  refine callsIn_of_wp_marks Try.func20 rfl trivial ?_
  simp only [Try.ntmps20, List.size_toArray, List.length_cons, List.length_nil, Nat.reduceAdd, Nat.reduceSub, Array.replicate_succ, Array.replicate_zero, List.push_toArray, List.append_toArray, List.nil_append, List.cons_append]
  gi_wp2_with fail
  refine wpIn_scope_none (fun l a w h => h) ?_
  gi_wp2_with fail
  refine wpIn_label ?_
  gi_wp2_with fail
  refine ⟨trivial, rfl, (callsIn_wide.2 (lines_any _ _ _ _)).mono ?_⟩
  rintro e w3 ⟨rfl, rfl⟩
  gi_wp2_with fail
  obtain ⟨B1, hB1⟩ : ∃ B, w.heap.size = B := ⟨_, rfl⟩
  have hs1 : (w.alloc (.cells #[.slice none 0 0] 22)).heap.size = B1 + 1 := by rw [alloc_size, hB1]
  have hs2 : ((w.alloc (.cells #[.slice none 0 0] 22)).alloc (.cells #[.int .i64 0] 3)).heap.size = B1 + 1 + 1 := by rw [alloc_size, hs1]
  have hs3 : (((w.alloc (.cells #[.slice none 0 0] 22)).alloc (.cells #[.int .i64 0] 3)).alloc (.cells #[.bool false] 4)).heap.size = B1 + 1 + 1 + 1 := by rw [alloc_size, hs2]
  have b1 := Boxed.new w 22 (.slice none 0 0)
  have b2 := Boxed.new (w.alloc (.cells #[.slice none 0 0] 22)) 3 (.int .i64 0)
  have b3 := Boxed.new ((w.alloc (.cells #[.slice none 0 0] 22)).alloc (.cells #[.int .i64 0] 3)) 4 (.bool false)
  have b4 := Boxed.new (((w.alloc (.cells #[.slice none 0 0] 22)).alloc (.cells #[.int .i64 0] 3)).alloc (.cells #[.bool false] 4)) 22 (.slice A l.length c)
  rw [hB1] at b1
  rw [hs1] at b2
  rw [hs2] at b3
  rw [hs3] at b4
  have hBW : Below B1 w ((((w.alloc (.cells #[.slice none 0 0] 22)).alloc (.cells #[.int .i64 0] 3)).alloc (.cells #[.bool false] 4)).alloc (.cells #[.slice A l.length c] 22)) := ((((Below.refl _ w).alloc (by omega) _).alloc (by rw [hs1]; omega) _).alloc (by rw [hs2]; omega) _).alloc (by rw [hs3]; omega) _
  have c1 := ((b1.alloc (.cells #[.int .i64 0] 3)).alloc (.cells #[.bool false] 4)).alloc (.cells #[.slice A l.length c] 22)
  have c2 := (b2.alloc (.cells #[.bool false] 4)).alloc (.cells #[.slice A l.length c] 22)
  have c3 := b3.alloc (.cells #[.slice A l.length c] 22)
  have hs4 : ((((w.alloc (.cells #[.slice none 0 0] 22)).alloc (.cells #[.int .i64 0] 3)).alloc (.cells #[.bool false] 4)).alloc (.cells #[.slice A l.length c] 22)).heap.size = B1 + 1 + 1 + 1 + 1 := by rw [alloc_size, hs3]
  have hsk : SBK B1 none ((((w.alloc (.cells #[.slice none 0 0] 22)).alloc (.cells #[.int .i64 0] 3)).alloc (.cells #[.bool false] 4)).alloc (.cells #[.slice A l.length c] 22)) (.slice A l.length c) l := by
    have h0 : SBK B1 none w (.slice A l.length c) l := ⟨Hs.out, fun h0 => by
      obtain ⟨g, e, hlt, _⟩ := Hs.out.block h0
      exact ⟨g, e, .inl (by omega)⟩⟩
    exact h0.below (by rw [hB1]; exact hBW)
  obtain ⟨W0, hW0⟩ : ∃ W0, ((((w.alloc (.cells #[.slice none 0 0] 22)).alloc (.cells #[.int .i64 0] 3)).alloc (.cells #[.bool false] 4)).alloc (.cells #[.slice A l.length c] 22)) = W0 := ⟨_, rfl⟩
  rw [hW0] at hBW c1 c2 c3 b4 hs4 hsk ⊢
  rw [hB1]
  clear hW0 hs1 hs2 hs3 b1 b2 b3
  refine wpIn_rangeFunc_D (gf := 43) (lb := #[.pointer (some ⟨B1 + 1 + 1 + 1, 0, none⟩)]) (n₀ := B1) rfl (enters_of Try.func43 (by kernel_rfl) rfl)
    (lines1_seq B1 (B1 + 1 + 1 + 1) none A c l (by omega) w W0 hB1 hBW (by omega) hml hsk b4 (fun g hg => by cases hg)) (fun x az _ _ h => by obtain ⟨v, rfl, _⟩ := h; rfl)
    (fun x az M W lp dk r o ds h h1 h2 => EncL.loop B1 x az M W lp dk r o ds h h1 h2) (by rw [hs4]; omega) (Below.refl _ _)
    (fun b => B1 ≤ b ∧ b ≤ B1 + 1 + 1) (fun b h => by rw [hs4]; omega) (fun b h => by
      rcases h with rfl | h
      · exact ⟨by omega, by rw [hs4]; omega, rfl⟩
      · cases h)
    (ScI B1 w (lns l)) (fun c k D W => ScX B1 w (lns l) c D W) (ScI.stable B1 w (lns l)) (fun c => ScX.stable B1 w (lns l) c)
    ⟨_, ⟨c1, World.ownsRow_nil _ _ _ _, by omega, fun r hr => by simp [Value.ownBlock] at hr, hBW, by rw [hs4]; omega⟩, c2, c3, by omega, by omega, fun x hx => by simp at hx⟩
    (fun az => { tmps := #[.slice A l.length c, undef, .slice none 0 0, .slice none 0 0, .bool false, .pointer (some ⟨B1, 0, none⟩), .pointer (some ⟨B1 + 1, 0, none⟩), .pointer (some ⟨B1 + 1 + 1, 0, none⟩), az[0]?.getD undef, .slice A l.length c, .func (.func 43) #[] #[.pointer (some ⟨B1 + 1 + 1 + 1, 0, none⟩)], az[0]?.getD undef, undef, undef, undef, undef, undef, undef, undef, undef, undef, undef, undef, undef, undef, undef, undef, undef, undef, undef, undef, undef, undef, undef, undef, undef, undef, undef, undef], defers := [] }) ?assign ?body ?done ?stop
  case assign =>
    rintro lp x az M W K ⟨v, rfl, hv, -⟩ hK
    obtain ⟨A1, c1, rfl, -, -, -⟩ := hv.form
    gi_wp2
    exact hK
  case body =>
    rintro lp k x az D M W hx ⟨u, rfl, hu⟩ ⟨v, h1, h2, h3, h4, h5, h6⟩ hDb hMD
    have hxl := line_len l x k hx
    obtain ⟨p1, p2⟩ := preU_snoc (lns l) k x hx
    have hl2 := preU_len l k
    have hl3 := preU_len l (k + 1)
    obtain ⟨A1, c1', rfl, hcx, hcy, -⟩ := hu.1.form
    have hn2 : some (B1 + 1) ≠ v.ownBlock := h2.not_row (by decide) h1.2.1
    have hn3 : some (B1 + 1 + 1) ≠ v.ownBlock := h3.not_row (by decide) h1.2.1
    have hsum : IntKind.i64.wrap ((useU (lns l) k : Int) + (x.length : Int)) = ((useU (lns l) (k + 1) : Nat) : Int) := by rw [IntWalk.i64_in _ (by omega), p2]; omega
    obtain ⟨mm, hmm⟩ : ∃ m, useU (lns l) (k + 1) = m := ⟨_, rfl⟩
    obtain ⟨nn, hnn⟩ : ∃ m, useU (lns l) k = m := ⟨_, rfl⟩
    obtain ⟨pr, hpr⟩ : ∃ pr, preU (lns l) k = pr := ⟨_, rfl⟩
    rw [hmm] at hsum p2
    rw [hnn] at hsum p2 h2
    rw [hpr] at p1 h1 hl2
    have g2 : Grown B1 B1 w pr D (W.setCell ⟨B1 + 1, 0, none⟩ (.int .i64 (mm : Int))) v := h1.set (B1 + 1) _ (by omega) (by omega) hn2
    have x2 : Boxed (W.setCell ⟨B1 + 1, 0, none⟩ (.int .i64 (mm : Int))) (B1 + 1) 3 (.int .i64 (mm : Int)) := h2.set _
    have x3 : Boxed (W.setCell ⟨B1 + 1, 0, none⟩ (.int .i64 (mm : Int))) (B1 + 1 + 1) 4 (.bool false) := boxed_set_other h3 (by omega)
    have k2 : KeepOn B1 M W (W.setCell ⟨B1 + 1, 0, none⟩ (.int .i64 (mm : Int))) := KeepOn.setCell W (B1 + 1) _ (by omega) (fun h => (hMD _ h).2 h4)
    have u2 := hu.keep k2
    have d2 : ∀ b, D b → b < (W.setCell ⟨B1 + 1, 0, none⟩ (.int .i64 (mm : Int))).heap.size := fun b hb => by rw [size_set]; exact hDb b hb
    have m2 : ∀ b, M b → b < (W.setCell ⟨B1 + 1, 0, none⟩ (.int .i64 (mm : Int))).heap.size ∧ ¬ D b := fun b hb => by rw [size_set]; exact hMD b hb
    have hcv := u2.1.str
    have e2 := h2.cell
    have f2 := h2.frozen
    have e3 := x3.cell
    have f3 := x3.frozen
    have e1 := g2.1.cell
    have f1 := g2.1.frozen
    obtain ⟨g, o, rfl, hc0⟩ := u2.1.cellAt 0 (by omega)
    rw [Nat.add_zero o] at hc0
    have p0 : (0 : Int) < (x.length : Int) := by omega
    have HG2 := Lib.hid g2
    have HX2 := Lib.hid x2
    have HX3 := Lib.hid x3
    have HK2 := Lib.hid k2
    have HU2 := Lib.hid u2
    have HD2 := Lib.hid d2
    have HM2 := Lib.hid m2
    have HP1 := Lib.hid p1
    have HMM := Lib.hid hmm
    have HPR := Lib.hid hpr
    have HL2 := Lib.hid hl2
    have HXL := Lib.hid hxl
    have H6 := Lib.hid h6
    have HX := Lib.hid hx
    have H45 := Lib.hid (And.intro h4 h5)
    clear g2 x2 x3 k2 u2 d2 m2 p1 p2 hmm hnn hpr hl2 hl3 hxl h6 hx h4 h5 h1 h2 h3 hu hDb hMD hcx
    have HN2 := Lib.hid hn2
    have HN3 := Lib.hid hn3
    clear hn2 hn3
    by_cases hT : x = [46, 13, 10]
    · have HT := Lib.hid hT
      have hT2 : (x == [46, 13, 10]) = true := beq_iff_eq.2 hT
      have hsc := scanL_at (lns l) k H6.out (by rw [HX.out, hT])
      have hm3 : mm = useU (lns l) k + 3 := by
        have := preU_snoc (lns l) k x HX.out
        rw [← HMM.out, this.2, hT]
        rfl
      rw [← hm3, HPR.out] at hsc
      have g3 := HG2.out.set (B1 + 1 + 1) (.bool true) (by omega) (by omega) HN3.out
      have y2 := boxed_set_other (u := .bool true) HX2.out (show B1 + 1 ≠ B1 + 1 + 1 by omega)
      have y3 := HX3.out.set (.bool true)
      have k3 := HK2.out.trans (KeepOn.setCell (W.setCell ⟨B1 + 1, 0, none⟩ (.int .i64 (mm : Int))) (B1 + 1 + 1) (.bool true) (by omega) (fun h => (HM2.out _ h).2 H45.out.2))
      have d3 : ∀ b, D b → b < ((W.setCell ⟨B1 + 1, 0, none⟩ (.int .i64 (mm : Int))).setCell ⟨B1 + 1 + 1, 0, none⟩ (.bool true)).heap.size ∧ ¬ M b := fun b hb => ⟨by rw [size_set]; exact HD2.out b hb, fun hm => (HM2.out b hm).2 hb⟩
      have G3 := Lib.hid g3
      have Y2 := Lib.hid y2
      have Y3 := Lib.hid y3
      have K3 := Lib.hid k3
      have D3 := Lib.hid d3
      have HSC := Lib.hid hsc
      clear hT g3 y2 y3 k3 d3 hsc hm3
      gi_wp2
      exact ⟨D, D3.out, K3.out, rfl, v, pr, mm, G3.out, Y2.out, Y3.out, H45.out.1, H45.out.2, HSC.out⟩
    · have HT := Lib.hid hT
      have hT2 : (x == [46, 13, 10]) = false := beq_eq_false_iff_ne.2 hT
      clear hT
      by_cases hd : gb x 0 = 46
      · have q : ((gb x 0 : Int) == 46) = true := beq_iff_eq.2 (by omega)
        have hun : unst x = x.drop 1 := by unfold unst; rw [if_pos hd]
        have HUN := Lib.hid hun
        obtain ⟨m, hm⟩ : ∃ m, x.length - 1 = m := ⟨_, rfl⟩
        obtain ⟨d, hdd⟩ : ∃ m, c1' - 1 = m := ⟨_, rfl⟩
        have kd := fun w => slice_run1 (some ⟨g, o, none⟩) x.length c1' 1 (by have := HXL.out; omega) 1 rfl m d hm.symm hdd.symm w
        have hu3 := HU2.out.1.cut1 1 m d (by have := HXL.out; omega) hm.symm hdd.symm
        have hdl : (x.drop 1).length = m := by rw [List.length_drop]; exact hm
        have HU3 := Lib.hid hu3
        have HDL := Lib.hid hdl
        have HM1 := Lib.hid hm
        clear hd hun hu3 hdl hm hdd
        gi_wp2_with (gi_at_builtin; refine wpBI_append rfl _ _ rfl B1 _ _ pr (x.drop 1) rfl HG2.out.2.1 rfl HU3.out (by have := HXL.out; rw [HDL.out, ← HM1.out]; omega) (by have := HL2.out; have := HXL.out; rw [HDL.out, ← HM1.out]; omega) HG2.out.2.2.2.2.2 ?_; intro v6 w6 hown6 hgrow6 hnew6; obtain ⟨pr3, hpr3⟩ : ∃ q, pr ++ (x.drop 1) = q := ⟨_, rfl⟩; rw [hpr3] at hown6; have Hpr3 := Lib.hid hpr3; obtain ⟨A6, c6, rfl, -, -, -⟩ := hown6.reads.form; have hv6 := HG2.out.1.kept hgrow6 (HG2.out.1.not_row (by decide) HG2.out.2.1); have hv6c := hv6.cell; have hv6f := hv6.frozen; obtain ⟨D6, hDa6, hDb6, hk6, hs6, hg6⟩ := grown_put (M := M) (Nat.le_refl B1) HG2.out HD2.out HM2.out hown6 hgrow6 hnew6; have HK6 := Lib.hid (HK2.out.trans hk6); have HG6 := Lib.hid hg6; have HD6 := Lib.hid hDb6; have HA6 := Lib.hid hDa6; have HS6 := Lib.hid hs6; clear hown6 hgrow6 hnew6 hg6 hDa6 hDb6 hk6 hs6 hv6 hpr3)
        refine ⟨D6, HD6.out, HK6.out, .slice A6 pr3.length c6, by rw [HP1.out, HUN.out, Hpr3.out]; exact HG6.out, ?_, ?_, HA6.out _ H45.out.1, HA6.out _ H45.out.2, ?_⟩
        · rw [HMM.out]; exact (HS6.out (B1 + 1) HX2.out.lt (by omega) (fun h => HN2.out h.symm)).trans HX2.out
        · exact (HS6.out (B1 + 1 + 1) HX3.out.lt (by omega) (fun h => HN3.out h.symm)).trans HX3.out
        · intro y hy
          have hk : k < (lns l).length := (List.getElem?_eq_some_iff.1 HX.out).1
          rw [List.take_add_one, HX.out] at hy
          rcases List.mem_append.1 hy with hy | hy
          · exact H6.out y hy
          · obtain rfl : y = x := by simpa using hy
            exact HT.out
      · have q : ((gb x 0 : Int) == 46) = false := beq_eq_false_iff_ne.2 (by omega)
        have hun : unst x = x := by unfold unst; rw [if_neg hd]
        have HUN := Lib.hid hun
        clear hd hun
        gi_wp2_with (gi_at_builtin; refine wpBI_append rfl _ _ rfl B1 _ _ pr x rfl HG2.out.2.1 rfl HU2.out.1 (by have := HXL.out; omega) (by have := HL2.out; have := HXL.out; omega) HG2.out.2.2.2.2.2 ?_; intro v6 w6 hown6 hgrow6 hnew6; obtain ⟨pr3, hpr3⟩ : ∃ q, pr ++ x = q := ⟨_, rfl⟩; rw [hpr3] at hown6; have Hpr3 := Lib.hid hpr3; obtain ⟨A6, c6, rfl, -, -, -⟩ := hown6.reads.form; have hv6 := HG2.out.1.kept hgrow6 (HG2.out.1.not_row (by decide) HG2.out.2.1); have hv6c := hv6.cell; have hv6f := hv6.frozen; obtain ⟨D6, hDa6, hDb6, hk6, hs6, hg6⟩ := grown_put (M := M) (Nat.le_refl B1) HG2.out HD2.out HM2.out hown6 hgrow6 hnew6; have HK6 := Lib.hid (HK2.out.trans hk6); have HG6 := Lib.hid hg6; have HD6 := Lib.hid hDb6; have HA6 := Lib.hid hDa6; have HS6 := Lib.hid hs6; clear hown6 hgrow6 hnew6 hg6 hDa6 hDb6 hk6 hs6 hv6 hpr3)
        refine ⟨D6, HD6.out, HK6.out, .slice A6 pr3.length c6, by rw [HP1.out, HUN.out, Hpr3.out]; exact HG6.out, ?_, ?_, HA6.out _ H45.out.1, HA6.out _ H45.out.2, ?_⟩
        · rw [HMM.out]; exact (HS6.out (B1 + 1) HX2.out.lt (by omega) (fun h => HN2.out h.symm)).trans HX2.out
        · exact (HS6.out (B1 + 1 + 1) HX3.out.lt (by omega) (fun h => HN3.out h.symm)).trans HX3.out
        · intro y hy
          have hk : k < (lns l).length := (List.getElem?_eq_some_iff.1 HX.out).1
          rw [List.take_add_one, HX.out] at hy
          rcases List.mem_append.1 hy with hy | hy
          · exact H6.out y hy
          · obtain rfl : y = x := by simpa using hy
            exact HT.out
  case done =>
    rintro dk D W hdk ⟨v, h1, h2, h3, h4, h5, h6⟩ hK hDk
    rw [hs4] at hdk
    rw [List.take_length] at h6
    have hno := scanL_none _ h6
    have rB : scanB l = false := by unfold scanB; rw [hno]; rfl
    have rX : scanX l = [] := by unfold scanX; rw [hno]
    have rR : scanR l = l := by unfold scanR; rw [hno]
    have RB := Lib.hid rB
    have RX := Lib.hid rX
    have RR := Lib.hid rR
    have hbel : Below w.heap.size w W := by rw [hB1]; exact h1.2.2.2.2.1
    have hcl := clone_any _ l W (by omega) (Hs.out.below hbel)
    have hc3 := h3.cell
    have HCL := Lib.hid hcl
    have HBEL := Lib.hid hbel
    have HK := Lib.hid hK
    clear h1 h2 h4 h5 h6 hno rB rX rR hcl hbel hK hDk h3
    gi_wp2_with fail
    refine ⟨trivial, rfl, (callsIn_wide.2 HCL.out).mono ?_⟩
    rintro e w1 ⟨u, rfl, ho, hb1⟩
    have hlt2 : dk < W.heap.size := (Array.getElem?_eq_some_iff.1 HK.out).1
    have hK2 : w1.heap[dk]? = some (.deferred (some [])) := (hb1.block dk hlt2).trans HK.out
    have hsu := ho.reads
    have hbb : Below w.heap.size w w1 := HBEL.out.trans (hb1.mono HBEL.out.size)
    have HSU := Lib.hid hsu
    have HBB := Lib.hid hbb
    have HK2 := Lib.hid hK2
    clear ho hb1 hsu hbb hK2
    gi_wp2
    refine ⟨by simp, .inl ⟨_, _, rfl, run_takeDeferred HK2.out, ?_⟩⟩
    refine ⟨_, results_tmp3 rfl _ _ _, .slice none 0 0, u, by rw [RB.out]; rfl, by rw [RX.out]; exact .inl ⟨rfl, rfl⟩, ?_, ?_⟩
    · rw [RR.out]; exact SB_put HSU.out HK2.out
    · exact belowK_bD HBB.out dk _ (by omega)
  case stop =>
    rintro dk cc k D W hdk ⟨rfl, v, o, n, h1, h2, h3, h4, h5, h6⟩ hK hDk
    rw [hs4] at hdk
    have rB : scanB l = true := by unfold scanB; rw [h6]; rfl
    have rX : scanX l = o := by unfold scanX; rw [h6]
    have rR : scanR l = l.drop n := by unfold scanR; rw [h6]
    have RB := Lib.hid rB
    have RX := Lib.hid rX
    have RR := Lib.hid rR
    have hbel : Below w.heap.size w W := by rw [hB1]; exact h1.2.2.2.2.1
    have hc1 := h1.1.cell
    have hc2 := h2.cell
    have hc3 := h3.cell
    have hun : n ≤ l.length := Nat.le_trans (scanL_le (lns l) o n h6) (lns_len l.length l (Nat.le_refl _)).2
    have ho := h1.2.1.reads
    have HO := Lib.hid ho
    obtain ⟨A7, c7, rfl, -, -, -⟩ := ho.form
    obtain ⟨m, hm⟩ : ∃ m, l.length - n = m := ⟨_, rfl⟩
    obtain ⟨d, hd⟩ : ∃ m, c - n = m := ⟨_, rfl⟩
    have kd := fun w => slice_run1 A l.length c n hun (n : Int) rfl m d hm.symm hd.symm w
    have hsl := (Hs.out.below hbel).cut1 n m d hun hm.symm hd.symm
    have hdl : (l.drop n).length ≤ 2000000 := by rw [List.length_drop]; omega
    have hcl := fun W' hb => clone_any _ (l.drop n) W' (by omega) (hsl.below (W' := W') hb)
    have HCL := Lib.hid hcl
    have HBEL := Lib.hid hbel
    have HK := Lib.hid hK
    clear h1 h2 h3 h4 h5 h6 rB rX rR hbel ho hsl hdl hcl hK hDk hm hd
    have hlt2 : dk < W.heap.size := (Array.getElem?_eq_some_iff.1 HK.out).1
    obtain ⟨BW, hBW'⟩ : ∃ B, W.heap.size = B := ⟨_, rfl⟩
    gi_wp2_with fail
    refine wpIn_wide.2 ?_
    refine wp_region_noPanic ?_
    refine wp_region_held_drew (S := (fun w' => Mine BW W w' ∧ w'.cell? ⟨B1, 0, none⟩ = some (.slice A7 o.length c7) ∧ w'.cell? ⟨B1 + 1, 0, none⟩ = some (.int .i64 (n : Int)))) (by kernel_rfl) ?_ (fun hHeld => ?_)
    · exact ⟨⟨by rw [← hBW']; exact Nat.le_refl _, (Below.refl _ _).drew⟩, hc1, hc2⟩
    refine wpAnyH_take (i := 0) (oi := { dst := some 34, op := Op.load 22 (Operand.tmp 5), type := 22, pos := "dots.go:68", after := #[], guard := none }) (v := ?v0_0) rfl (by kernel_rfl) (by kernel_rfl) (by kernel_rfl) (fun _ _ _ h => h) (Or.inl ⟨by rfl, ?y0_0⟩) (by assumption) ?r0_0
    case y0_0 => intro w hSw; (try dsimp only at hSw); go_simp; try with_reducible rfl
    try simp only [Act.put, List.setIfInBounds_toArray, List.set_cons_zero, List.set_cons_succ]
    refine wpAnyH_take (i := 1) (oi := { dst := some 35, op := Op.move (Operand.tmp 0), type := 22, pos := "dots.go:68", after := #[], guard := none }) (v := ?v1_1) rfl (by kernel_rfl) (by kernel_rfl) (by kernel_rfl) (fun _ _ _ h => h) (Or.inl ⟨by rfl, ?y1_1⟩) (by assumption) ?r1_1
    case y1_1 => intro w hSw; (try dsimp only at hSw); go_simp; try with_reducible rfl
    try simp only [Act.put, List.setIfInBounds_toArray, List.set_cons_zero, List.set_cons_succ]
    refine wpAnyH_take (i := 2) (oi := { dst := some 36, op := Op.load 3 (Operand.tmp 6), type := 3, pos := "dots.go:68", after := #[], guard := none }) (v := ?v2_2) rfl (by kernel_rfl) (by kernel_rfl) (by kernel_rfl) (fun _ _ _ h => h) (Or.inl ⟨by rfl, ?y2_2⟩) (by assumption) ?r2_2
    case y2_2 => intro w hSw; (try dsimp only at hSw); go_simp; try with_reducible rfl
    try simp only [Act.put, List.setIfInBounds_toArray, List.set_cons_zero, List.set_cons_succ]
    refine wpAnyH_take (i := 3) (oi := { dst := some 37, op := Op.slice 22 (Operand.tmp 35) (some (Operand.tmp 36)) none none, type := 22, pos := "dots.go:68", after := #[{ on := 1, ground := Ground.data }, { on := 2, ground := Ground.data }], guard := none }) (v := ?v3_3) rfl (by kernel_rfl) (by kernel_rfl) (by kernel_rfl) (fun _ _ _ h => h) (Or.inl ⟨by rfl, ?y3_3⟩) (by assumption) ?r3_3
    case y3_3 => intro w hSw; (try dsimp only at hSw); go_simp; try with_reducible rfl
    try simp only [Act.put, List.setIfInBounds_toArray, List.set_cons_zero, List.set_cons_succ]
    refine wpAnyH_ready (rs := [4]) (by kernel_rfl) (by simp) (AllReadyH.cons (o := { dst := some 38, op := Op.call { callee := Callee.value (Operand.func 31), args := #[Operand.tmp 37], argTypes := #[22] }, type := 22, pos := "dots.go:68", after := #[{ on := 3, ground := Ground.data }], guard := none }) rfl (fun K hK => ?_) AllReadyH.nil)
    go_simp
    refine (HCL.out _ (by rw [hBW']; exact hHeld.1.bel)).mono ?_; rintro e w4 ⟨u, rfl, ho, hb4⟩; have hsu := ho.reads
    go_wp2_with fail
    refine hK.out _ _ ?_ (fun hHeld => ?_)
    · (try dsimp only); (go_split_ands; (repeat' apply And.intro) <;> first | assumption | exact Mine.call (by assumption) (by assumption) | exact Mine.alloc (by assumption) _ | exact Mine.setCells (by assumption) _ _ _ (by omega) | exact Mine.callN (by assumption) (by assumption) (by omega) | exact Row.belowN (by assumption) (by assumption) (by omega) | exact there_belowN (by assumption) (by assumption) (by omega) | exact rangeAt_below (by assumption) (by assumption) | exact World.rangeAt_alloc (by assumption) _ | exact World.rangeAt_setCells_apart (by assumption) _ _ _ (Or.inl (by omega)) | exact there_below (by assumption) (by assumption) | exact World.there_alloc (by assumption) _ | exact World.there_setCells (by assumption) _ _ _ | exact Row.belowS (by assumption) (by assumption) | exact Row.alloc (by assumption) _ | exact Row.setCells (by assumption) _ _ (by omega) | exact HS.below (by assumption) (by assumption) | exact SB.below (by assumption) (by assumption) | exact HS.alloc (by assumption) _ | exact Box.call (by assumption) (by assumption) | exact Box.alloc (by assumption) _ | exact Box.put (by assumption) _ (by assumption) | exact cell_below (by assumption) (by assumption) | exact Lib.cell?_alloc_some _ (by assumption))
    clear hK K
    try simp only [Act.put, List.setIfInBounds_toArray, List.set_cons_zero, List.set_cons_succ]
    refine wpAnyH_take (i := 5) (oi := { dst := some 2, op := Op.assign (Operand.tmp 34), type := 22, pos := "dots.go:68", after := #[{ on := 0, ground := Ground.data }, { on := 4, ground := Ground.chain }, { on := 0, ground := Ground.phase }, { on := 1, ground := Ground.textOnly Departure.lateStores }, { on := 2, ground := Ground.textOnly Departure.lateStores }, { on := 3, ground := Ground.textOnly Departure.lateStoresUnsure }, { on := 4, ground := Ground.textOnly Departure.lateStoresUnsure }], guard := none }) (v := ?v5_4) rfl (by kernel_rfl) (by kernel_rfl) (by kernel_rfl) (fun _ _ _ h => h) (Or.inl ⟨by rfl, ?y5_4⟩) (by assumption) ?r5_4
    case y5_4 => intro w hSw; (try dsimp only at hSw); go_simp; try with_reducible rfl
    try simp only [Act.put, List.setIfInBounds_toArray, List.set_cons_zero, List.set_cons_succ]
    refine wpAnyH_take (i := 6) (oi := { dst := some 3, op := Op.assign (Operand.tmp 38), type := 22, pos := "dots.go:68", after := #[{ on := 4, ground := Ground.data }, { on := 5, ground := Ground.chain }, { on := 0, ground := Ground.phase }, { on := 1, ground := Ground.phase }, { on := 2, ground := Ground.phase }, { on := 3, ground := Ground.phase }, { on := 4, ground := Ground.phase }, { on := 5, ground := Ground.phase }], guard := none }) (v := ?v6_5) rfl (by kernel_rfl) (by kernel_rfl) (by kernel_rfl) (fun _ _ _ h => h) (Or.inl ⟨by rfl, ?y6_5⟩) (by assumption) ?r6_5
    case y6_5 => intro w hSw; (try dsimp only at hSw); go_simp; try with_reducible rfl
    try simp only [Act.put, List.setIfInBounds_toArray, List.set_cons_zero, List.set_cons_succ]
    refine wpAnyH_take (i := 7) (oi := { dst := some 4, op := Op.assign (Operand.const (Value.bool true)), type := 4, pos := "dots.go:68", after := #[{ on := 6, ground := Ground.chain }, { on := 0, ground := Ground.phase }, { on := 1, ground := Ground.phase }, { on := 2, ground := Ground.phase }, { on := 3, ground := Ground.phase }, { on := 4, ground := Ground.phase }, { on := 5, ground := Ground.phase }, { on := 6, ground := Ground.phase }], guard := none }) (v := ?v7_6) rfl (by kernel_rfl) (by kernel_rfl) (by kernel_rfl) (fun _ _ _ h => h) (Or.inl ⟨by rfl, ?y7_6⟩) (by assumption) ?r7_6
    case y7_6 => intro w hSw; (try dsimp only at hSw); go_simp; try with_reducible rfl
    try simp only [Act.put, List.setIfInBounds_toArray, List.set_cons_zero, List.set_cons_succ]
    refine wpAnyH_done (by kernel_rfl) ?_ _
    refine NoPanic.normal ?_
    have hm := hHeld.1
    have hbb : Below w.heap.size w w4 := HBEL.out.trans (hm.bel.mono (by rw [← hBW']; exact HBEL.out.size))
    have hK2 : w4.heap[dk]? = some (.deferred (some [])) := (hm.bel.block dk (by omega)).trans HK.out
    have ho4 : SB w4 (.slice A7 o.length c7) o := HO.out.below (by rw [hBW']; exact hm.bel)
    have HSU := Lib.hid hsu
    have HBB := Lib.hid hbb
    have HK2 := Lib.hid hK2
    have HO4 := Lib.hid ho4
    clear hHeld hm hbb hK2 ho4 hsu ho hb4
    gi_wp2
    refine ⟨by simp, .inl ⟨_, _, rfl, run_takeDeferred HK2.out, ?_⟩⟩
    refine ⟨_, results_tmp3 rfl _ _ _, .slice A7 o.length c7, u, by rw [RB.out]; rfl, ?_, ?_, ?_⟩
    · rw [RX.out]; exact SB_put HO4.out HK2.out
    · rw [RR.out]; exact SB_put HSU.out HK2.out
    · exact belowK_bD HBB.out dk _ (by omega)
end Go.Proofs.Ythcggjehihkdoaa
