/- All records at the beginning of some bytes. -/
import Derived.RangeFuncNested
import Derived.RangeFuncBound
import Derived.RangeFuncCalls
import Derived.RangeFuncLeaves
import Derived.Shelf.Abstract
import Derived.Shelf.RegionOpen
import Derived.WalkKit
import Derived.OwnWalkIn
import Derived.TacticsInMore
import Derived.LoopNIn
import Derived.LoopIn
import Derived.Outline
import Derived.Lib.Hide
import Derived.Lib.SliceRun
import Derived.IntWalk
import Derived.WalkLawsBesides
import Derived.WalkSpells
import Derived.Laws.BitsAllLaws
import Derived.Lib.ConvBytes
import Derived.Maps.AppendAt
import Derived.Lib.AppendStr
import Derived.Lib.SlBytesConst
import Derived.Laws.AppendOwnNone
import Derived.Laws.OwnMore
import Derived.Laws.BytesArg
import Derived.Deep.RegionHeld3
import Derived.BigQuiet
import Derived.Deep.RegionLaw
import Derived.Deep.QuietTactic
import Derived.Test.YtlgmocmekmppeaaProg
import Derived.Test.YtlgmocmekmppeaaFrJ
set_option linter.unusedVariables false
set_option linter.unusedSimpArgs false
namespace Go.Proofs.Ytlgmocmekmppeaa
open Go Go.RowKit Go.Shelf
attribute [local go_sem] Oper.semAt_some

theorem info22 : (Try.prog.info? 22).map (fun i => (i.zero, i.size, i.bytes)) = some (some (.slice none 0 0), 1, 24) := by kernel_rfl

def allR (l : List UInt8) : List (List UInt8) := (recsAt l.length 0 l).map (·.2)
def usedAt (l : List UInt8) (k : Nat) : Nat := if k = 0 then 0 else ((recsAt l.length 0 l)[k - 1]?.getD (0, [])).1
def allN (l : List UInt8) : Nat := usedAt l (recsAt l.length 0 l).length

/-- what has been collected lies in blocks that D names (or below n₀) -/
def Coll (n₀ : Nat) (D : Nat → Prop) (W : World) (vs : List Value) (ls : List (List UInt8)) : Prop :=
  vs.length = ls.length ∧ ∀ i, i < ls.length → ∃ u, vs[i]? = some u ∧ SBD n₀ (fun b => ¬ D b) W u (ls[i]?.getD [])
theorem Coll.nil (n₀ : Nat) (D : Nat → Prop) (W : World) : Coll n₀ D W [] [] := ⟨rfl, fun i h => by simp at h⟩
theorem SBD.mono {n₀ : Nat} {M M' : Nat → Prop} {W : World} {v : Value} {l : List UInt8} (h : SBD n₀ M W v l) (hM : ∀ b, b < W.heap.size → ¬ M b → ¬ M' b) : SBD n₀ M' W v l := by
  rcases h with h | ⟨ad, c, rfl, h1, h2, h3⟩
  · exact .inl h
  · refine .inr ⟨ad, c, rfl, h1, h2, fun h0 => ?_⟩
    obtain ⟨g, o, rfl, hg, hc⟩ := h3 h0
    exact ⟨g, o, rfl, hg.imp id (fun ⟨h, r⟩ => ⟨hM g (World.block_lt_of_cell? W _ (hc 0 h0)) h, r⟩), hc⟩
theorem Coll.keep {n₀ : Nat} {D : Nat → Prop} {W W' : World} {vs : List Value} {ls : List (List UInt8)} (h : Coll n₀ D W vs ls) (hk : KeepOn n₀ D W W') : Coll n₀ D W' vs ls :=
  ⟨h.1, fun i hi => by
    obtain ⟨u, hu, hs⟩ := h.2 i hi
    exact ⟨u, hu, hs.keep hk (fun b _ _ _ hb => Classical.byContradiction hb)⟩⟩
theorem Coll.mono {n₀ : Nat} {D D' : Nat → Prop} {W : World} {vs : List Value} {ls : List (List UInt8)} (h : Coll n₀ D W vs ls) (hD : ∀ b, b < W.heap.size → D b → D' b) : Coll n₀ D' W vs ls :=
  ⟨h.1, fun i hi => by
    obtain ⟨u, hu, hs⟩ := h.2 i hi
    exact ⟨u, hu, hs.mono (fun b hb h h' => h' (hD b hb (Classical.byContradiction h)))⟩⟩
theorem Coll.snoc {n₀ : Nat} {D : Nat → Prop} {W : World} {vs : List Value} {ls : List (List UInt8)} {u : Value} {l : List UInt8} (h : Coll n₀ D W vs ls) (hu : SBD n₀ (fun b => ¬ D b) W u l) : Coll n₀ D W (vs ++ [u]) (ls ++ [l]) := by
  refine ⟨by simp [h.1], fun i hi => ?_⟩
  by_cases h' : i < ls.length
  · obtain ⟨x, hx, hs⟩ := h.2 i h'
    exact ⟨x, by rw [List.getElem?_append_left (by rw [h.1]; exact h')]; exact hx, by rw [List.getElem?_append_left h']; exact hs⟩
  · have : i = ls.length := by simp at hi; omega
    subst this
    exact ⟨u, by rw [List.getElem?_append_right (by rw [h.1]; exact Nat.le_refl _), h.1]; simp, by simpa using hu⟩
/-- a row that holds slices is a slice of slices -/
theorem SS_of_row {W : World} {base n₀ : Nat} {D : Nat → Prop} {v : Value} {vs : List Value} {ls : List (List UInt8)} (h : W.ownsRow base 22 1 v ls.length vs) (hc : Coll n₀ D W vs ls) : SS W v ls := by
  obtain ⟨hl, h2⟩ := h
  rcases h2 with ⟨rfl, h0⟩ | ⟨g, cap, cur, rfl, hb, hg, hcap, hm, hs, ht⟩
  · have : ls = [] := List.length_eq_zero_iff.1 h0
    subst this
    exact .inl ⟨rfl, rfl⟩
  · refine .inr ⟨_, cap, rfl, ⟨hcap, by unfold maxLen at hm; omega⟩, fun _ => ⟨g, 0, rfl, fun i hi => ?_⟩⟩
    obtain ⟨u, hu, hsb⟩ := hc.2 i hi
    refine ⟨u, ?_, hsb.sb⟩
    rw [← ht, Nat.mul_one, List.getElem?_take_of_lt hi] at hu
    simp only [World.cell?, hg, Nat.zero_add]
    simpa using hu

def AllI (n₀ B1 B2 : Nat) (w : World) (l : List UInt8) (k : Nat) (D : Nat → Prop) (W : World) : Prop :=
  ∃ v vs, Boxed W B1 35 v ∧ W.ownsRow n₀ 22 1 v k vs ∧ Boxed W B2 3 (.int .i64 (usedAt l k : Nat)) ∧ D B1 ∧ D B2 ∧ (∀ r, v.ownBlock = some r → D r) ∧ Coll n₀ D W vs ((allR l).take k) ∧ Below n₀ w W ∧ n₀ ≤ W.heap.size ∧ k ≤ (allR l).length
theorem AllI.stable (n₀ B1 B2 : Nat) (w : World) (l : List UInt8) : StableD n₀ (AllI n₀ B1 B2 w l) := by
  rintro k D W W' ⟨v, vs, h1, h2, h3, h4, h5, h6, h7, h8, h9, h10⟩ hk
  refine ⟨v, vs, boxed_keepOn h1 hk (.inr h4), ?_, boxed_keepOn h3 hk (.inr h5), h4, h5, h6, h7.keep hk, h8.trans (hk.below h9), Nat.le_trans h9 hk.size, h10⟩
  obtain ⟨hl, h⟩ := h2
  refine ⟨hl, ?_⟩
  rcases h with h | ⟨g, cap, cur, rfl, hb, hg, r⟩
  · exact .inl h
  · exact .inr ⟨g, cap, cur, rfl, hb, (hk.block g (Array.getElem?_eq_some_iff.1 hg).1 (.inr (h6 g rfl))).trans hg, r⟩

theorem recsAt_len : ∀ (f pos : Nat) (s : List UInt8), (recsAt f pos s).length ≤ f
  | 0, _, _ => by simp [recsAt]
  | f + 1, pos, s => by
    unfold recsAt
    split
    · simp; exact recsAt_len f _ _
    · simp
theorem ownsRow_keepOn {n₀ base : Nat} {D : Nat → Prop} {W W' : World} {e : TypeId} {size : Nat} {v : Value} {k : Nat} {xs : List Value} (h : W.ownsRow base e size v k xs) (hk : KeepOn n₀ D W W') (hd : ∀ r, v.ownBlock = some r → D r) : W'.ownsRow base e size v k xs := by
  obtain ⟨hl, h⟩ := h
  refine ⟨hl, ?_⟩
  rcases h with h | ⟨g, cap, cur, rfl, hb, hg, r⟩
  · exact .inl h
  · exact .inr ⟨g, cap, cur, rfl, hb, (hk.block g (Array.getElem?_eq_some_iff.1 hg).1 (.inr (hd g rfl))).trans hg, r⟩

/-- what a round of All leaves -/
theorem all_round {n₀ B1 B2 k : Nat} {l : List UInt8} {w W w1 : World} {x : Nat × List UInt8} {D M : Nat → Prop} {v v' u : Value} {vs : List Value} {tmp : Obj}
    (hx : (recsAt l.length 0 l)[k]? = some x) (h1 : Boxed W B1 35 v) (h2 : W.ownsRow n₀ 22 1 v k vs) (h3 : Boxed W B2 3 (.int .i64 (usedAt l k : Nat))) (h4 : D B1) (h5 : D B2) (h6 : ∀ r, v.ownBlock = some r → D r) (h7 : Coll n₀ D W vs ((allR l).take k)) (h8 : Below n₀ w W) (h9 : n₀ ≤ W.heap.size)
    (hne : B1 ≠ B2) (hB1 : n₀ ≤ B1) (hB2 : n₀ ≤ B2) (hu : SBD n₀ M W u x.2) (hDb : ∀ b, D b → b < W.heap.size) (hMD : ∀ b, M b → b < W.heap.size ∧ ¬ D b)
    (hown : w1.ownsRow n₀ 22 1 v' (k + 1) (vs ++ [u])) (hgrow : (W.alloc tmp).grownBy w1 v.ownBlock) (hnew : ∀ r, v'.ownBlock = some r → v.ownBlock = some r ∨ W.heap.size ≤ r)
    (hv1 : Boxed w1 B1 35 v) (hv2 : Boxed w1 B2 3 (.int .i64 (usedAt l k : Nat))) :
    ∃ D', (∀ b, D' b → b < ((w1.setCell ⟨B1, 0, none⟩ v').setCell ⟨B2, 0, none⟩ (.int .i64 (x.1 : Int))).heap.size ∧ ¬ M b) ∧ KeepOn n₀ M W ((w1.setCell ⟨B1, 0, none⟩ v').setCell ⟨B2, 0, none⟩ (.int .i64 (x.1 : Int))) ∧ AllI n₀ B1 B2 w l (k + 1) D' ((w1.setCell ⟨B1, 0, none⟩ v').setCell ⟨B2, 0, none⟩ (.int .i64 (x.1 : Int))) := by
  have hM1 : ¬ M B1 := fun h => (hMD B1 h).2 h4
  have hM2 : ¬ M B2 := fun h => (hMD B2 h).2 h5
  have k1 : KeepOn n₀ M W w1 := (KeepOn.alloc n₀ M W tmp).trans (KeepOn.of_grown hgrow (fun r hr => ⟨(h2.lt r hr).1, fun h => (hMD r h).2 (h6 r hr)⟩))
  have k2 : KeepOn n₀ M W (w1.setCell ⟨B1, 0, none⟩ v') := k1.trans (KeepOn.setCell w1 B1 v' hB1 hM1)
  have k3 := k2.trans (KeepOn.setCell (w1.setCell ⟨B1, 0, none⟩ v') B2 (.int .i64 (x.1 : Int)) hB2 hM2)
  have hs3 : ((w1.setCell ⟨B1, 0, none⟩ v').setCell ⟨B2, 0, none⟩ (.int .i64 (x.1 : Int))).heap.size = w1.heap.size := by simp [World.setCell]
  have hn1 : ∀ r, v'.ownBlock = some r → r ≠ B1 ∧ r ≠ B2 := fun r hr => ⟨fun e => by subst e; exact (hv1.not_row (by decide) hown) hr.symm, fun e => by subst e; exact (hv2.not_row (by decide) hown) hr.symm⟩
  refine ⟨fun b => b < w1.heap.size ∧ ¬ M b, fun b h => by rw [hs3]; exact h, k3, v', vs ++ [u], ?_, ?_, ?_, ?_, ?_, ?_, ?_, h8.trans (k3.below h9), Nat.le_trans h9 k3.size, ?_⟩
  · exact (hv1.set v').other hne _
  · refine hown.kept (row := some B1) (grownBy_setCell' w1 B1 v') (.inr (hv1.not_row (by decide) hown).symm) |>.kept (row := some B2) (grownBy_setCell' _ B2 _) (.inr (hv2.not_row (by decide) hown).symm)
  · have : usedAt l (k + 1) = x.1 := by simp [usedAt, hx]
    rw [this]
    exact (hv2.other (Ne.symm hne) _).set _
  · exact ⟨hv1.lt, hM1⟩
  · exact ⟨hv2.lt, hM2⟩
  · intro r hr
    refine ⟨(hown.lt r hr).2, fun h => ?_⟩
    rcases hnew r hr with h' | h'
    · exact (hMD r h).2 (h6 r h')
    · have := (hMD r h).1; omega
  · have e : (allR l).take (k + 1) = (allR l).take k ++ [x.2] := by
      have hk : k < (allR l).length := by unfold allR; rw [List.length_map]; exact (List.getElem?_eq_some_iff.1 hx).1
      rw [List.take_succ_eq_append_getElem hk]
      have := congrArg (Option.map Prod.snd) hx
      rw [← List.getElem?_map] at this
      have h' : (allR l)[k]? = some x.2 := this
      rw [List.getElem?_eq_getElem hk] at h'
      rw [Option.some.inj h']
    rw [e]
    have hk4 : KeepOn n₀ (fun b => some b ≠ v.ownBlock ∧ b ≠ B1 ∧ b ≠ B2) W ((w1.setCell ⟨B1, 0, none⟩ v').setCell ⟨B2, 0, none⟩ (.int .i64 (x.1 : Int))) :=
      (((KeepOn.alloc n₀ _ W tmp).trans (KeepOn.of_grown hgrow (fun r hr => ⟨(h2.lt r hr).1, fun h => h.1 hr.symm⟩))).trans (KeepOn.setCell w1 B1 v' hB1 (fun h => h.2.1 rfl))).trans (KeepOn.setCell _ B2 _ hB2 (fun h => h.2.2 rfl))
    have hty : ∀ b cs fr, W.heap[b]? = some (.cells cs 5 fr) → some b ≠ v.ownBlock ∧ b ≠ B1 ∧ b ≠ B2 := by
      intro b cs fr hb
      refine ⟨fun e => ?_, fun e => ?_, fun e => ?_⟩
      · rcases h2.2 with ⟨rfl, _⟩ | ⟨g, cap, cur, rfl, _, hg, _⟩
        · simp [Value.ownBlock] at e
        · obtain rfl : b = g := by simpa [Value.ownBlock] using e
          rw [hb] at hg; simp at hg
      · subst e; have := hb.symm.trans h1; simp at this
      · subst e; have := hb.symm.trans h3; simp at this
    refine Coll.snoc ⟨h7.1, fun i hi => ?_⟩ ?_
    · obtain ⟨u', hu', hs'⟩ := h7.2 i hi
      refine ⟨u', hu', (hs'.keep hk4 (fun b cs fr hb _ => hty b cs fr hb)).mono (fun b _ h h' => h' ?_)⟩
      have hDb' := Classical.byContradiction h
      exact ⟨Nat.lt_of_lt_of_le (hDb b hDb') k1.size, fun hm => (hMD b hm).2 hDb'⟩
    · exact (hu.keep hk4 (fun b cs fr hb _ => hty b cs fr hb)).mono (fun b hb h h' => h' ⟨by rw [hs3] at hb; exact hb, h⟩)
  · unfold allR; rw [List.length_map]; exact (List.getElem?_eq_some_iff.1 hx).1

set_option maxRecDepth 100000 in
set_option maxHeartbeats 4000000 in
theorem all_any (v : Value) (l : List UInt8) (w : World) (hlen : l.length ≤ 1000000) (h : SB w v l) :
    Calls Try.prog 23 #[v] w fun e w' => ∃ v', e = .returned (.tuple #[v', .int .i64 (allN l : Nat)]) ∧ SS w' v' (allR l) ∧ Below w.heap.size w w' := by
  obtain ⟨A, c, rfl, h1, h2, -⟩ := h.form
  obtain ⟨i0, hi, hz0, hz1, hz2⟩ := info_parts info22
  have Hs := Lib.hid h
  clear h
  refine (callsIn_wide (n := 0)).1 ?_
  refine callsIn_of_wp_marks Try.func23 rfl trivial ?_
  simp only [Try.ntmps23, List.size_toArray, List.length_cons, List.length_nil, Nat.reduceAdd, Nat.reduceSub, Array.replicate_succ, Array.replicate_zero, List.push_toArray, List.append_toArray, List.nil_append, List.cons_append]
  gi_wp2_with fail
  refine ⟨trivial, rfl, (callsIn_wide.2 (each_any _ _ _ _)).mono ?_⟩
  rintro e w1 ⟨rfl, rfl⟩
  gi_wp2_with fail
  have hb1 := Boxed.new w 35 (.slice none 0 0)
  have hb2 := Boxed.new (w.alloc (.cells #[.slice none 0 0] 35)) 3 (.int .i64 0)
  rw [World.size_alloc] at hb2
  have hb3 := Boxed.new ((w.alloc (.cells #[.slice none 0 0] 35)).alloc (.cells #[.int .i64 0] 3)) 22 (.slice A l.length c)
  rw [World.size_alloc, World.size_alloc] at hb3
  have hB0 : Below w.heap.size w (((w.alloc (.cells #[.slice none 0 0] 35)).alloc (.cells #[.int .i64 0] 3)).alloc (.cells #[.slice A l.length c] 22)) := (((Below.refl _ w).alloc (Nat.le_refl _) _).alloc (by simp) _).alloc (by simp; omega) _
  refine wpIn_rangeFunc_D (gf := 55) (lb := #[.pointer (some ⟨w.heap.size + 1 + 1, 0, none⟩)]) (n₀ := w.heap.size) rfl (enters_of Try.func55 (by kernel_rfl) rfl)
    (each1_seq w.heap.size (w.heap.size + 1 + 1) A c l hlen w _ rfl Hs.out hB0 (by omega) hb3) (fun x az _ _ h => by obtain ⟨v, rfl, _⟩ := h; rfl)
    (fun x az M W lp dk r o ds h h1 h2 => by obtain ⟨v, rfl, hv⟩ := h; exact ⟨v, rfl, hv.loop h1 h2⟩) (by simp; omega) (Below.refl _ _)
    (fun b => b = w.heap.size ∨ b = w.heap.size + 1) (fun b h => by simp; omega) (fun b h => by subst h; exact ⟨by omega, by simp, rfl⟩)
    (AllI w.heap.size w.heap.size (w.heap.size + 1) w l) (fun _ _ _ _ => False) (AllI.stable _ _ _ _ _) (fun c k D W W' h _ => h)
    ⟨_, [], (hb1.alloc _).alloc _, World.ownsRow_nil _ _ _ _, hb2.alloc _, .inl rfl, .inr rfl, fun r hr => by simp [Value.ownBlock] at hr, by simpa using Coll.nil _ _ _, hB0, by simp; omega, by omega⟩
    (fun az => { tmps := #[.slice A l.length c, undef, .slice none 0 0, .int .i64 0, .pointer (some ⟨w.heap.size, 0, none⟩), .pointer (some ⟨w.heap.size + 1, 0, none⟩), az[0]?.getD undef, az[1]?.getD undef, .slice A l.length c, .func (.func 55) #[] #[.pointer (some ⟨w.heap.size + 1 + 1, 0, none⟩)], az[0]?.getD undef, az[1]?.getD undef, undef, undef, undef, undef, undef, undef, undef], defers := [] }) ?assign ?body ?done ?stop
  case assign =>
    rintro lp x az M W K ⟨v, rfl, hv⟩ hK
    obtain ⟨A', c', rfl, -, -, -⟩ := hv.sb.form
    gi_wp2
    exact hK
  case body =>
    rintro lp k x az D M W hx ⟨u, rfl, hu⟩ ⟨v, vs, h1, h2, h3, h4, h5, h6, h7, h8, h9, h10⟩ hDb hMD
    have hk : k < (recsAt l.length 0 l).length := (List.getElem?_eq_some_iff.1 hx).1
    have hkl := recsAt_len l.length 0 l
    obtain ⟨A', c', hu', -, -, -⟩ := hu.sb.form
    subst hu'
    have c1 := h1.cell
    have f1 := h1.frozen
    have c2 := h3.cell
    have f2 := h3.frozen
    have Hx := Lib.hid hx
    have HD := Lib.hid hMD
    have HDb := Lib.hid hDb
    clear hx hMD hDb
    gi_wp2_with (gi_at_builtin; refine wpListIn_append_lies _ rfl _ _ 35 rfl w.heap.size 22 i0 (.slice none 0 0) 1 24 Try.underlying35 hi hz0 hz1 hz2 rfl (by decide) _ _ _ rfl (h2.alloc _) ⟨W.heap.size, 0, none⟩ 1 1 [.slice A' x.2.length c'] rfl rfl (cell_one_new _ _ _) (by simp [Value.oneCell']) (by decide) (by unfold maxLen; omega) (by omega) (by simp; omega) ?_; intro g' cap' w1 hown' hgrow hlies; have hv1 := (h1.alloc _).kept hgrow (h1.not_row (by decide) h2); have hv2 := (h3.alloc _).kept hgrow (h3.not_row (by decide) h2); have e1 := hv1.cell; have e2 := hv1.frozen; have e3 := hv2.cell; have e4 := hv2.frozen)
    exact all_round Hx.out h1 h2 h3 h4 h5 h6 h7 h8 h9 (by omega) (Nat.le_refl _) (by omega) hu HDb.out HD.out hown' hgrow (fun r hr => by
      have : g' = r := by simpa [Value.ownBlock] using hr
      subst this
      exact hlies.imp id (fun h => by rw [h]; simp)) hv1 hv2
  case done =>
    rintro dk D W hdk0 ⟨v, vs, h1, h2, h3, h4, h5, h6, h7, h8, h9, h10⟩ hK hDk
    have hdk2 : w.heap.size ≤ dk := by simp at hdk0; omega
    clear hdk0
    have c1 := h1.cell
    have c2 := h3.cell
    gi_wp2
    refine wpIn_wide.2 ?_
    go_quiet (fail)
    gi_wp2
    have hlen' : (recsAt l.length 0 l).length = (allR l).length := by simp [allR]
    have hK' : (W.drewN nq).heap[dk]? = some (.deferred (some [])) := hK
    refine ⟨by simp, .inl ⟨_, _, rfl, run_takeDeferred hK', ?_⟩⟩
    refine ⟨_, results_tmp2 rfl _ _ _, v, rfl, ?_, ?_⟩
    · have hc := h7
      rw [hlen', List.take_length] at hc
      rw [hlen'] at h2
      have hkp : KeepOn w.heap.size D W ((W.drewN nq).putObj dk (.deferred none)) := (KeepOn.of_below (below_drewN (Below.refl _ _) nq)).trans (KeepOn.putObj _ dk _ (by omega) hDk)
      exact SS_of_row (ownsRow_keepOn h2 hkp h6) (hc.keep hkp)
    · exact (below_drewN h8 nq).trans (belowK_b (w := w) (Nat.le_refl _) _ dk _ _ hdk2 hK' rfl rfl)
  case stop =>
    rintro dk c k D W _ h _ _
    exact h.elim
end Go.Proofs.Ytlgmocmekmppeaa
