/- retain.Choose. -/
import Derived.RangeFuncNested
import Derived.RangeFuncBound
import Derived.RangeFuncCalls
import Derived.RangeFuncLeaves
import Derived.Shelf.Abstract
import Derived.Shelf.RegionOpen
import Derived.WalkKit
import Derived.OwnWalkIn
import Derived.TacticsInMore
import Derived.LoopNIn
import Derived.LoopIn
import Derived.Outline
import Derived.Lib.Hide
import Derived.Lib.SliceRun
import Derived.IntWalk
import Derived.WalkLawsBesides
import Derived.WalkSpells
import Derived.Laws.BitsAllLaws
import Derived.Lib.ConvBytes
import Derived.Maps.AppendAt
import Derived.Lib.AppendStr
import Derived.Lib.SlBytesConst
import Derived.Laws.AppendOwnNone
import Derived.Laws.OwnMore
import Derived.Laws.BytesArg
import Derived.Deep.RegionHeld3
import Derived.BigQuiet
import Derived.Deep.RegionLaw
import Derived.Deep.QuietTactic
import Derived.Lib.OthersKept
import Derived.Test.YtofdfcngmkkfdaaProg
import Derived.Deep.DeepFit
import Derived.Test.YtofdfcngmkkfdaaReJ
set_option linter.unusedVariables false
set_option linter.unusedSimpArgs false
namespace Go.Proofs.Ytofdfcngmkkfdaa
open Go Go.RowKit Go.Shelf
attribute [local go_sem] Oper.semAt_some

/-- deferred marks of ranges over functions: each block its own, empty -/
def Marks (A : Nat) (W : World) : List Deferred → Prop
  | [] => True
  | d :: ds => (∃ r, d = { target := .collected r, args := #[] } ∧ A ≤ r ∧ r < W.heap.size ∧ W.heap[r]? = some (.deferred (some [])) ∧ ∀ d' ∈ ds, d'.target ≠ .collected r) ∧ Marks A W ds
theorem Marks.kept {A : Nat} {W W' : World} (hs : W.heap.size ≤ W'.heap.size) (h : ∀ r, A ≤ r → r < W.heap.size → W'.heap[r]? = W.heap[r]?) : ∀ {ds : List Deferred}, Marks A W ds → Marks A W' ds
  | [], _ => trivial
  | d :: ds, ⟨⟨r, e, h1, h2, h3, h4⟩, hm⟩ => ⟨⟨r, e, h1, Nat.lt_of_lt_of_le h2 hs, (h r h1 h2).trans h3, h4⟩, Marks.kept hs h hm⟩
theorem Marks.lt {A : Nat} {W : World} : ∀ {ds : List Deferred}, Marks A W ds → ∀ d ∈ ds, ∀ r, d.target = .collected r → r < W.heap.size
  | d :: ds, ⟨⟨r, e, _, h2, _, _⟩, hm⟩, x, hx, q, hq => by
    rcases List.mem_cons.1 hx with rfl | hx
    · subst e; cases hq; exact h2
    · exact Marks.lt hm x hx q hq
theorem Marks.put {A r : Nat} {W : World} {o : Obj} : ∀ {ds : List Deferred}, Marks A W ds → (∀ d ∈ ds, d.target ≠ .collected r) → Marks A (W.putObj r o) ds
  | [], _, _ => trivial
  | d :: ds, ⟨⟨q, e, h1, h2, h3, h4⟩, hm⟩, hne => by
    refine ⟨⟨q, e, h1, by simpa using h2, ?_, h4⟩, Marks.put hm (fun x hx => hne x (List.mem_cons_of_mem _ hx))⟩
    have : q ≠ r := fun hqr => hne d List.mem_cons_self (by rw [e, hqr])
    exact (World.putObj_heap_other this).trans h3
theorem leaves_marks {fn : Func} {tmps : Array Value} {R : Ending → World → Prop} {B A n0 : Nat} {p : Tmp} {res : ByteArray} {w0 : World} (hres : fn.results = #[.cell p 9]) (hp : tmps.getD p undef = .pointer (some ⟨B, 0, none⟩)) (hBA : B < A) (hn : n0 ≤ A)
    (hR : ∀ W', Below n0 w0 W' → R (.returned (.string res)) W') : ∀ (ds : List Deferred) (W : World), Marks A W ds → Boxed W B 9 (.string res) → Below n0 w0 W → n0 ≤ W.heap.size → LeavesInM Fence.wide 0 Try.prog fn tmps R ds .returning W
  | [], W, _, hb, hB, _ => by
    have hc := hb.cell
    have hp' : tmps[p]?.getD undef = .pointer (some ⟨B, 0, none⟩) := by rw [← Array.getD_eq_getD_getElem?]; exact hp
    exact ⟨.string res, by simp [results, hres, hp', go_sem, hc], hR W hB⟩
  | d :: ds, W, ⟨⟨r, e, h1, h2, h3, h4⟩, hm⟩, hb, hB, hs => by
    subst e
    refine ⟨by simp, .inl ⟨r, _, rfl, run_takeDeferred h3, ?_⟩⟩
    refine leaves_marks hres hp hBA hn hR ds _ (hm.put h4) ((World.putObj_heap_other (by omega)).trans hb) (hB.trans ((KeepOn.putObj (n₀ := n0) (D := fun _ => False) W r _ (by omega) (fun h => h)).below hs)) (by simpa using hs)
/-- the class of the first rule that fits -/
def chG (p : Ru → Bool) (z : ByteArray) : List Ru → ByteArray
  | [] => z
  | r :: rs => if p r then r.2 else chG p z rs
theorem chG_step (p : Ru → Bool) (z : ByteArray) (l : List Ru) (k : Nat) (h : k < l.length) : chG p z (l.drop k) = if p l[k] then l[k].2 else chG p z (l.drop (k + 1)) := by
  rw [List.drop_eq_getElem_cons h]; rfl
theorem chG_end (p : Ru → Bool) (z : ByteArray) (l : List Ru) (k : Nat) (h : l.length ≤ k) : chG p z (l.drop k) = z := by
  rw [List.drop_eq_nil_of_le h]; rfl
/-- whether a rule is of one of the domains -/
def hitB (fr : ByteArray) (to : List ByteArray) (r : Ru) : Bool := (domsL fr to).any fun d => d.toList == r.1.toList
def dflt (cs : List Cl) : ByteArray := match cs with | [] => ⟨#[]⟩ | c :: _ => c.1
def chS (cs : List Cl) (rs : List Ru) (fr : ByteArray) (to : List ByteArray) : ByteArray := chG (hitB fr to) (dflt cs) rs
theorem Marks.kept' {A n : Nat} {W W' : World} (hB : Below n W W') (hs : n ≤ W'.heap.size) {wr : World} : ∀ {ds : List Deferred}, Marks A wr ds → Marks A W ds → wr.heap.size ≤ n → Marks A W' ds
  | [], _, _, _ => trivial
  | d :: ds, ⟨⟨q, e', _, h2', _, _⟩, hm'⟩, ⟨⟨r, e, h1, h2, h3, h4⟩, hm⟩, hn => by
    have hqr : q = r := by rw [e'] at e; cases e; rfl
    subst hqr
    exact ⟨⟨q, e, h1, by omega, (hB.block q (by omega)).trans h3, h4⟩, Marks.kept' hB hs hm' hm hn⟩
theorem any_take_snoc {α : Type} (p : α → Bool) (l : List α) (k : Nat) (x : α) (h : l[k]? = some x) : (l.take (k + 1)).any p = ((l.take k).any p || p x) := by
  have hk : k < l.length := (List.getElem?_eq_some_iff.1 h).1
  rw [List.take_succ_eq_append_getElem hk, List.any_append]
  rw [List.getElem?_eq_getElem hk] at h
  cases h
  simp
theorem any_yes {α : Type} (p : α → Bool) (l : List α) (k : Nat) (x : α) (h : l[k]? = some x) (hp : p x = true) : l.any p = true := by
  rw [List.any_eq_true]
  exact ⟨x, List.mem_of_getElem? h, hp⟩
theorem below_set2 {n B : Nat} {W W' : World} {t : TypeId} {v v0 : Value} (h : Below n W W') (hB : B < n) (hbx : Boxed W B t v0) : Below n (W.setCell ⟨B, 0, none⟩ v) (W'.setCell ⟨B, 0, none⟩ v) := by
  have s1 : (W.setCell ⟨B, 0, none⟩ v).heap.size = W.heap.size := by simp [World.setCell]
  have s2 : (W'.setCell ⟨B, 0, none⟩ v).heap.size = W'.heap.size := by simp [World.setCell]
  have hbx' : Boxed W' B t v0 := (h.block B hB).trans hbx
  have g1 := grownBy_setCell' W B v
  have g2 := grownBy_setCell' W' B v
  refine ⟨g2.os.trans (h.os.trans g1.os.symm), g2.tape.trans (h.tape.trans g1.tape.symm), g2.output.trans (h.output.trans g1.output.symm), by rw [s1, s2]; exact h.size, fun k hk => ?_⟩
  by_cases e : k = B
  · subst e
    have q1 : (W.setCell ⟨k, 0, none⟩ v).heap[k]? = _ := hbx.set v
    have q2 : (W'.setCell ⟨k, 0, none⟩ v).heap[k]? = _ := hbx'.set v
    rw [q1, q2]
  · rw [Below.heap_setCell W' ⟨B, 0, none⟩ v k e, Below.heap_setCell W ⟨B, 0, none⟩ v k e]
    exact h.block k hk
theorem below_all {n₀ Bd : Nat} {D : Nat → Prop} {W W' : World} (hk : KeepOn n₀ D W W') (hD : ∀ b, b < Bd → D b) (hs : Bd ≤ W.heap.size) : Below Bd W W' :=
  ⟨hk.os, hk.tape, hk.output, hk.size, fun k hlt => hk.block k (Nat.lt_of_lt_of_le hlt hs) (.inr (hD k hlt))⟩
set_option maxRecDepth 100000 in
set_option maxHeartbeats 8000000 in
/-- **Choose** -/
theorem choose_any (v : Value) (cs : List Cl) (u : Value) (rs : List Ru) (fr : ByteArray) (to : List ByteArray) (tv : Value) (at_ : Int) (w : World) (hv : PV w v (clV cs)) (hu : PV w u (ruV rs)) (hT : TV w tv to)
    (hfr : fr.size ≤ maxLen) (hto : ∀ s ∈ to, s.size ≤ maxLen) (hm1 : to.length ≤ 1000) (hm2 : rs.length ≤ 1000) :
    Calls Try.prog 47 #[v, u, .agg #[.string fr, tv, .int .i64 at_]] w fun e w' => e = .returned (.string (chS cs rs fr to)) ∧ Below w.heap.size w w' := by
  have hv0 := hv
  have hu0 := hu
  have hT0 := hT
  obtain ⟨A, c, rfl, hc1, -⟩ := hv
  obtain ⟨Au, cu, rfl, hc2, -⟩ := hu
  obtain ⟨At, ct, rfl, hct, -⟩ := hT
  rw [clV_len] at hv0 hc1 ⊢
  rw [ruV_len] at hu0 hc2 ⊢
  rw [List.length_map] at hT0 hct ⊢
  obtain ⟨N, hN⟩ : ∃ n, cs.length = n := ⟨_, rfl⟩
  obtain ⟨n, hn⟩ : ∃ n, rs.length = n := ⟨_, rfl⟩
  obtain ⟨m, hm⟩ : ∃ m, to.length = m := ⟨_, rfl⟩
  rw [hN] at hv0 hc1 ⊢
  rw [hn] at hu0 hc2 hm2 ⊢
  rw [hm] at hT0 hct hm1 ⊢
  obtain ⟨E, hE⟩ : ∃ E, w.heap.size = E := ⟨_, rfl⟩
  obtain ⟨res, hres⟩ : ∃ r, chS cs rs fr to = r := ⟨_, rfl⟩
  have HR : Hid (chG (hitB fr to) (dflt cs) (rs.drop 0) = res) := hres
  rw [hres]
  have m0 : Mine E w ((w.alloc (.cells #[.string fr, .slice At m ct, .int .i64 at_] 33)).alloc (.cells #[.string ⟨#[]⟩] 9)) := by rw [← hE]; exact ((Mine.refl w).alloc _).alloc _
  have r0 : Row ((w.alloc (.cells #[.string fr, .slice At m ct, .int .i64 at_] 33)).alloc (.cells #[.string ⟨#[]⟩] 9)) E 33 [.string fr, .slice At m ct, .int .i64 at_] := by rw [← hE]; exact (Row.new w _ _).alloc _
  have b0 : Boxed ((w.alloc (.cells #[.string fr, .slice At m ct, .int .i64 at_] 33)).alloc (.cells #[.string ⟨#[]⟩] 9)) (E + 1) 9 (.string ⟨#[]⟩) := by
    have := Boxed.new (w.alloc (.cells #[.string fr, .slice At m ct, .int .i64 at_] 33)) 9 (.string ⟨#[]⟩)
    rw [alloc_size, hE] at this
    exact this
  have HU : Hid (∀ wr, Mine E w wr → PV wr (.slice Au n cu) (ruV rs)) := fun wr h => hu0.below (hE ▸ h.bel)
  have HV : Hid (∀ wr, Mine E w wr → PV wr (.slice A N c) (clV cs)) := fun wr h => hv0.below (hE ▸ h.bel)
  have HN := Lib.hid hN
  have Hn := Lib.hid hn
  have Hm := Lib.hid hm
  have HT := Lib.hid hT0
  have HTO := Lib.hid hto
  have M0 := Lib.hid m0
  have R0 := Lib.hid r0
  have B0 := Lib.hid b0
  clear hu0 hv0 hT0 hto m0 r0 b0 hres hN hn hm
  refine (callsIn_wide (n := 0)).1 ?_
  refine callsIn_of_wp_marks Try.func47 rfl trivial ?_
  simp only [Try.ntmps47, List.size_toArray, List.length_cons, List.length_nil, Nat.reduceAdd, Nat.reduceSub, Array.replicate_succ, Array.replicate_zero, List.push_toArray, List.append_toArray, List.nil_append, List.cons_append]
  gi_wp2_with fail
  refine wpIn_loop (fun a W => ∃ (k : Nat) (ds : List Deferred) (u8 u9 u13 u14 u15 u16 u17 u18 u19 u20 u21 u22 u23 u24 u25 : Value), a = { tmps := #[.slice A N c, .slice Au n cu, .agg #[.string fr, .slice At m ct, .int .i64 at_], undef, undef, .pointer (some ⟨E, 0, none⟩), .pointer (some ⟨E + 1, 0, none⟩), undef, u8, u9, .slice Au n cu, .int .i64 (n : Int), .int .i64 (k : Int), u13, u14, u15, u16, u17, u18, u19, u20, u21, u22, u23, u24, u25, undef, undef, undef, undef, undef, undef, undef], defers := ds } ∧ k ≤ n ∧ Hid (chG (hitB fr to) (dflt cs) (rs.drop k) = res) ∧ Row W E 33 [.string fr, .slice At m ct, .int .i64 at_] ∧ Boxed W (E + 1) 9 (.string ⟨#[]⟩) ∧ Hid (Marks (E + 2) W ds) ∧ Mine E w W) (fun a _ => n - (intOf (a.tmps.getD 12 undef)).toNat) ?start ?round
  case start =>
    exact ⟨0, [], _, _, _, _, _, _, _, _, _, _, _, _, _, _, _, rfl, Nat.zero_le _, HR, R0.out, B0.out, trivial, M0.out⟩
  case round =>
    rintro a wr ⟨k, ds, u8, u9, u13, u14, u15, u16, u17, u18, u19, u20, u21, u22, u23, u24, u25, rfl, hk, hno, hrow, hbx, hmk, hmi⟩
    clear HR R0 B0 M0
    have hEw := hrow.lt
    have hE1 := hbx.lt
    by_cases hlt : k < n
    · have hkc : k < rs.length := by rw [Hn.out]; exact hlt
      obtain ⟨g, o, rfl, c0, c1⟩ := (HU.out wr hmi).at_ k _ (ruV_get rs k hkc)
      have hst := hno.out
      rw [chG_step (hitB fr to) (dflt cs) rs k hkc] at hst
      obtain ⟨dm, hdm⟩ : ∃ nm, rs[k].1 = nm := ⟨_, rfl⟩
      obtain ⟨cl, hcl⟩ : ∃ kp, rs[k].2 = kp := ⟨_, rfl⟩
      have hck : rs[k] = (dm, cl) := by rw [← hdm, ← hcl]
      rw [hdm] at c0
      rw [hcl] at c1
      rw [hck] at hst
      have hst2 : (if (domsL fr to).any (fun d => d.toList == dm.toList) then cl else chG (hitB fr to) (dflt cs) (rs.drop (k + 1))) = res := hst
      have d0 : decide (k < n) = true := decide_eq_true hlt
      have k0 : (0 : Int) ≤ (k : Int) := by omega
      have k1 : (k : Int) < (n : Int) := by omega
      obtain ⟨Wa, hWa⟩ : ∃ Wa, wr.alloc (.cells #[.string dm, .string cl] 78) = Wa := ⟨_, rfl⟩
      have hrowa : Row Wa E 33 [.string fr, .slice At m ct, .int .i64 at_] := by rw [← hWa]; exact hrow.alloc _
      have hsa : Wa.heap.size = wr.heap.size + 1 := by rw [← hWa]; exact alloc_size _ _
      have hrule : Row Wa wr.heap.size 78 [.string dm, .string cl] := by rw [← hWa]; exact Row.new wr _ _
      have hma : Mine E w Wa := by rw [← hWa]; exact hmi.alloc _
      have hbwa : Below wr.heap.size wr Wa := by rw [← hWa]; exact (Below.refl _ _).alloc (Nat.le_refl _) _
      have e0 := hrowa.cell0
      have e1 := hrowa.cell1
      have e2 : Wa.cell? ⟨E, 2, none⟩ = some (.int .i64 at_) := hrowa.cell 2
      clear hst hno hdm hcl hck
      gi_wp2_with fail
      try rw [hWa]
      refine ⟨trivial, rfl, (callsIn_wide.2 (domains_any fr At m ct at_ _)).mono ?_⟩
      rintro e w1 ⟨rfl, hw1⟩
      have hs1 : w1.heap.size = wr.heap.size + 2 := by rw [← hw1, alloc_size, hsa]
      have hrow1 : Row w1 (wr.heap.size + 1) 33 [.string fr, .slice At m ct, .int .i64 at_] := by rw [← hw1, ← hsa]; exact Row.new Wa _ _
      have hbw1 : Below Wa.heap.size Wa w1 := by rw [← hw1]; exact (Below.refl _ _).alloc (Nat.le_refl _) _
      have hm1' : Mine E w w1 := hma.call hbw1
      have hrul1 : Row w1 wr.heap.size 78 [.string dm, .string cl] := hrule.belowS hbw1
      have hbx1 : Boxed w1 (E + 1) 9 (.string ⟨#[]⟩) := boxed_below (boxed_below hbx hbwa) hbw1
      have hrwe1 : Row w1 E 33 [.string fr, .slice At m ct, .int .i64 at_] := hrowa.belowS hbw1
      have hmk1 : Marks (E + 2) w1 ds := Marks.kept (Nat.le_trans hbwa.size hbw1.size) (fun r _ h => (hbw1.block r (by omega)).trans (hbwa.block r h)) hmk.out
      have hseq := domains1_seq E (wr.heap.size + 1) fr to At m ct at_ hfr HTO.out w w1 hE hm1'.bel (by omega) hrow1 HT.out Hm.out hm1
      obtain ⟨any, hany⟩ : ∃ b, ((domsL fr to).any fun d => d.toList == dm.toList) = b := ⟨_, rfl⟩
      rw [hany] at hst2
      have HST := Lib.hid hst2
      have HANY := Lib.hid hany
      have HMK := Lib.hid hmk1
      have hmkR := hmk
      clear hst2 hany hmk1 hmk e0 e1 e2 c0 c1 hrule hbwa hrowa hma hbx hrow
      rw [hsa]
      gi_wp2_with fail
      refine wpIn_rangeFunc_D (gf := 87) (lb := #[.pointer (some ⟨wr.heap.size + 1, 0, none⟩)]) (n₀ := E) rfl (enters_of Try.func87 (by kernel_rfl) rfl)
        hseq (fun x az _ _ h => by subst h; rfl) (fun _ _ _ _ _ _ _ _ _ h _ _ => h) (by omega) (Below.refl _ _)
        (fun b => b < wr.heap.size + 1) (fun b h => by omega) (fun b h => by subst h; exact ⟨by omega, by omega, rfl⟩)
        (fun k D W => (∀ b, b < wr.heap.size + 1 → D b) ∧ Below (wr.heap.size + 1) w1 W ∧ wr.heap.size + 1 ≤ W.heap.size ∧ ((domsL fr to).take k).any (fun d => d.toList == dm.toList) = false)
        (fun c k D W => c = .ret ∧ (∀ b, b < wr.heap.size + 1 → D b) ∧ Below (wr.heap.size + 1) (w1.setCell ⟨E + 1, 0, none⟩ (.string cl)) W ∧ wr.heap.size + 1 ≤ W.heap.size ∧ any = true) ?stable ?stable2 ⟨fun b h => h, Below.refl _ _, by omega, rfl⟩
        (fun az => { tmps := #[.slice A N c, .slice (some ⟨g, o, none⟩) n cu, .agg #[.string fr, .slice At m ct, .int .i64 at_], undef, undef, .pointer (some ⟨E, 0, none⟩), .pointer (some ⟨E + 1, 0, none⟩), undef, .pointer (some ⟨wr.heap.size, 0, none⟩), az[0]?.getD undef, .slice (some ⟨g, o, none⟩) n cu, .int .i64 (n : Int), .int .i64 (k : Int), .bool true, .pointer (some ⟨g, o + k * 2, none⟩), .agg #[.string dm, .string cl], .agg #[.string fr, .slice At m ct, .int .i64 at_], .func (.func 87) #[] #[.pointer (some ⟨wr.heap.size + 1, 0, none⟩)], az[0]?.getD undef, u19, u20, u21, u22, u23, u24, u25, undef, undef, undef, undef, undef, undef, undef], defers := [] }) ?assign ?body ?done ?stop
      case stable =>
        rintro k D W W' ⟨hD, hB, hs, ha⟩ hk
        exact ⟨hD, hB.trans (below_all hk hD hs), Nat.le_trans hs hk.size, ha⟩
      case stable2 =>
        rintro c k D W W' ⟨rfl, hD, hB, hs, ha⟩ hk
        exact ⟨rfl, hD, hB.trans (below_all hk hD hs), Nat.le_trans hs hk.size, ha⟩
      case assign =>
        rintro lp x az M W K hx hK
        have hx' : az = #[.string x] := hx
        subst hx'
        gi_wp2
        exact hK
      case body =>
        rintro lp k' x az D M W hx hxa ⟨hD, hB, hs, ha⟩ hDb hMD
        have hxa' : az = #[.string x] := hxa
        subst hxa'
        have hr := hrul1.below hB (by omega)
        have c0 := hr.cell0
        have c1 := hr.cell1
        have hbox : Boxed W (E + 1) 9 (.string ⟨#[]⟩) := (hB.block _ (by omega)).trans hbx1
        have hcB := hbox.cell
        have hfB := hbox.frozen
        have hsn := any_take_snoc (fun d : ByteArray => d.toList == dm.toList) _ k' _ hx
        have hyes := any_yes (fun d : ByteArray => d.toList == dm.toList) _ k' _ hx
        rw [ha, Bool.false_or] at hsn
        rw [HANY.out] at hyes
        obtain ⟨q, hq⟩ : ∃ q, (x.toList == dm.toList) = q := ⟨_, rfl⟩
        rw [hq] at hsn hyes
        have HSN := Lib.hid hsn
        have HYES := Lib.hid hyes
        have HM := Lib.hid hMD
        have HDb := Lib.hid hDb
        have HB := Lib.hid hB
        clear hsn hyes hMD hDb hx ha hB
        cases q with
        | false =>
          gi_wp2
          exact ⟨D, fun b h => ⟨HDb.out b h, fun hm => (HM.out b hm).2 h⟩, KeepOn.refl _ _ _, hD, HB.out, hs, HSN.out⟩
        | true =>
          gi_wp2
          exact ⟨D, fun b h => ⟨Nat.lt_of_lt_of_le (HDb.out b h) (KeepsWalks.setCell W _ _).size, fun hm => (HM.out b hm).2 h⟩, KeepOn.setCell W _ _ (by omega) (fun h => (HM.out _ h).2 (hD _ (by omega))), rfl, hD, below_set2 HB.out (by omega) hbx1, Nat.le_trans hs (KeepsWalks.setCell W _ _).size, HYES.out (by first | rfl | trivial)⟩
      case done =>
        rintro dk D W hdk ⟨hD, hB, hs, ha⟩ hK hDk
        rw [List.take_length] at ha
        have hany : any = false := by rw [← HANY.out]; exact ha
        subst hany
        have h2 : chG (hitB fr to) (dflt cs) (rs.drop (k + 1)) = res := by have := HST.out; rw [if_neg (by decide)] at this; exact this
        have H2 := Lib.hid h2
        have hdkl := (Array.getElem?_eq_some_iff.1 hK).1
        have hmkW : Marks (E + 2) W ({ target := .collected dk, args := #[] } :: ds) := ⟨⟨dk, rfl, by omega, hdkl, hK, fun d hd he => by have := Marks.lt (hmkR.out) d hd dk he; omega⟩, Marks.kept' hB hs hmkR.out HMK.out (by omega)⟩
        have HMW := Lib.hid hmkW
        have hrwW := hrwe1.below hB (by omega)
        have hbxW : Boxed W (E + 1) 9 (.string ⟨#[]⟩) := (hB.block _ (by omega)).trans hbx1
        have hmW : Mine E w W := ⟨by omega, hm1'.bel.trans (hB.mono (by omega))⟩
        clear h2 hmkW hK ha
        gi_wp2
        refine ⟨⟨k + 1, _, _, _, _, _, _, _, _, _, _, _, _, _, _, _, _, rfl, by omega, H2.out, hrwW, hbxW, HMW.out, hmW⟩, by simp [intOf]; omega⟩
      case stop =>
        rintro dk c k' D W hdk ⟨rfl, hD, hB, hs, ha⟩ hK hDk
        subst ha
        have h2 : cl = res := by have := HST.out; rw [if_pos rfl] at this; exact this
        subst h2
        have hdkl := (Array.getElem?_eq_some_iff.1 hK).1
        have hs1' : (w1.setCell ⟨E + 1, 0, none⟩ (.string cl)).heap.size = w1.heap.size := by simp [World.setCell]
        have hbx2 := hbx1.set (.string cl)
        have hmk2 : Marks (E + 2) (w1.setCell ⟨E + 1, 0, none⟩ (.string cl)) ds := Marks.kept (by omega) (fun r h _ => Below.heap_setCell w1 ⟨E + 1, 0, none⟩ (.string cl) r (by show r ≠ E + 1; omega)) HMK.out
        have hmkW : Marks (E + 2) W ({ target := .collected dk, args := #[] } :: ds) := ⟨⟨dk, rfl, by omega, hdkl, hK, fun d hd he => by have := Marks.lt (hmkR.out) d hd dk he; omega⟩, Marks.kept' hB hs hmkR.out hmk2 (by omega)⟩
        have hbxW : Boxed W (E + 1) 9 (.string cl) := (hB.block _ (by omega)).trans hbx2
        have hbeW : Below E w W := (hm1'.bel.setCell (p := ⟨E + 1, 0, none⟩) (by show E ≤ E + 1; omega) (.string cl)).trans (hB.mono (by omega))
        have HMW := Lib.hid hmkW
        clear hmkW hmk2 hK
        gi_wp2
        exact leaves_marks (B := E + 1) (A := E + 2) (n0 := E) (p := 6) (w0 := w) Try.results47 rfl (by omega) (by omega) (fun W' h => ⟨rfl, by first | exact h | (rw [hE]; exact h)⟩) _ W HMW.out hbxW hbeW (by omega)
    · have d0 : decide (k < n) = false := decide_eq_false hlt
      have hfin := hno.out
      rw [chG_end _ _ rs k (by rw [Hn.out]; omega)] at hfin
      have hcB := hbx.cell
      have hfB := hbx.frozen
      have hs2 : ∀ x, (wr.setCell ⟨E + 1, 0, none⟩ x).heap.size = wr.heap.size := fun x => by simp [World.setCell]
      have hmk2 : ∀ x, Marks (E + 2) (wr.setCell ⟨E + 1, 0, none⟩ x) ds := fun x => Marks.kept (by rw [hs2]; exact Nat.le_refl _) (fun r h _ => Below.heap_setCell wr ⟨E + 1, 0, none⟩ x r (by show r ≠ E + 1; omega)) hmk.out
      have hbe2 : ∀ x, Below E w (wr.setCell ⟨E + 1, 0, none⟩ x) := fun x => hmi.bel.setCell (p := ⟨E + 1, 0, none⟩) (by show E ≤ E + 1; omega) x
      have hpv := HV.out wr hmi
      have hnl := HN.out
      have HMK2 := Lib.hid hmk2
      have HBE2 := Lib.hid hbe2
      clear hmk2 hbe2 hno
      cases cs with
      | nil =>
        have hz : N = 0 := hnl.symm
        subst hz
        have hres : res = ⟨#[]⟩ := hfin.symm
        subst hres
        clear hpv hnl hfin
        gi_wp2
        exact leaves_marks (B := E + 1) (A := E + 2) (n0 := E) (p := 6) (w0 := w) Try.results47 rfl (by omega) (by omega) (fun W' h => ⟨rfl, by first | exact h | (rw [hE]; exact h)⟩) _ _ (HMK2.out _) (hbx.set _) (HBE2.out _) (by rw [hs2]; omega)
      | cons c0' cs' =>
        have hN0 : 0 < N := by rw [← hnl]; simp
        have hres : res = c0'.1 := hfin.symm
        obtain ⟨g, o, rfl, c0, c1⟩ := hpv.at_ 0 _ (clV_get (c0' :: cs') 0 (by simp))
        obtain ⟨nm, hnm⟩ : ∃ nm, c0'.1 = nm := ⟨_, rfl⟩
        simp only [List.getElem_cons_zero, hnm, Nat.zero_mul, Nat.add_zero] at c0 c1
        rw [hnm] at hres
        subst hres
        have e0 : ((N : Int) == 0) = false := by simp; omega
        have e1 : (N == 0) = false := by simp; omega
        have e2 : (0 : Int) < (N : Int) := by omega
        clear hpv hnl hfin c1
        gi_wp2
        exact leaves_marks (B := E + 1) (A := E + 2) (n0 := E) (p := 6) (w0 := w) Try.results47 rfl (by omega) (by omega) (fun W' h => ⟨rfl, by first | exact h | (rw [hE]; exact h)⟩) _ _ (HMK2.out _) (hbx.set _) (HBE2.out _) (by rw [hs2]; omega)
end Go.Proofs.Ytofdfcngmkkfdaa
