/- The reference's up and Verify; MerkleVerifies. -/
import Derived.RangeFuncNested
import Derived.RangeFuncBound
import Derived.RangeFuncCalls
import Derived.RangeFuncLeaves
import Derived.Shelf.Abstract
import Derived.Shelf.RegionOpen
import Derived.WalkKit
import Derived.OwnWalkIn
import Derived.TacticsInMore
import Derived.LoopNIn
import Derived.LoopIn
import Derived.Outline
import Derived.Lib.Hide
import Derived.Lib.SliceRun
import Derived.IntWalk
import Derived.WalkLawsBesides
import Derived.WalkSpells
import Derived.Laws.BitsAllLaws
import Derived.Lib.ConvBytes
import Derived.Maps.AppendAt
import Derived.Lib.AppendStr
import Derived.Lib.SlBytesConst
import Derived.Laws.AppendOwnNone
import Derived.Laws.OwnMore
import Derived.Laws.BytesArg
import Derived.Deep.RegionHeld3
import Derived.BigQuiet
import Derived.Deep.RegionLaw
import Derived.Deep.QuietTactic
import Derived.Lib.OthersKept
import Derived.Test.YtkipnhhdlohnfaaProg
import Derived.Deep.DeepFit
import Derived.Test.YtkipnhhdlohnfaaMkO
set_option linter.unusedVariables false
set_option linter.unusedSimpArgs false
namespace Go.Proofs.Ytkipnhhdlohnfaa
open Go Go.RowKit Go.Shelf

theorem clb_same (ts ts' : List Bool) (ps ps' : List (List UInt8)) (x : List UInt8) : ∀ q, (∀ k, k < q → ts[k]? = ts'[k]? ∧ ps[k]? = ps'[k]?) → clb ts ps x q = clb ts' ps' x q
  | 0, _ => rfl
  | q + 1, h => by
    unfold clb
    rw [clb_same ts ts' ps ps' x q (fun k hk => h k (by omega)), (h q (by omega)).1, (h q (by omega)).2]
theorem clb_top (t : Bool) (R : List Bool) (ps : List (List UInt8)) (x : List UInt8) (m : Nat) (p : List UInt8) (hR : R.length = m) (hp : ps[m]? = some p) (hm : ps.length = m + 1) :
    clb (t :: R).reverse ps x ps.length = if t = true then nodeL p (clb R.reverse (ps.take m) x m) else nodeL (clb R.reverse (ps.take m) x m) p := by
  have e : clb (t :: R).reverse ps x m = clb R.reverse (ps.take m) x m := by
    refine clb_same _ _ _ _ x m fun k hk => ⟨?_, ?_⟩
    · rw [List.reverse_cons, List.getElem?_append_left (by rw [List.length_reverse]; omega)]
    · rw [List.getElem?_take_of_lt hk]
  rw [hm, clb, e, hp, List.reverse_cons, List.getElem?_append_right (by rw [List.length_reverse]; omega), List.length_reverse, hR]
  simp
theorem range_result2 {w : World} {fn : Func} {p q : Tmp} {ty : TypeId} {g : Nat} {l : List Value} {v : Value} (hr : w.rangeAt g 0 l) (h : fn.results = #[.cell p ty, .tmp q]) (tmps : Array Value) (n : Nat) (e : TypeId)
    (hp : tmps.getD p undef = .pointer (some ⟨g, 0, none⟩)) (hq : tmps.getD q undef = v) (hu : Try.prog.underlying ty = some (.array n e)) (hi : (Try.prog.info? ty).map (·.size) = some l.length) :
    (results fn tmps).run Try.prog w = .ok (.tuple #[.agg l.toArray, v]) w := by
  have hp' : tmps[p]?.getD undef = .pointer (some ⟨g, 0, none⟩) := by simpa using hp
  have hq' : tmps[q]?.getD undef = v := by simpa using hq
  simp [results, h, hp', hq', asAddr, run_loadVar_mid w g 0 ty l _ hr hu rfl hi, Sem.run_bind, Result.andThen]
/-- a box and a result's cell -/
theorem box_new (w : World) (a : List Value) : ∃ W A, (w.alloc (.cells a.toArray 24)).alloc (.cells #[.int .u8 0, .int .u8 0, .int .u8 0, .int .u8 0, .int .u8 0, .int .u8 0, .int .u8 0, .int .u8 0, .int .u8 0, .int .u8 0, .int .u8 0, .int .u8 0, .int .u8 0, .int .u8 0, .int .u8 0, .int .u8 0, .int .u8 0, .int .u8 0, .int .u8 0, .int .u8 0, .int .u8 0, .int .u8 0, .int .u8 0, .int .u8 0, .int .u8 0, .int .u8 0, .int .u8 0, .int .u8 0, .int .u8 0, .int .u8 0, .int .u8 0, .int .u8 0] 24) = W ∧ w.heap.size = A ∧ W.heap.size = A + 2 ∧ Row W A 24 a ∧ Row W (A + 1) 24 Z32 ∧ Mine A w W := two_boxed w a Z32
/-- what up says -/
def UpSays (n i : Nat) (leaf : List UInt8) (ps : List (List UInt8)) (w : World) (e : Ending) (w' : World) : Prop :=
  ∃ x, e = .returned (.tuple #[.agg (enc8 x).toArray, .bool (decide ((turnsL n i).length = ps.length))]) ∧ x.length = 32 ∧ ((turnsL n i).length = ps.length → x = clb (turnsL n i).reverse ps leaf ps.length) ∧ Below w.heap.size w w'
set_option maxHeartbeats 2000000 in
set_option maxRecDepth 100000 in
theorem up_one (i : Nat) (leaf : List UInt8) (pv : Value) (ps : List (List UInt8)) (w : World) (hl : leaf.length = 32) (hv : HS w pv ps) :
    Calls Try.prog 56 #[.int .i64 1, .int .i64 (i : Int), .agg (enc8 leaf).toArray, pv] w (UpSays 1 i leaf ps w) := by
  obtain ⟨C, c, rfl, hc, -⟩ := hv.form
  obtain ⟨W, A, hW, hA, hsz, r0, r1, hm⟩ := box_new w (enc8 leaf)
  have hx : decide ((turnsL 1 i).length = ps.length) = decide (ps.length = 0) := by rw [turnsL_one 1 i (by omega)]; simp [eq_comm]
  have hy : (turnsL 1 i).length = ps.length → leaf = clb (turnsL 1 i).reverse ps leaf ps.length := fun h => by rw [turnsL_one 1 i (by omega)] at h; rw [← h]; rfl
  obtain ⟨L, hL⟩ : ∃ L, ps.length = L := ⟨_, rfl⟩
  unfold UpSays
  rw [hx]
  rw [hL] at hy
  have HY := Lib.hid hy
  have i0 := info32 leaf hl
  obtain ⟨al, hal⟩ : ∃ al, enc8 leaf = al := ⟨_, rfl⟩
  have l1 : al.length = 32 := by rw [← hal, enc8_len, hl]
  have f1 : al.toArray.all (·.oneCell') = true := by rw [← hal]; exact enc8_all _
  rw [hal] at hW r0 i0 ⊢
  rw [hL]
  have HL := Lib.hid hL
  have HAL := Lib.hid hal
  have HLF := Lib.hid hl
  have HW := Lib.hid hW
  have R0 := Lib.hid r0
  have R1 := Lib.hid r1
  have I0 := Lib.hid i0
  have L1 := Lib.hid l1
  have F1 := Lib.hid f1
  have RR := Lib.hid (r1.setRow al)
  have HB := Lib.hid (below_setRow hm.bel (Nat.le_succ A) al.toArray)
  have q0 : ((L : Int) == 0) = decide (L = 0) := by by_cases h : L = 0 <;> simp [h]
  clear hv hW r0 r1 i0 l1 f1 hm hx hy hL hal hl hc
  go_enter Try.func56, Try.ntmps56
  go_wp2_with (first
    | (rw [HW.out]; refine R0.out.load rfl 24 (.tmp 6) rfl rfl _ _ Try.underlying24 I0.out ?_)
    | (refine R1.out.store (m := al) rfl 24 (.tmp 8) (.tmp 18) rfl rfl rfl I0.out (by rw [L1.out]; rfl) F1.out ?_))
  refine bodyPost_ret (v := .tuple #[.agg al.toArray, .bool (decide (L = 0))]) (RR.out.result2 Try.results56 _ _ _ rfl rfl Try.underlying24 I0.out) rfl ?_
  exact ⟨leaf, by rw [HAL.out], HLF.out, HY.out, by rw [hA]; exact HB.out⟩
set_option maxHeartbeats 2000000 in
set_option maxRecDepth 100000 in
theorem up_none (n i : Nat) (leaf : List UInt8) (pv : Value) (w : World) (hl : leaf.length = 32) (hv : HS w pv []) (h2 : 2 ≤ n) :
    Calls Try.prog 56 #[.int .i64 (n : Int), .int .i64 (i : Int), .agg (enc8 leaf).toArray, pv] w (UpSays n i leaf [] w) := by
  obtain ⟨C, c, rfl, hc, -⟩ := hv.form
  obtain ⟨W, A, hW, hA, hsz, r0, r1, hm⟩ := box_new w (enc8 leaf)
  have hne : (turnsL n i).length ≠ ([] : List (List UInt8)).length := by
    by_cases hi : i < hlf n
    · rw [turnsL_left n i h2 hi]; simp
    · rw [turnsL_right n i h2 hi]; simp
  unfold UpSays
  rw [decide_eq_false hne]
  have HY := Lib.hid hne
  have i0 := info32 leaf hl
  obtain ⟨al, hal⟩ : ∃ al, enc8 leaf = al := ⟨_, rfl⟩
  have l1 : al.length = 32 := by rw [← hal, enc8_len, hl]
  have f1 : al.toArray.all (·.oneCell') = true := by rw [← hal]; exact enc8_all _
  rw [hal] at hW r0 i0 ⊢
  rw [show ([] : List (List UInt8)).length = 0 from rfl]
  have HAL := Lib.hid hal
  have HLF := Lib.hid hl
  have HW := Lib.hid hW
  have R0 := Lib.hid r0
  have R1 := Lib.hid r1
  have I0 := Lib.hid i0
  have L1 := Lib.hid l1
  have F1 := Lib.hid f1
  have RR := Lib.hid (r1.setRow al)
  have HB := Lib.hid (below_setRow hm.bel (Nat.le_succ A) al.toArray)
  have q0 : ((n : Int) == 1) = false := by simp; omega
  clear hv hW r0 r1 i0 l1 f1 hm hne hal hl hc
  go_enter Try.func56, Try.ntmps56
  go_wp2_with (first
    | (rw [HW.out]; refine R0.out.load rfl 24 (.tmp 6) rfl rfl _ _ Try.underlying24 I0.out ?_)
    | (refine R1.out.store (m := al) rfl 24 (.tmp 8) (.tmp 25) rfl rfl rfl I0.out (by rw [L1.out]; rfl) F1.out ?_))
  refine bodyPost_ret (v := .tuple #[.agg al.toArray, .bool false]) (RR.out.result2 Try.results56 _ _ _ rfl rfl Try.underlying24 I0.out) rfl ?_
  exact ⟨leaf, by rw [HAL.out], HLF.out, fun h => absurd h HY.out, by rw [hA]; exact HB.out⟩

set_option maxHeartbeats 4000000 in
set_option maxRecDepth 100000 in
theorem up_left (n i : Nat) (leaf : List UInt8) (pv : Value) (ps : List (List UInt8)) (m : Nat) (w : World) (hl : leaf.length = 32) (hv : HS w pv ps) (h2 : 2 ≤ n) (hn : n ≤ 9223372036854775807) (hin : i < n) (hik :  i < hlf n) (hm : ps.length = m + 1)
    (IH : ∀ (n' i' : Nat) (pv' : Value) (w' : World), n' ≤ 9223372036854775807 → i' < n' → HS w' pv' (ps.take m) → Calls Try.prog 56 #[.int .i64 (n' : Int), .int .i64 (i' : Int), .agg (enc8 leaf).toArray, pv'] w' (UpSays n' i' leaf (ps.take m) w')) :
    Calls Try.prog 56 #[.int .i64 (n : Int), .int .i64 (i : Int), .agg (enc8 leaf).toArray, pv] w (UpSays n i leaf ps w) := by
  obtain ⟨C, c, rfl, hc, -⟩ := hv.form
  obtain ⟨W, A, hW, hA, hsz, r0, r1, hmw⟩ := box_new w (enc8 leaf)
  have hk := hlf_range n h2
  have hh := fun w => split_any n (by omega) w
  obtain ⟨p, hp⟩ : ∃ p, ps[m]? = some p := ⟨_, List.getElem?_eq_getElem (by omega)⟩
  obtain ⟨p32, -, g, o, rfl, rp⟩ := hv.at_ m (by omega) p hp
  have hgA : g < A := by
    have h0 := rp 0 (.int .u8 (gb p 0)) (enc8_get p 0 (by omega))
    rw [← hA]
    exact World.block_lt_of_cell? w _ h0
  obtain ⟨k, hke⟩ : ∃ k, hlf n = k := ⟨_, rfl⟩
  have hts : turnsL n i = false :: turnsL (k) (i) := by rw [turnsL_left n i h2 hik, hke]
  rw [hke] at hk hik
  simp only [hke] at hh
  have hup := fun w' hb => IH (k) (i) (.slice (some ⟨g, o, none⟩) m c) w' (by omega) (by omega) ((hv.below (W' := w') hb).take m (by omega))
  obtain ⟨R, hR⟩ : ∃ R, turnsL (k) (i) = R := ⟨_, rfl⟩
  unfold UpSays at hup ⊢
  rw [hR] at hts
  rw [hts]
  simp only [hR] at hup
  have hplen : (ps.take m).length = m := by rw [List.length_take]; omega
  have hdec : decide ((false :: R).length = ps.length) = decide (R.length = (ps.take m).length) := by rw [hplen, hm]; simp
  rw [hdec]
  obtain ⟨bb, hbb⟩ : ∃ bb, decide (R.length = (ps.take m).length) = bb := ⟨_, rfl⟩
  rw [hbb]
  simp only [hbb] at hup
  have htop := fun (x : List UInt8) (hx : R.length = (ps.take m).length → x = clb R.reverse (ps.take m) leaf (ps.take m).length) => (fun (h : (false :: R).length = ps.length) => by
    have hRm : R.length = m := by rw [hm] at h; simpa using h
    have e := clb_top false R ps leaf m p hRm hp hm
    rw [e, hx (by rw [hplen]; exact hRm), hplen]
    rfl : (false :: R).length = ps.length → nodeL x p = clb (false :: R).reverse ps leaf ps.length)
  have ka := fun w => sums_runh (some ⟨g, o, none⟩) (m + 1) c m (by omega) (m : Int) rfl w
  have x0 : IntKind.i64.wrap (((m + 1 : Nat) : Int) - 1) = (m : Int) := by rw [IntWalk.i64_in _ (by omega)]; omega
  have x0' : IntKind.i64.wrap ((m : Int) + 1 - 1) = (m : Int) := by rw [IntWalk.i64_in _ (by omega)]; omega
  have xx := hik
  have i0 := info32 leaf hl
  have ip := info32 p p32
  obtain ⟨al, hal⟩ : ∃ al, enc8 leaf = al := ⟨_, rfl⟩
  obtain ⟨ap, hap⟩ : ∃ ap, enc8 p = ap := ⟨_, rfl⟩
  rw [hal] at hW r0 i0 ⊢
  simp only [hal] at hup
  rw [hap] at ip rp
  obtain ⟨M, hM⟩ : ∃ M, m + 1 = M := ⟨_, rfl⟩
  rw [hm, hM] at hc htop ⊢
  rw [hM] at ka x0
  have q1 : ((n : Int) == 1) = false := by simp; omega
  have q2 : ((M : Int) == 0) = false := by simp; omega
  have q3 : m < M := by omega
  have q3' : (m : Int) < (M : Int) := by omega
  have q4 : decide ((i : Int) < (k : Int)) = true := by simp; omega
  have x1 : IntKind.i64.wrap ((M : Int) - 1) = (m : Int) := by rw [IntWalk.i64_in _ (by omega)]; omega
  have hu := Try.underlying24
  have HH := Lib.hid hh
  have HUP := Lib.hid hup
  have Hfalse := Lib.hid htop
  have HAL := Lib.hid hal
  have HAP := Lib.hid hap
  have HP32 := Lib.hid p32
  have HW := Lib.hid hW
  have HMW := Lib.hid hmw
  have R0 := Lib.hid r0
  have R1 := Lib.hid r1
  have RP := Lib.hid rp
  have IP := Lib.hid ip
  have I0 := Lib.hid i0
  clear IH hv hh hup htop hal hap p32 hW hmw r0 r1 rp hp hts hR hplen hdec hbb hke hm hl x0 x0' hc
  go_enter Try.func56, Try.ntmps56
  go_wp2_with fail
  rw [HW.out]
  refine (HH.out _).mono ?_
  rintro e w1 ⟨rfl, rfl⟩
  go_wp2_with fail
  have i0 := I0.out
  refine wp_region_noPanic ?_
  refine wp_region_held_drew (S := (fun w' => Mine A w w' ∧ w'.rangeAt A 0 al ∧ w'.there (A + 1) 0 32)) (by kernel_rfl) ?_ (fun hHeld => ?_)
  · exact ⟨⟨HMW.out.le, HMW.out.bel.drew⟩, (World.rangeAt_drew _ _ _ _).2 R0.out.range, (World.there_drew _ _ _ _).2 (R1.out.there 32 rfl)⟩
  refine wpAnyH_take (i := 0) (oi := { dst := some 35, op := Op.move (Operand.tmp 10), type := 3, pos := "ref.go:72", after := #[], guard := none }) (v := ?v0_0) rfl (by kernel_rfl) (by kernel_rfl) (by kernel_rfl) (fun _ _ _ h => h) (Or.inl ⟨by rfl, ?y0_0⟩) (by assumption) ?r0_0
  case y0_0 => intro w hSw; (try dsimp only at hSw); go_simp; try with_reducible rfl
  try simp only [Act.put, List.setIfInBounds_toArray, List.set_cons_zero, List.set_cons_succ]
  refine wpAnyH_take (i := 1) (oi := { dst := some 36, op := Op.move (Operand.tmp 1), type := 3, pos := "ref.go:72", after := #[], guard := none }) (v := ?v1_1) rfl (by kernel_rfl) (by kernel_rfl) (by kernel_rfl) (fun _ _ _ h => h) (Or.inl ⟨by rfl, ?y1_1⟩) (by assumption) ?r1_1
  case y1_1 => intro w hSw; (try dsimp only at hSw); go_simp; try with_reducible rfl
  try simp only [Act.put, List.setIfInBounds_toArray, List.set_cons_zero, List.set_cons_succ]
  refine wpAnyH_take (i := 3) (oi := { dst := some 38, op := Op.move (Operand.tmp 3), type := 29, pos := "ref.go:72", after := #[], guard := none }) (v := ?v3_2) rfl (by kernel_rfl) (by kernel_rfl) (by kernel_rfl) (fun _ _ _ h => h) (Or.inl ⟨by rfl, ?y3_2⟩) (by assumption) ?r3_2
  case y3_2 => intro w hSw; (try dsimp only at hSw); go_simp; try with_reducible rfl
  try simp only [Act.put, List.setIfInBounds_toArray, List.set_cons_zero, List.set_cons_succ]
  refine wpAnyH_take (i := 4) (oi := { dst := some 39, op := Op.move (Operand.tmp 11), type := 3, pos := "ref.go:72", after := #[], guard := none }) (v := ?v4_3) rfl (by kernel_rfl) (by kernel_rfl) (by kernel_rfl) (fun _ _ _ h => h) (Or.inl ⟨by rfl, ?y4_3⟩) (by assumption) ?r4_3
  case y4_3 => intro w hSw; (try dsimp only at hSw); go_simp; try with_reducible rfl
  try simp only [Act.put, List.setIfInBounds_toArray, List.set_cons_zero, List.set_cons_succ]
  refine wpAnyH_take (i := 5) (oi := { dst := some 40, op := Op.slice 29 (Operand.tmp 38) none (some (Operand.tmp 39)) none, type := 29, pos := "ref.go:72", after := #[{ on := 3, ground := Ground.data }, { on := 4, ground := Ground.data }], guard := none }) (v := ?v5_4) rfl (by kernel_rfl) (by kernel_rfl) (by kernel_rfl) (fun _ _ _ h => h) (Or.inl ⟨by rfl, ?y5_4⟩) (by assumption) ?r5_4
  case y5_4 => intro w hSw; (try dsimp only at hSw); go_simp; try with_reducible rfl
  try simp only [Act.put, List.setIfInBounds_toArray, List.set_cons_zero, List.set_cons_succ]
  refine wpAnyH_take (i := 2) (oi := { dst := some 37, op := Op.load 24 (Operand.tmp 6), type := 24, pos := "ref.go:72", after := #[], guard := none }) (v := _) rfl (by kernel_rfl) (by kernel_rfl) (by kernel_rfl) (fun _ _ _ h => h) (yieldsIf_load_mid (by rfl) _ _ rfl _ _ rfl _ _ (by intro w hSw; (try dsimp only at hSw); go_split_ands; assumption) (by assumption) rfl (by first | assumption | (simp only [*]; done))) (by assumption) ?_
  try simp only [Act.put, List.setIfInBounds_toArray, List.set_cons_zero, List.set_cons_succ]
  refine wpAnyH_ready (rs := [6, 10]) (by kernel_rfl) (by simp) (AllReadyH.cons (o := { dst := some 41, op := Op.call { callee := Callee.value (Operand.func 56), args := #[Operand.tmp 35, Operand.tmp 36, Operand.tmp 37, Operand.tmp 40], argTypes := #[3, 3, 24, 29] }, type := 41, pos := "ref.go:72", after := #[{ on := 0, ground := Ground.data }, { on := 1, ground := Ground.data }, { on := 2, ground := Ground.data }, { on := 5, ground := Ground.data }], guard := none }) rfl (fun K hK => ?_) (AllReadyH.cons (o := { dst := some 12, op := Op.alloc 24, type := 0, pos := "ref.go:72", after := #[], guard := none }) rfl (fun K hK => ?_) AllReadyH.nil))
  ·
    go_simp
    refine (HUP.out _ (by rw [hA]; exact hHeld.1.bel)).mono ?_; rintro e w2 ⟨x, rfl, hx32, hxc, hb⟩; have hAG0 : A + 1 < w2.heap.size := Nat.lt_of_lt_of_le (by have := hHeld.2.2 0 (by omega); obtain ⟨u, hu⟩ := Option.isSome_iff_exists.1 this.1; exact World.block_lt_of_cell? _ _ hu) hb.size; have ix := info32 x hx32; have fx := enc8_one x; have lx : (enc8 x).length = 32 := (by rw [enc8_len, hx32])
    go_wp2_with fail
    refine hK.out _ _ ?_ (fun hHeld => ?_)
    · (try dsimp only); (go_split_ands; (repeat' apply And.intro) <;> first | assumption | exact Mine.call (by assumption) (by assumption) | exact Mine.alloc (by assumption) _ | exact Mine.setCells (by assumption) _ _ _ (by omega) | exact Mine.callN (by assumption) (by assumption) (by omega) | exact Row.belowN (by assumption) (by assumption) (by omega) | exact there_belowN (by assumption) (by assumption) (by omega) | exact rangeAt_below (by assumption) (by assumption) | exact World.rangeAt_alloc (by assumption) _ | exact World.rangeAt_setCells_apart (by assumption) _ _ _ (Or.inl (by omega)) | exact there_below (by assumption) (by assumption) | exact World.there_alloc (by assumption) _ | exact World.there_setCells (by assumption) _ _ _ | exact Row.belowS (by assumption) (by assumption) | exact Row.alloc (by assumption) _ | exact Row.setCells (by assumption) _ _ (by omega) | exact HS.below (by assumption) (by assumption) | exact HS.alloc (by assumption) _)
    clear hK K
    try simp only [Act.put, List.setIfInBounds_toArray, List.set_cons_zero, List.set_cons_succ]
    refine wpAnyH_take (i := 7) (oi := { dst := some 34, op := Op.move (Operand.tmp 41), type := 41, pos := "ref.go:72", after := #[{ on := 6, ground := Ground.data }], guard := none }) (v := ?v7_5) rfl (by kernel_rfl) (by kernel_rfl) (by kernel_rfl) (fun _ _ _ h => h) (Or.inl ⟨by rfl, ?y7_5⟩) (by assumption) ?r7_5
    case y7_5 => intro w hSw; (try dsimp only at hSw); go_simp; try with_reducible rfl
    try simp only [Act.put, List.setIfInBounds_toArray, List.set_cons_zero, List.set_cons_succ]
    refine wpAnyH_take (i := 8) (oi := { dst := some 42, op := Op.extract (Operand.tmp 34) 0, type := 24, pos := "ref.go:72", after := #[{ on := 7, ground := Ground.data }], guard := none }) (v := ?v8_6) rfl (by kernel_rfl) (by kernel_rfl) (by kernel_rfl) (fun _ _ _ h => h) (Or.inl ⟨by rfl, ?y8_6⟩) (by assumption) ?r8_6
    case y8_6 => intro w hSw; (try dsimp only at hSw); go_simp; try with_reducible rfl
    try simp only [Act.put, List.setIfInBounds_toArray, List.set_cons_zero, List.set_cons_succ]
    refine wpAnyH_take (i := 9) (oi := { dst := some 43, op := Op.extract (Operand.tmp 34) 1, type := 4, pos := "ref.go:72", after := #[{ on := 7, ground := Ground.data }, { on := 11, ground := Ground.gcOnly Departure.lateStores }], guard := none }) (v := ?v9_7) rfl (by kernel_rfl) (by kernel_rfl) (by kernel_rfl) (fun _ _ _ h => h) (Or.inl ⟨by rfl, ?y9_7⟩) (by assumption) ?r9_7
    case y9_7 => intro w hSw; (try dsimp only at hSw); go_simp; try with_reducible rfl
    try simp only [Act.put, List.setIfInBounds_toArray, List.set_cons_zero, List.set_cons_succ]
    refine wpAnyH_ready (rs := [10]) (by kernel_rfl) (by simp) (AllReadyH.cons (o := { dst := some 12, op := Op.alloc 24, type := 0, pos := "ref.go:72", after := #[], guard := none }) rfl (fun K hK => ?_) AllReadyH.nil)
    go_simp
    refine hK.out _ _ ?_ (fun hHeld => ?_)
    · (try dsimp only); (go_split_ands; (repeat' apply And.intro) <;> first | assumption | exact Mine.call (by assumption) (by assumption) | exact Mine.alloc (by assumption) _ | exact Mine.setCells (by assumption) _ _ _ (by omega) | exact Mine.callN (by assumption) (by assumption) (by omega) | exact Row.belowN (by assumption) (by assumption) (by omega) | exact there_belowN (by assumption) (by assumption) (by omega) | exact rangeAt_below (by assumption) (by assumption) | exact World.rangeAt_alloc (by assumption) _ | exact World.rangeAt_setCells_apart (by assumption) _ _ _ (Or.inl (by omega)) | exact there_below (by assumption) (by assumption) | exact World.there_alloc (by assumption) _ | exact World.there_setCells (by assumption) _ _ _ | exact Row.belowS (by assumption) (by assumption) | exact Row.alloc (by assumption) _ | exact Row.setCells (by assumption) _ _ (by omega) | exact HS.below (by assumption) (by assumption) | exact HS.alloc (by assumption) _)
    clear hK K
    try simp only [Act.put, List.setIfInBounds_toArray, List.set_cons_zero, List.set_cons_succ]
    have hth := new_there w2; obtain ⟨wx, hwx⟩ : ∃ wx, w2.alloc (.cells #[.int .u8 0, .int .u8 0, .int .u8 0, .int .u8 0, .int .u8 0, .int .u8 0, .int .u8 0, .int .u8 0, .int .u8 0, .int .u8 0, .int .u8 0, .int .u8 0, .int .u8 0, .int .u8 0, .int .u8 0, .int .u8 0, .int .u8 0, .int .u8 0, .int .u8 0, .int .u8 0, .int .u8 0, .int .u8 0, .int .u8 0, .int .u8 0, .int .u8 0, .int .u8 0, .int .u8 0, .int .u8 0, .int .u8 0, .int .u8 0, .int .u8 0, .int .u8 0] 24) = wx := ⟨_, rfl⟩; obtain ⟨G, hG⟩ : ∃ G, w2.heap.size = G := ⟨_, rfl⟩; rw [hG] at hth hAG0 ⊢; rw [hwx] at hth hHeld ⊢; have hAG := hAG0
    have hPre := hHeld
    refine wpAnyH_ready (rs := [11]) (by kernel_rfl) (by simp) (AllReadyH.cons (o := { dst := none, op := Op.store 24 (Operand.tmp 12) (Operand.tmp 42), type := 0, pos := "ref.go:72", after := #[{ on := 10, ground := Ground.data }, { on := 8, ground := Ground.data }, { on := 6, ground := Ground.chain }, { on := 0, ground := Ground.phase }, { on := 1, ground := Ground.phase }, { on := 2, ground := Ground.phase }, { on := 3, ground := Ground.phase }, { on := 4, ground := Ground.phase }, { on := 5, ground := Ground.phase }, { on := 6, ground := Ground.phase }, { on := 7, ground := Ground.phase }, { on := 8, ground := Ground.phase }, { on := 9, ground := Ground.textOnly Departure.lateStores }, { on := 10, ground := Ground.phase }], guard := none }) rfl (fun K hK => ?_) AllReadyH.nil)
    rw [if_pos (by rfl)]
    refine wp_store_mid _ _ _ rfl _ _ (List.toArray _) rfl rfl (by go_split_ands; first | assumption | (simp only [List.size_toArray, *] <;> assumption)) (by first | assumption | (simp only [List.size_toArray] <;> assumption) | (simp only [List.size_toArray, *]; done)) (all_oneCell_toArray (by assumption)) ?_
    simp only [Act.put, List.setIfInBounds_toArray, List.set_cons_zero, List.set_cons_succ, List.toList_toArray]
    refine hK.out _ _ ?_ (fun hHeld => ?_)
    · (try dsimp only); (go_split_ands; (repeat' apply And.intro) <;> first | assumption | exact Mine.call (by assumption) (by assumption) | exact Mine.alloc (by assumption) _ | exact Mine.setCells (by assumption) _ _ _ (by omega) | exact Mine.callN (by assumption) (by assumption) (by omega) | exact Row.belowN (by assumption) (by assumption) (by omega) | exact there_belowN (by assumption) (by assumption) (by omega) | exact rangeAt_below (by assumption) (by assumption) | exact World.rangeAt_alloc (by assumption) _ | exact World.rangeAt_setCells_apart (by assumption) _ _ _ (Or.inl (by omega)) | exact there_below (by assumption) (by assumption) | exact World.there_alloc (by assumption) _ | exact World.there_setCells (by assumption) _ _ _ | exact Row.belowS (by assumption) (by assumption) | exact Row.alloc (by assumption) _ | exact Row.setCells (by assumption) _ _ (by omega) | exact HS.below (by assumption) (by assumption) | exact HS.alloc (by assumption) _)
    clear hK K
    refine wpAnyH_take (i := 12) (oi := { dst := some 13, op := Op.assign (Operand.tmp 43), type := 4, pos := "ref.go:72", after := #[{ on := 9, ground := Ground.data }, { on := 11, ground := Ground.chain }, { on := 0, ground := Ground.phase }, { on := 1, ground := Ground.phase }, { on := 2, ground := Ground.phase }, { on := 3, ground := Ground.phase }, { on := 4, ground := Ground.phase }, { on := 5, ground := Ground.phase }, { on := 6, ground := Ground.phase }, { on := 7, ground := Ground.phase }, { on := 8, ground := Ground.phase }, { on := 9, ground := Ground.phase }, { on := 10, ground := Ground.phase }, { on := 11, ground := Ground.phase }], guard := none }) (v := ?v12_8) rfl (by kernel_rfl) (by kernel_rfl) (by kernel_rfl) (fun _ _ _ h => h) (Or.inl ⟨by rfl, ?y12_8⟩) (by assumption) ?r12_8
    case y12_8 => intro w hSw; (try dsimp only at hSw); go_simp; try with_reducible rfl
    try simp only [Act.put, List.setIfInBounds_toArray, List.set_cons_zero, List.set_cons_succ]
    refine wpAnyH_done (by kernel_rfl) ?_ _
    refine NoPanic.normal ?_
    have hrx := World.rangeAt_setCells_same wx G 0 (enc8 x) (by rw [lx]; exact hth)
    have hmx := hHeld.1
    have htx := hHeld.2.2
    obtain ⟨w3, hw3⟩ : ∃ w3, wx.setCells G 0 (enc8 x) = w3 := ⟨_, rfl⟩
    rw [hw3] at hrx hmx htx ⊢
    have hrp : w3.rangeAt g (o + m * 32) ap := rangeAt_below RP.out (by rw [hA]; exact hmx.bel)
    have hnode := fun w' => qnode_any x p hx32 HP32.out w'
    rw [HAP.out] at hnode
    have hcl := Hfalse.out x hxc
    obtain ⟨nd, hnd⟩ : ∃ nd, nodeL x p = nd := ⟨_, rfl⟩
    have hnd32 : nd.length = 32 := by rw [← hnd]; exact nodeL_length _ _
    rw [hnd] at hcl
    simp only [hnd] at hnode
    have hin := info32 nd hnd32
    have hf1 := enc8_one nd
    obtain ⟨ax, hax⟩ : ∃ ax, enc8 x = ax := ⟨_, rfl⟩
    obtain ⟨an, han⟩ : ∃ an, enc8 nd = an := ⟨_, rfl⟩
    have hln : an.length = 32 := by rw [← han, enc8_len, hnd32]
    rw [hax] at hrx ix hw3 ⊢
    simp only [hax, han] at hnode
    rw [han] at hin hf1
    have HN := Lib.hid hnode
    have HCL := Lib.hid hcl
    have HX := Lib.hid hin
    have HF := Lib.hid hf1
    have HLN := Lib.hid hln
    have HND := Lib.hid hnd32
    have HAN := Lib.hid han
    clear hHeld hPre hb hxc hx32 fx lx hth hnode hcl hnd hin hf1 hln hnd32 hw3 hax HUP Hfalse i0 R0 R1 HW HMW hwx
    clear hG
    go_wp2_with fail
    have ip := IP.out
    refine wp_region_noPanic ?_
    refine wp_region_held_drew (S := (fun w' => Mine A w w' ∧ w'.rangeAt G 0 ax ∧ w'.rangeAt g (o + m * 32) ap ∧ w'.there (A + 1) 0 32)) (by kernel_rfl) ?_ (fun hHeld => ?_)
    · exact ⟨⟨hmx.le, hmx.bel.drew⟩, (World.rangeAt_drew _ _ _ _).2 hrx, (World.rangeAt_drew _ _ _ _).2 hrp, (World.there_drew _ _ _ _).2 htx⟩
    refine wpAnyH_take (i := 1) (oi := { dst := some 45, op := Op.move (Operand.tmp 3), type := 29, pos := "ref.go:73", after := #[], guard := none }) (v := ?v1_30) rfl (by kernel_rfl) (by kernel_rfl) (by kernel_rfl) (fun _ _ _ h => h) (Or.inl ⟨by rfl, ?y1_30⟩) (by assumption) ?r1_30
    case y1_30 => intro w hSw; (try dsimp only at hSw); go_simp; try with_reducible rfl
    try simp only [Act.put, List.setIfInBounds_toArray, List.set_cons_zero, List.set_cons_succ]
    refine wpAnyH_take (i := 2) (oi := { dst := some 46, op := Op.move (Operand.tmp 11), type := 3, pos := "ref.go:73", after := #[], guard := none }) (v := ?v2_31) rfl (by kernel_rfl) (by kernel_rfl) (by kernel_rfl) (fun _ _ _ h => h) (Or.inl ⟨by rfl, ?y2_31⟩) (by assumption) ?r2_31
    case y2_31 => intro w hSw; (try dsimp only at hSw); go_simp; try with_reducible rfl
    try simp only [Act.put, List.setIfInBounds_toArray, List.set_cons_zero, List.set_cons_succ]
    refine wpAnyH_take (i := 3) (oi := { dst := some 47, op := Op.indexAddr 29 (Operand.tmp 45) (Operand.tmp 46), type := 0, pos := "ref.go:73", after := #[{ on := 1, ground := Ground.data }, { on := 2, ground := Ground.data }], guard := none }) (v := ?v3_32) rfl (by kernel_rfl) (by kernel_rfl) (by kernel_rfl) (fun _ _ _ h => h) (Or.inl ⟨by rfl, ?y3_32⟩) (by assumption) ?r3_32
    case y3_32 => intro w hSw; (try dsimp only at hSw); go_simp; try with_reducible rfl
    try simp only [Act.put, List.setIfInBounds_toArray, List.set_cons_zero, List.set_cons_succ]
    refine wpAnyH_take (i := 6) (oi := { dst := some 50, op := Op.move (Operand.tmp 13), type := 4, pos := "ref.go:73", after := #[{ on := 7, ground := Ground.gcOnly Departure.lateStores }], guard := none }) (v := ?v6_33) rfl (by kernel_rfl) (by kernel_rfl) (by kernel_rfl) (fun _ _ _ h => h) (Or.inl ⟨by rfl, ?y6_33⟩) (by assumption) ?r6_33
    case y6_33 => intro w hSw; (try dsimp only at hSw); go_simp; try with_reducible rfl
    try simp only [Act.put, List.setIfInBounds_toArray, List.set_cons_zero, List.set_cons_succ]
    refine wpAnyH_take (i := 0) (oi := { dst := some 44, op := Op.load 24 (Operand.tmp 12), type := 24, pos := "ref.go:73", after := #[], guard := none }) (v := _) rfl (by kernel_rfl) (by kernel_rfl) (by kernel_rfl) (fun _ _ _ h => h) (yieldsIf_load_mid (by rfl) _ _ rfl _ _ rfl _ _ (by intro w hSw; (try dsimp only at hSw); go_split_ands; assumption) (by assumption) rfl (by first | assumption | (simp only [*]; done))) (by assumption) ?_
    try simp only [Act.put, List.setIfInBounds_toArray, List.set_cons_zero, List.set_cons_succ]
    refine wpAnyH_take (i := 4) (oi := { dst := some 48, op := Op.load 24 (Operand.tmp 47), type := 24, pos := "ref.go:73", after := #[{ on := 3, ground := Ground.data }], guard := none }) (v := _) rfl (by kernel_rfl) (by kernel_rfl) (by kernel_rfl) (fun _ _ _ h => h) (yieldsIf_load_mid (by rfl) _ _ rfl _ _ rfl _ _ (by intro w hSw; (try dsimp only at hSw); go_split_ands; assumption) (by assumption) rfl (by first | assumption | (simp only [*]; done))) (by assumption) ?_
    try simp only [Act.put, List.setIfInBounds_toArray, List.set_cons_zero, List.set_cons_succ]
    refine wpAnyH_ready (rs := [5]) (by kernel_rfl) (by simp) (AllReadyH.cons (o := { dst := some 49, op := Op.call { callee := Callee.value (Operand.func 25), args := #[Operand.tmp 44, Operand.tmp 48], argTypes := #[24, 24] }, type := 24, pos := "ref.go:73", after := #[{ on := 0, ground := Ground.data }, { on := 4, ground := Ground.data }], guard := none }) rfl (fun K hK => ?_) AllReadyH.nil)
    go_simp
    refine (HN.out _).mono ?_; rintro e w4 ⟨rfl, hb4⟩; have hi := HX.out; have hh1 := HF.out; have hol := HLN.out
    go_wp2_with fail
    refine hK.out _ _ ?_ (fun hHeld => ?_)
    · (try dsimp only); (go_split_ands; (repeat' apply And.intro) <;> first | assumption | exact Mine.call (by assumption) (by assumption) | exact Mine.alloc (by assumption) _ | exact Mine.setCells (by assumption) _ _ _ (by omega) | exact Mine.callN (by assumption) (by assumption) (by omega) | exact Row.belowN (by assumption) (by assumption) (by omega) | exact there_belowN (by assumption) (by assumption) (by omega) | exact rangeAt_below (by assumption) (by assumption) | exact World.rangeAt_alloc (by assumption) _ | exact World.rangeAt_setCells_apart (by assumption) _ _ _ (Or.inl (by omega)) | exact there_below (by assumption) (by assumption) | exact World.there_alloc (by assumption) _ | exact World.there_setCells (by assumption) _ _ _ | exact Row.belowS (by assumption) (by assumption) | exact Row.alloc (by assumption) _ | exact Row.setCells (by assumption) _ _ (by omega) | exact HS.below (by assumption) (by assumption) | exact HS.alloc (by assumption) _)
    clear hK K
    try simp only [Act.put, List.setIfInBounds_toArray, List.set_cons_zero, List.set_cons_succ]
    have hPre := hHeld
    refine wpAnyH_ready (rs := [7]) (by kernel_rfl) (by simp) (AllReadyH.cons (o := { dst := none, op := Op.store 24 (Operand.tmp 8) (Operand.tmp 49), type := 0, pos := "ref.go:73", after := #[{ on := 5, ground := Ground.data }, { on := 5, ground := Ground.chain }, { on := 0, ground := Ground.phase }, { on := 1, ground := Ground.phase }, { on := 2, ground := Ground.phase }, { on := 3, ground := Ground.phase }, { on := 4, ground := Ground.phase }, { on := 5, ground := Ground.phase }, { on := 6, ground := Ground.textOnly Departure.lateStores }], guard := none }) rfl (fun K hK => ?_) AllReadyH.nil)
    rw [if_pos (by rfl)]
    refine wp_store_mid _ _ _ rfl _ _ (List.toArray _) rfl rfl (by go_split_ands; first | assumption | (simp only [List.size_toArray, *] <;> assumption)) (by first | assumption | (simp only [List.size_toArray] <;> assumption) | (simp only [List.size_toArray, *]; done)) (all_oneCell_toArray (by assumption)) ?_
    simp only [Act.put, List.setIfInBounds_toArray, List.set_cons_zero, List.set_cons_succ, List.toList_toArray]
    refine hK.out _ _ ?_ (fun hHeld => ?_)
    · (try dsimp only); (go_split_ands; (repeat' apply And.intro) <;> first | assumption | exact Mine.call (by assumption) (by assumption) | exact Mine.alloc (by assumption) _ | exact Mine.setCells (by assumption) _ _ _ (by omega) | exact Mine.callN (by assumption) (by assumption) (by omega) | exact Row.belowN (by assumption) (by assumption) (by omega) | exact there_belowN (by assumption) (by assumption) (by omega) | exact rangeAt_below (by assumption) (by assumption) | exact World.rangeAt_alloc (by assumption) _ | exact World.rangeAt_setCells_apart (by assumption) _ _ _ (Or.inl (by omega)) | exact there_below (by assumption) (by assumption) | exact World.there_alloc (by assumption) _ | exact World.there_setCells (by assumption) _ _ _ | exact Row.belowS (by assumption) (by assumption) | exact Row.alloc (by assumption) _ | exact Row.setCells (by assumption) _ _ (by omega) | exact HS.below (by assumption) (by assumption) | exact HS.alloc (by assumption) _)
    clear hK K
    refine wpAnyH_take (i := 8) (oi := { dst := some 9, op := Op.assign (Operand.tmp 50), type := 4, pos := "ref.go:73", after := #[{ on := 6, ground := Ground.data }, { on := 7, ground := Ground.chain }, { on := 0, ground := Ground.phase }, { on := 1, ground := Ground.phase }, { on := 2, ground := Ground.phase }, { on := 3, ground := Ground.phase }, { on := 4, ground := Ground.phase }, { on := 5, ground := Ground.phase }, { on := 6, ground := Ground.phase }, { on := 7, ground := Ground.phase }], guard := none }) (v := ?v8_34) rfl (by kernel_rfl) (by kernel_rfl) (by kernel_rfl) (fun _ _ _ h => h) (Or.inl ⟨by rfl, ?y8_34⟩) (by assumption) ?r8_34
    case y8_34 => intro w hSw; (try dsimp only at hSw); go_simp; try with_reducible rfl
    try simp only [Act.put, List.setIfInBounds_toArray, List.set_cons_zero, List.set_cons_succ]
    refine wpAnyH_done (by kernel_rfl) ?_ _
    refine NoPanic.normal ?_
    have hr := Lib.hid (World.rangeAt_setCells_same w4 (A + 1) 0 an (by rw [HLN.out]; exact hPre.2.2.2))
    have hfin := Lib.hid hHeld.1.bel
    clear hHeld hPre hi hh1 hol hb4 hrx hmx htx hrp ix ip hu
    go_wp2
    refine bodyPost_ret (v := .tuple #[.agg an.toArray, .bool bb]) (range_result2 hr.out Try.results56 _ _ _ rfl rfl Try.underlying24 HX.out) rfl ?_
    exact ⟨nd, by rw [HAN.out], HND.out, HCL.out, by rw [hA]; exact hfin.out⟩
  ·
    go_simp
    refine hK.out _ _ ?_ (fun hHeld => ?_)
    · (try dsimp only); (go_split_ands; (repeat' apply And.intro) <;> first | assumption | exact Mine.call (by assumption) (by assumption) | exact Mine.alloc (by assumption) _ | exact Mine.setCells (by assumption) _ _ _ (by omega) | exact Mine.callN (by assumption) (by assumption) (by omega) | exact Row.belowN (by assumption) (by assumption) (by omega) | exact there_belowN (by assumption) (by assumption) (by omega) | exact rangeAt_below (by assumption) (by assumption) | exact World.rangeAt_alloc (by assumption) _ | exact World.rangeAt_setCells_apart (by assumption) _ _ _ (Or.inl (by omega)) | exact there_below (by assumption) (by assumption) | exact World.there_alloc (by assumption) _ | exact World.there_setCells (by assumption) _ _ _ | exact Row.belowS (by assumption) (by assumption) | exact Row.alloc (by assumption) _ | exact Row.setCells (by assumption) _ _ (by omega) | exact HS.below (by assumption) (by assumption) | exact HS.alloc (by assumption) _)
    clear hK K
    try simp only [Act.put, List.setIfInBounds_toArray, List.set_cons_zero, List.set_cons_succ]
    refine wpAnyH_ready (rs := [6]) (by kernel_rfl) (by simp) (AllReadyH.cons (o := { dst := some 41, op := Op.call { callee := Callee.value (Operand.func 56), args := #[Operand.tmp 35, Operand.tmp 36, Operand.tmp 37, Operand.tmp 40], argTypes := #[3, 3, 24, 29] }, type := 41, pos := "ref.go:72", after := #[{ on := 0, ground := Ground.data }, { on := 1, ground := Ground.data }, { on := 2, ground := Ground.data }, { on := 5, ground := Ground.data }], guard := none }) rfl (fun K hK => ?_) AllReadyH.nil)
    go_simp
    refine (HUP.out _ (by rw [hA]; exact hHeld.1.bel)).mono ?_; rintro e w2 ⟨x, rfl, hx32, hxc, hb⟩; have hthb := there_below ((World.there_drew _ _ _ _).2 (new_there w1)) hb; rw [hsz] at hthb; have ix := info32 x hx32; have fx := enc8_one x; have lx : (enc8 x).length = 32 := (by rw [enc8_len, hx32])
    go_wp2_with fail
    refine hK.out _ _ ?_ (fun hHeld => ?_)
    · (try dsimp only); (go_split_ands; (repeat' apply And.intro) <;> first | assumption | exact Mine.call (by assumption) (by assumption) | exact Mine.alloc (by assumption) _ | exact Mine.setCells (by assumption) _ _ _ (by omega) | exact Mine.callN (by assumption) (by assumption) (by omega) | exact Row.belowN (by assumption) (by assumption) (by omega) | exact there_belowN (by assumption) (by assumption) (by omega) | exact rangeAt_below (by assumption) (by assumption) | exact World.rangeAt_alloc (by assumption) _ | exact World.rangeAt_setCells_apart (by assumption) _ _ _ (Or.inl (by omega)) | exact there_below (by assumption) (by assumption) | exact World.there_alloc (by assumption) _ | exact World.there_setCells (by assumption) _ _ _ | exact Row.belowS (by assumption) (by assumption) | exact Row.alloc (by assumption) _ | exact Row.setCells (by assumption) _ _ (by omega) | exact HS.below (by assumption) (by assumption) | exact HS.alloc (by assumption) _)
    clear hK K
    try simp only [Act.put, List.setIfInBounds_toArray, List.set_cons_zero, List.set_cons_succ]
    refine wpAnyH_take (i := 7) (oi := { dst := some 34, op := Op.move (Operand.tmp 41), type := 41, pos := "ref.go:72", after := #[{ on := 6, ground := Ground.data }], guard := none }) (v := ?v7_9) rfl (by kernel_rfl) (by kernel_rfl) (by kernel_rfl) (fun _ _ _ h => h) (Or.inl ⟨by rfl, ?y7_9⟩) (by assumption) ?r7_9
    case y7_9 => intro w hSw; (try dsimp only at hSw); go_simp; try with_reducible rfl
    try simp only [Act.put, List.setIfInBounds_toArray, List.set_cons_zero, List.set_cons_succ]
    refine wpAnyH_take (i := 8) (oi := { dst := some 42, op := Op.extract (Operand.tmp 34) 0, type := 24, pos := "ref.go:72", after := #[{ on := 7, ground := Ground.data }], guard := none }) (v := ?v8_10) rfl (by kernel_rfl) (by kernel_rfl) (by kernel_rfl) (fun _ _ _ h => h) (Or.inl ⟨by rfl, ?y8_10⟩) (by assumption) ?r8_10
    case y8_10 => intro w hSw; (try dsimp only at hSw); go_simp; try with_reducible rfl
    try simp only [Act.put, List.setIfInBounds_toArray, List.set_cons_zero, List.set_cons_succ]
    refine wpAnyH_take (i := 9) (oi := { dst := some 43, op := Op.extract (Operand.tmp 34) 1, type := 4, pos := "ref.go:72", after := #[{ on := 7, ground := Ground.data }, { on := 11, ground := Ground.gcOnly Departure.lateStores }], guard := none }) (v := ?v9_11) rfl (by kernel_rfl) (by kernel_rfl) (by kernel_rfl) (fun _ _ _ h => h) (Or.inl ⟨by rfl, ?y9_11⟩) (by assumption) ?r9_11
    case y9_11 => intro w hSw; (try dsimp only at hSw); go_simp; try with_reducible rfl
    try simp only [Act.put, List.setIfInBounds_toArray, List.set_cons_zero, List.set_cons_succ]
    obtain ⟨wx, hwx⟩ : ∃ wx, w2 = wx := ⟨_, rfl⟩; obtain ⟨G, hG⟩ : ∃ G, A + 2 = G := ⟨_, rfl⟩; have hth : wx.there G 0 32 := (by rw [← hwx, ← hG]; exact hthb); rw [hG]; rw [hwx] at hHeld ⊢; have hAG : A + 1 < G := (by omega)
    have hPre := hHeld
    refine wpAnyH_ready (rs := [11]) (by kernel_rfl) (by simp) (AllReadyH.cons (o := { dst := none, op := Op.store 24 (Operand.tmp 12) (Operand.tmp 42), type := 0, pos := "ref.go:72", after := #[{ on := 10, ground := Ground.data }, { on := 8, ground := Ground.data }, { on := 6, ground := Ground.chain }, { on := 0, ground := Ground.phase }, { on := 1, ground := Ground.phase }, { on := 2, ground := Ground.phase }, { on := 3, ground := Ground.phase }, { on := 4, ground := Ground.phase }, { on := 5, ground := Ground.phase }, { on := 6, ground := Ground.phase }, { on := 7, ground := Ground.phase }, { on := 8, ground := Ground.phase }, { on := 9, ground := Ground.textOnly Departure.lateStores }, { on := 10, ground := Ground.phase }], guard := none }) rfl (fun K hK => ?_) AllReadyH.nil)
    rw [if_pos (by rfl)]
    refine wp_store_mid _ _ _ rfl _ _ (List.toArray _) rfl rfl (by go_split_ands; first | assumption | (simp only [List.size_toArray, *] <;> assumption)) (by first | assumption | (simp only [List.size_toArray] <;> assumption) | (simp only [List.size_toArray, *]; done)) (all_oneCell_toArray (by assumption)) ?_
    simp only [Act.put, List.setIfInBounds_toArray, List.set_cons_zero, List.set_cons_succ, List.toList_toArray]
    refine hK.out _ _ ?_ (fun hHeld => ?_)
    · (try dsimp only); (go_split_ands; (repeat' apply And.intro) <;> first | assumption | exact Mine.call (by assumption) (by assumption) | exact Mine.alloc (by assumption) _ | exact Mine.setCells (by assumption) _ _ _ (by omega) | exact Mine.callN (by assumption) (by assumption) (by omega) | exact Row.belowN (by assumption) (by assumption) (by omega) | exact there_belowN (by assumption) (by assumption) (by omega) | exact rangeAt_below (by assumption) (by assumption) | exact World.rangeAt_alloc (by assumption) _ | exact World.rangeAt_setCells_apart (by assumption) _ _ _ (Or.inl (by omega)) | exact there_below (by assumption) (by assumption) | exact World.there_alloc (by assumption) _ | exact World.there_setCells (by assumption) _ _ _ | exact Row.belowS (by assumption) (by assumption) | exact Row.alloc (by assumption) _ | exact Row.setCells (by assumption) _ _ (by omega) | exact HS.below (by assumption) (by assumption) | exact HS.alloc (by assumption) _)
    clear hK K
    refine wpAnyH_take (i := 12) (oi := { dst := some 13, op := Op.assign (Operand.tmp 43), type := 4, pos := "ref.go:72", after := #[{ on := 9, ground := Ground.data }, { on := 11, ground := Ground.chain }, { on := 0, ground := Ground.phase }, { on := 1, ground := Ground.phase }, { on := 2, ground := Ground.phase }, { on := 3, ground := Ground.phase }, { on := 4, ground := Ground.phase }, { on := 5, ground := Ground.phase }, { on := 6, ground := Ground.phase }, { on := 7, ground := Ground.phase }, { on := 8, ground := Ground.phase }, { on := 9, ground := Ground.phase }, { on := 10, ground := Ground.phase }, { on := 11, ground := Ground.phase }], guard := none }) (v := ?v12_12) rfl (by kernel_rfl) (by kernel_rfl) (by kernel_rfl) (fun _ _ _ h => h) (Or.inl ⟨by rfl, ?y12_12⟩) (by assumption) ?r12_12
    case y12_12 => intro w hSw; (try dsimp only at hSw); go_simp; try with_reducible rfl
    try simp only [Act.put, List.setIfInBounds_toArray, List.set_cons_zero, List.set_cons_succ]
    refine wpAnyH_done (by kernel_rfl) ?_ _
    refine NoPanic.normal ?_
    have hrx := World.rangeAt_setCells_same wx G 0 (enc8 x) (by rw [lx]; exact hth)
    have hmx := hHeld.1
    have htx := hHeld.2.2
    obtain ⟨w3, hw3⟩ : ∃ w3, wx.setCells G 0 (enc8 x) = w3 := ⟨_, rfl⟩
    rw [hw3] at hrx hmx htx ⊢
    have hrp : w3.rangeAt g (o + m * 32) ap := rangeAt_below RP.out (by rw [hA]; exact hmx.bel)
    have hnode := fun w' => qnode_any x p hx32 HP32.out w'
    rw [HAP.out] at hnode
    have hcl := Hfalse.out x hxc
    obtain ⟨nd, hnd⟩ : ∃ nd, nodeL x p = nd := ⟨_, rfl⟩
    have hnd32 : nd.length = 32 := by rw [← hnd]; exact nodeL_length _ _
    rw [hnd] at hcl
    simp only [hnd] at hnode
    have hin := info32 nd hnd32
    have hf1 := enc8_one nd
    obtain ⟨ax, hax⟩ : ∃ ax, enc8 x = ax := ⟨_, rfl⟩
    obtain ⟨an, han⟩ : ∃ an, enc8 nd = an := ⟨_, rfl⟩
    have hln : an.length = 32 := by rw [← han, enc8_len, hnd32]
    rw [hax] at hrx ix hw3 ⊢
    simp only [hax, han] at hnode
    rw [han] at hin hf1
    have HN := Lib.hid hnode
    have HCL := Lib.hid hcl
    have HX := Lib.hid hin
    have HF := Lib.hid hf1
    have HLN := Lib.hid hln
    have HND := Lib.hid hnd32
    have HAN := Lib.hid han
    clear hHeld hPre hb hxc hx32 fx lx hth hnode hcl hnd hin hf1 hln hnd32 hw3 hax HUP Hfalse i0 R0 R1 HW HMW hwx
    clear hG
    go_wp2_with fail
    have ip := IP.out
    refine wp_region_noPanic ?_
    refine wp_region_held_drew (S := (fun w' => Mine A w w' ∧ w'.rangeAt G 0 ax ∧ w'.rangeAt g (o + m * 32) ap ∧ w'.there (A + 1) 0 32)) (by kernel_rfl) ?_ (fun hHeld => ?_)
    · exact ⟨⟨hmx.le, hmx.bel.drew⟩, (World.rangeAt_drew _ _ _ _).2 hrx, (World.rangeAt_drew _ _ _ _).2 hrp, (World.there_drew _ _ _ _).2 htx⟩
    refine wpAnyH_take (i := 1) (oi := { dst := some 45, op := Op.move (Operand.tmp 3), type := 29, pos := "ref.go:73", after := #[], guard := none }) (v := ?v1_35) rfl (by kernel_rfl) (by kernel_rfl) (by kernel_rfl) (fun _ _ _ h => h) (Or.inl ⟨by rfl, ?y1_35⟩) (by assumption) ?r1_35
    case y1_35 => intro w hSw; (try dsimp only at hSw); go_simp; try with_reducible rfl
    try simp only [Act.put, List.setIfInBounds_toArray, List.set_cons_zero, List.set_cons_succ]
    refine wpAnyH_take (i := 2) (oi := { dst := some 46, op := Op.move (Operand.tmp 11), type := 3, pos := "ref.go:73", after := #[], guard := none }) (v := ?v2_36) rfl (by kernel_rfl) (by kernel_rfl) (by kernel_rfl) (fun _ _ _ h => h) (Or.inl ⟨by rfl, ?y2_36⟩) (by assumption) ?r2_36
    case y2_36 => intro w hSw; (try dsimp only at hSw); go_simp; try with_reducible rfl
    try simp only [Act.put, List.setIfInBounds_toArray, List.set_cons_zero, List.set_cons_succ]
    refine wpAnyH_take (i := 3) (oi := { dst := some 47, op := Op.indexAddr 29 (Operand.tmp 45) (Operand.tmp 46), type := 0, pos := "ref.go:73", after := #[{ on := 1, ground := Ground.data }, { on := 2, ground := Ground.data }], guard := none }) (v := ?v3_37) rfl (by kernel_rfl) (by kernel_rfl) (by kernel_rfl) (fun _ _ _ h => h) (Or.inl ⟨by rfl, ?y3_37⟩) (by assumption) ?r3_37
    case y3_37 => intro w hSw; (try dsimp only at hSw); go_simp; try with_reducible rfl
    try simp only [Act.put, List.setIfInBounds_toArray, List.set_cons_zero, List.set_cons_succ]
    refine wpAnyH_take (i := 6) (oi := { dst := some 50, op := Op.move (Operand.tmp 13), type := 4, pos := "ref.go:73", after := #[{ on := 7, ground := Ground.gcOnly Departure.lateStores }], guard := none }) (v := ?v6_38) rfl (by kernel_rfl) (by kernel_rfl) (by kernel_rfl) (fun _ _ _ h => h) (Or.inl ⟨by rfl, ?y6_38⟩) (by assumption) ?r6_38
    case y6_38 => intro w hSw; (try dsimp only at hSw); go_simp; try with_reducible rfl
    try simp only [Act.put, List.setIfInBounds_toArray, List.set_cons_zero, List.set_cons_succ]
    refine wpAnyH_take (i := 0) (oi := { dst := some 44, op := Op.load 24 (Operand.tmp 12), type := 24, pos := "ref.go:73", after := #[], guard := none }) (v := _) rfl (by kernel_rfl) (by kernel_rfl) (by kernel_rfl) (fun _ _ _ h => h) (yieldsIf_load_mid (by rfl) _ _ rfl _ _ rfl _ _ (by intro w hSw; (try dsimp only at hSw); go_split_ands; assumption) (by assumption) rfl (by first | assumption | (simp only [*]; done))) (by assumption) ?_
    try simp only [Act.put, List.setIfInBounds_toArray, List.set_cons_zero, List.set_cons_succ]
    refine wpAnyH_take (i := 4) (oi := { dst := some 48, op := Op.load 24 (Operand.tmp 47), type := 24, pos := "ref.go:73", after := #[{ on := 3, ground := Ground.data }], guard := none }) (v := _) rfl (by kernel_rfl) (by kernel_rfl) (by kernel_rfl) (fun _ _ _ h => h) (yieldsIf_load_mid (by rfl) _ _ rfl _ _ rfl _ _ (by intro w hSw; (try dsimp only at hSw); go_split_ands; assumption) (by assumption) rfl (by first | assumption | (simp only [*]; done))) (by assumption) ?_
    try simp only [Act.put, List.setIfInBounds_toArray, List.set_cons_zero, List.set_cons_succ]
    refine wpAnyH_ready (rs := [5]) (by kernel_rfl) (by simp) (AllReadyH.cons (o := { dst := some 49, op := Op.call { callee := Callee.value (Operand.func 25), args := #[Operand.tmp 44, Operand.tmp 48], argTypes := #[24, 24] }, type := 24, pos := "ref.go:73", after := #[{ on := 0, ground := Ground.data }, { on := 4, ground := Ground.data }], guard := none }) rfl (fun K hK => ?_) AllReadyH.nil)
    go_simp
    refine (HN.out _).mono ?_; rintro e w4 ⟨rfl, hb4⟩; have hi := HX.out; have hh1 := HF.out; have hol := HLN.out
    go_wp2_with fail
    refine hK.out _ _ ?_ (fun hHeld => ?_)
    · (try dsimp only); (go_split_ands; (repeat' apply And.intro) <;> first | assumption | exact Mine.call (by assumption) (by assumption) | exact Mine.alloc (by assumption) _ | exact Mine.setCells (by assumption) _ _ _ (by omega) | exact Mine.callN (by assumption) (by assumption) (by omega) | exact Row.belowN (by assumption) (by assumption) (by omega) | exact there_belowN (by assumption) (by assumption) (by omega) | exact rangeAt_below (by assumption) (by assumption) | exact World.rangeAt_alloc (by assumption) _ | exact World.rangeAt_setCells_apart (by assumption) _ _ _ (Or.inl (by omega)) | exact there_below (by assumption) (by assumption) | exact World.there_alloc (by assumption) _ | exact World.there_setCells (by assumption) _ _ _ | exact Row.belowS (by assumption) (by assumption) | exact Row.alloc (by assumption) _ | exact Row.setCells (by assumption) _ _ (by omega) | exact HS.below (by assumption) (by assumption) | exact HS.alloc (by assumption) _)
    clear hK K
    try simp only [Act.put, List.setIfInBounds_toArray, List.set_cons_zero, List.set_cons_succ]
    have hPre := hHeld
    refine wpAnyH_ready (rs := [7]) (by kernel_rfl) (by simp) (AllReadyH.cons (o := { dst := none, op := Op.store 24 (Operand.tmp 8) (Operand.tmp 49), type := 0, pos := "ref.go:73", after := #[{ on := 5, ground := Ground.data }, { on := 5, ground := Ground.chain }, { on := 0, ground := Ground.phase }, { on := 1, ground := Ground.phase }, { on := 2, ground := Ground.phase }, { on := 3, ground := Ground.phase }, { on := 4, ground := Ground.phase }, { on := 5, ground := Ground.phase }, { on := 6, ground := Ground.textOnly Departure.lateStores }], guard := none }) rfl (fun K hK => ?_) AllReadyH.nil)
    rw [if_pos (by rfl)]
    refine wp_store_mid _ _ _ rfl _ _ (List.toArray _) rfl rfl (by go_split_ands; first | assumption | (simp only [List.size_toArray, *] <;> assumption)) (by first | assumption | (simp only [List.size_toArray] <;> assumption) | (simp only [List.size_toArray, *]; done)) (all_oneCell_toArray (by assumption)) ?_
    simp only [Act.put, List.setIfInBounds_toArray, List.set_cons_zero, List.set_cons_succ, List.toList_toArray]
    refine hK.out _ _ ?_ (fun hHeld => ?_)
    · (try dsimp only); (go_split_ands; (repeat' apply And.intro) <;> first | assumption | exact Mine.call (by assumption) (by assumption) | exact Mine.alloc (by assumption) _ | exact Mine.setCells (by assumption) _ _ _ (by omega) | exact Mine.callN (by assumption) (by assumption) (by omega) | exact Row.belowN (by assumption) (by assumption) (by omega) | exact there_belowN (by assumption) (by assumption) (by omega) | exact rangeAt_below (by assumption) (by assumption) | exact World.rangeAt_alloc (by assumption) _ | exact World.rangeAt_setCells_apart (by assumption) _ _ _ (Or.inl (by omega)) | exact there_below (by assumption) (by assumption) | exact World.there_alloc (by assumption) _ | exact World.there_setCells (by assumption) _ _ _ | exact Row.belowS (by assumption) (by assumption) | exact Row.alloc (by assumption) _ | exact Row.setCells (by assumption) _ _ (by omega) | exact HS.below (by assumption) (by assumption) | exact HS.alloc (by assumption) _)
    clear hK K
    refine wpAnyH_take (i := 8) (oi := { dst := some 9, op := Op.assign (Operand.tmp 50), type := 4, pos := "ref.go:73", after := #[{ on := 6, ground := Ground.data }, { on := 7, ground := Ground.chain }, { on := 0, ground := Ground.phase }, { on := 1, ground := Ground.phase }, { on := 2, ground := Ground.phase }, { on := 3, ground := Ground.phase }, { on := 4, ground := Ground.phase }, { on := 5, ground := Ground.phase }, { on := 6, ground := Ground.phase }, { on := 7, ground := Ground.phase }], guard := none }) (v := ?v8_39) rfl (by kernel_rfl) (by kernel_rfl) (by kernel_rfl) (fun _ _ _ h => h) (Or.inl ⟨by rfl, ?y8_39⟩) (by assumption) ?r8_39
    case y8_39 => intro w hSw; (try dsimp only at hSw); go_simp; try with_reducible rfl
    try simp only [Act.put, List.setIfInBounds_toArray, List.set_cons_zero, List.set_cons_succ]
    refine wpAnyH_done (by kernel_rfl) ?_ _
    refine NoPanic.normal ?_
    have hr := Lib.hid (World.rangeAt_setCells_same w4 (A + 1) 0 an (by rw [HLN.out]; exact hPre.2.2.2))
    have hfin := Lib.hid hHeld.1.bel
    clear hHeld hPre hi hh1 hol hb4 hrx hmx htx hrp ix ip hu
    go_wp2
    refine bodyPost_ret (v := .tuple #[.agg an.toArray, .bool bb]) (range_result2 hr.out Try.results56 _ _ _ rfl rfl Try.underlying24 HX.out) rfl ?_
    exact ⟨nd, by rw [HAN.out], HND.out, HCL.out, by rw [hA]; exact hfin.out⟩

set_option maxHeartbeats 4000000 in
set_option maxRecDepth 100000 in
theorem up_right (n i : Nat) (leaf : List UInt8) (pv : Value) (ps : List (List UInt8)) (m : Nat) (w : World) (hl : leaf.length = 32) (hv : HS w pv ps) (h2 : 2 ≤ n) (hn : n ≤ 9223372036854775807) (hin : i < n) (hik : ¬ i < hlf n) (hm : ps.length = m + 1)
    (IH : ∀ (n' i' : Nat) (pv' : Value) (w' : World), n' ≤ 9223372036854775807 → i' < n' → HS w' pv' (ps.take m) → Calls Try.prog 56 #[.int .i64 (n' : Int), .int .i64 (i' : Int), .agg (enc8 leaf).toArray, pv'] w' (UpSays n' i' leaf (ps.take m) w')) :
    Calls Try.prog 56 #[.int .i64 (n : Int), .int .i64 (i : Int), .agg (enc8 leaf).toArray, pv] w (UpSays n i leaf ps w) := by
  obtain ⟨C, c, rfl, hc, -⟩ := hv.form
  obtain ⟨W, A, hW, hA, hsz, r0, r1, hmw⟩ := box_new w (enc8 leaf)
  have hk := hlf_range n h2
  have hh := fun w => split_any n (by omega) w
  obtain ⟨p, hp⟩ : ∃ p, ps[m]? = some p := ⟨_, List.getElem?_eq_getElem (by omega)⟩
  obtain ⟨p32, -, g, o, rfl, rp⟩ := hv.at_ m (by omega) p hp
  have hgA : g < A := by
    have h0 := rp 0 (.int .u8 (gb p 0)) (enc8_get p 0 (by omega))
    rw [← hA]
    exact World.block_lt_of_cell? w _ h0
  obtain ⟨k, hke⟩ : ∃ k, hlf n = k := ⟨_, rfl⟩
  have hts : turnsL n i = true :: turnsL (n - k) (i - k) := by rw [turnsL_right n i h2 hik, hke]
  rw [hke] at hk hik
  simp only [hke] at hh
  have hup := fun w' hb => IH (n - k) (i - k) (.slice (some ⟨g, o, none⟩) m c) w' (by omega) (by omega) ((hv.below (W' := w') hb).take m (by omega))
  obtain ⟨R, hR⟩ : ∃ R, turnsL (n - k) (i - k) = R := ⟨_, rfl⟩
  unfold UpSays at hup ⊢
  rw [hR] at hts
  rw [hts]
  simp only [hR] at hup
  have hplen : (ps.take m).length = m := by rw [List.length_take]; omega
  have hdec : decide ((true :: R).length = ps.length) = decide (R.length = (ps.take m).length) := by rw [hplen, hm]; simp
  rw [hdec]
  obtain ⟨bb, hbb⟩ : ∃ bb, decide (R.length = (ps.take m).length) = bb := ⟨_, rfl⟩
  rw [hbb]
  simp only [hbb] at hup
  have htop := fun (x : List UInt8) (hx : R.length = (ps.take m).length → x = clb R.reverse (ps.take m) leaf (ps.take m).length) => (fun (h : (true :: R).length = ps.length) => by
    have hRm : R.length = m := by rw [hm] at h; simpa using h
    have e := clb_top true R ps leaf m p hRm hp hm
    rw [e, hx (by rw [hplen]; exact hRm), hplen]
    rfl : (true :: R).length = ps.length → nodeL p x = clb (true :: R).reverse ps leaf ps.length)
  have ka := fun w => sums_runh (some ⟨g, o, none⟩) (m + 1) c m (by omega) (m : Int) rfl w
  have x0 : IntKind.i64.wrap (((m + 1 : Nat) : Int) - 1) = (m : Int) := by rw [IntWalk.i64_in _ (by omega)]; omega
  have x0' : IntKind.i64.wrap ((m : Int) + 1 - 1) = (m : Int) := by rw [IntWalk.i64_in _ (by omega)]; omega
  have y1 : IntKind.i64.wrap ((n : Int) - (k : Int)) = ((n - k : Nat) : Int) := by rw [IntWalk.i64_in _ (by omega)]; omega
  have y2 : IntKind.i64.wrap ((i : Int) - (k : Int)) = ((i - k : Nat) : Int) := by rw [IntWalk.i64_in _ (by omega)]; omega
  have i0 := info32 leaf hl
  have ip := info32 p p32
  obtain ⟨al, hal⟩ : ∃ al, enc8 leaf = al := ⟨_, rfl⟩
  obtain ⟨ap, hap⟩ : ∃ ap, enc8 p = ap := ⟨_, rfl⟩
  rw [hal] at hW r0 i0 ⊢
  simp only [hal] at hup
  rw [hap] at ip rp
  obtain ⟨M, hM⟩ : ∃ M, m + 1 = M := ⟨_, rfl⟩
  rw [hm, hM] at hc htop ⊢
  rw [hM] at ka x0
  have q1 : ((n : Int) == 1) = false := by simp; omega
  have q2 : ((M : Int) == 0) = false := by simp; omega
  have q3 : m < M := by omega
  have q3' : (m : Int) < (M : Int) := by omega
  have q4 : decide ((i : Int) < (k : Int)) = false := by simp; omega
  have x1 : IntKind.i64.wrap ((M : Int) - 1) = (m : Int) := by rw [IntWalk.i64_in _ (by omega)]; omega
  have hu := Try.underlying24
  have HH := Lib.hid hh
  have HUP := Lib.hid hup
  have Htrue := Lib.hid htop
  have HAL := Lib.hid hal
  have HAP := Lib.hid hap
  have HP32 := Lib.hid p32
  have HW := Lib.hid hW
  have HMW := Lib.hid hmw
  have R0 := Lib.hid r0
  have R1 := Lib.hid r1
  have RP := Lib.hid rp
  have IP := Lib.hid ip
  have I0 := Lib.hid i0
  clear IH hv hh hup htop hal hap p32 hW hmw r0 r1 rp hp hts hR hplen hdec hbb hke hm hl x0 x0' hc
  go_enter Try.func56, Try.ntmps56
  go_wp2_with fail
  rw [HW.out]
  refine (HH.out _).mono ?_
  rintro e w1 ⟨rfl, rfl⟩
  go_wp2_with fail
  have i0 := I0.out
  refine wp_region_noPanic ?_
  refine wp_region_held_drew (S := (fun w' => Mine A w w' ∧ w'.rangeAt A 0 al ∧ w'.there (A + 1) 0 32)) (by kernel_rfl) ?_ (fun hHeld => ?_)
  · exact ⟨⟨HMW.out.le, HMW.out.bel.drew⟩, (World.rangeAt_drew _ _ _ _).2 R0.out.range, (World.there_drew _ _ _ _).2 (R1.out.there 32 rfl)⟩
  refine wpAnyH_take (i := 0) (oi := { dst := some 52, op := Op.move (Operand.tmp 0), type := 3, pos := "ref.go:75", after := #[], guard := none }) (v := ?v0_13) rfl (by kernel_rfl) (by kernel_rfl) (by kernel_rfl) (fun _ _ _ h => h) (Or.inl ⟨by rfl, ?y0_13⟩) (by assumption) ?r0_13
  case y0_13 => intro w hSw; (try dsimp only at hSw); go_simp; try with_reducible rfl
  try simp only [Act.put, List.setIfInBounds_toArray, List.set_cons_zero, List.set_cons_succ]
  refine wpAnyH_take (i := 1) (oi := { dst := some 53, op := Op.move (Operand.tmp 10), type := 3, pos := "ref.go:75", after := #[], guard := none }) (v := ?v1_14) rfl (by kernel_rfl) (by kernel_rfl) (by kernel_rfl) (fun _ _ _ h => h) (Or.inl ⟨by rfl, ?y1_14⟩) (by assumption) ?r1_14
  case y1_14 => intro w hSw; (try dsimp only at hSw); go_simp; try with_reducible rfl
  try simp only [Act.put, List.setIfInBounds_toArray, List.set_cons_zero, List.set_cons_succ]
  refine wpAnyH_take (i := 2) (oi := { dst := some 54, op := Op.binOp BinOp.sub 3 (Operand.tmp 52) (Operand.tmp 53) 3, type := 3, pos := "ref.go:75", after := #[{ on := 0, ground := Ground.data }, { on := 1, ground := Ground.data }], guard := none }) (v := ?v2_15) rfl (by kernel_rfl) (by kernel_rfl) (by kernel_rfl) (fun _ _ _ h => h) (Or.inl ⟨by rfl, ?y2_15⟩) (by assumption) ?r2_15
  case y2_15 => intro w hSw; (try dsimp only at hSw); go_simp; try with_reducible rfl
  try simp only [Act.put, List.setIfInBounds_toArray, List.set_cons_zero, List.set_cons_succ]
  refine wpAnyH_take (i := 3) (oi := { dst := some 55, op := Op.move (Operand.tmp 1), type := 3, pos := "ref.go:75", after := #[], guard := none }) (v := ?v3_16) rfl (by kernel_rfl) (by kernel_rfl) (by kernel_rfl) (fun _ _ _ h => h) (Or.inl ⟨by rfl, ?y3_16⟩) (by assumption) ?r3_16
  case y3_16 => intro w hSw; (try dsimp only at hSw); go_simp; try with_reducible rfl
  try simp only [Act.put, List.setIfInBounds_toArray, List.set_cons_zero, List.set_cons_succ]
  refine wpAnyH_take (i := 4) (oi := { dst := some 56, op := Op.move (Operand.tmp 10), type := 3, pos := "ref.go:75", after := #[], guard := none }) (v := ?v4_17) rfl (by kernel_rfl) (by kernel_rfl) (by kernel_rfl) (fun _ _ _ h => h) (Or.inl ⟨by rfl, ?y4_17⟩) (by assumption) ?r4_17
  case y4_17 => intro w hSw; (try dsimp only at hSw); go_simp; try with_reducible rfl
  try simp only [Act.put, List.setIfInBounds_toArray, List.set_cons_zero, List.set_cons_succ]
  refine wpAnyH_take (i := 5) (oi := { dst := some 57, op := Op.binOp BinOp.sub 3 (Operand.tmp 55) (Operand.tmp 56) 3, type := 3, pos := "ref.go:75", after := #[{ on := 3, ground := Ground.data }, { on := 4, ground := Ground.data }], guard := none }) (v := ?v5_18) rfl (by kernel_rfl) (by kernel_rfl) (by kernel_rfl) (fun _ _ _ h => h) (Or.inl ⟨by rfl, ?y5_18⟩) (by assumption) ?r5_18
  case y5_18 => intro w hSw; (try dsimp only at hSw); go_simp; try with_reducible rfl
  try simp only [Act.put, List.setIfInBounds_toArray, List.set_cons_zero, List.set_cons_succ]
  refine wpAnyH_take (i := 7) (oi := { dst := some 59, op := Op.move (Operand.tmp 3), type := 29, pos := "ref.go:75", after := #[], guard := none }) (v := ?v7_19) rfl (by kernel_rfl) (by kernel_rfl) (by kernel_rfl) (fun _ _ _ h => h) (Or.inl ⟨by rfl, ?y7_19⟩) (by assumption) ?r7_19
  case y7_19 => intro w hSw; (try dsimp only at hSw); go_simp; try with_reducible rfl
  try simp only [Act.put, List.setIfInBounds_toArray, List.set_cons_zero, List.set_cons_succ]
  refine wpAnyH_take (i := 8) (oi := { dst := some 60, op := Op.move (Operand.tmp 11), type := 3, pos := "ref.go:75", after := #[], guard := none }) (v := ?v8_20) rfl (by kernel_rfl) (by kernel_rfl) (by kernel_rfl) (fun _ _ _ h => h) (Or.inl ⟨by rfl, ?y8_20⟩) (by assumption) ?r8_20
  case y8_20 => intro w hSw; (try dsimp only at hSw); go_simp; try with_reducible rfl
  try simp only [Act.put, List.setIfInBounds_toArray, List.set_cons_zero, List.set_cons_succ]
  refine wpAnyH_take (i := 9) (oi := { dst := some 61, op := Op.slice 29 (Operand.tmp 59) none (some (Operand.tmp 60)) none, type := 29, pos := "ref.go:75", after := #[{ on := 7, ground := Ground.data }, { on := 8, ground := Ground.data }], guard := none }) (v := ?v9_21) rfl (by kernel_rfl) (by kernel_rfl) (by kernel_rfl) (fun _ _ _ h => h) (Or.inl ⟨by rfl, ?y9_21⟩) (by assumption) ?r9_21
  case y9_21 => intro w hSw; (try dsimp only at hSw); go_simp; try with_reducible rfl
  try simp only [Act.put, List.setIfInBounds_toArray, List.set_cons_zero, List.set_cons_succ]
  refine wpAnyH_take (i := 6) (oi := { dst := some 58, op := Op.load 24 (Operand.tmp 6), type := 24, pos := "ref.go:75", after := #[], guard := none }) (v := _) rfl (by kernel_rfl) (by kernel_rfl) (by kernel_rfl) (fun _ _ _ h => h) (yieldsIf_load_mid (by rfl) _ _ rfl _ _ rfl _ _ (by intro w hSw; (try dsimp only at hSw); go_split_ands; assumption) (by assumption) rfl (by first | assumption | (simp only [*]; done))) (by assumption) ?_
  try simp only [Act.put, List.setIfInBounds_toArray, List.set_cons_zero, List.set_cons_succ]
  refine wpAnyH_ready (rs := [10, 14]) (by kernel_rfl) (by simp) (AllReadyH.cons (o := { dst := some 62, op := Op.call { callee := Callee.value (Operand.func 56), args := #[Operand.tmp 54, Operand.tmp 57, Operand.tmp 58, Operand.tmp 61], argTypes := #[3, 3, 24, 29] }, type := 41, pos := "ref.go:75", after := #[{ on := 2, ground := Ground.data }, { on := 5, ground := Ground.data }, { on := 6, ground := Ground.data }, { on := 9, ground := Ground.data }], guard := none }) rfl (fun K hK => ?_) (AllReadyH.cons (o := { dst := some 14, op := Op.alloc 24, type := 0, pos := "ref.go:75", after := #[], guard := none }) rfl (fun K hK => ?_) AllReadyH.nil))
  ·
    go_simp
    refine (HUP.out _ (by rw [hA]; exact hHeld.1.bel)).mono ?_; rintro e w2 ⟨x, rfl, hx32, hxc, hb⟩; have hAG0 : A + 1 < w2.heap.size := Nat.lt_of_lt_of_le (by have := hHeld.2.2 0 (by omega); obtain ⟨u, hu⟩ := Option.isSome_iff_exists.1 this.1; exact World.block_lt_of_cell? _ _ hu) hb.size; have ix := info32 x hx32; have fx := enc8_one x; have lx : (enc8 x).length = 32 := (by rw [enc8_len, hx32])
    go_wp2_with fail
    refine hK.out _ _ ?_ (fun hHeld => ?_)
    · (try dsimp only); (go_split_ands; (repeat' apply And.intro) <;> first | assumption | exact Mine.call (by assumption) (by assumption) | exact Mine.alloc (by assumption) _ | exact Mine.setCells (by assumption) _ _ _ (by omega) | exact Mine.callN (by assumption) (by assumption) (by omega) | exact Row.belowN (by assumption) (by assumption) (by omega) | exact there_belowN (by assumption) (by assumption) (by omega) | exact rangeAt_below (by assumption) (by assumption) | exact World.rangeAt_alloc (by assumption) _ | exact World.rangeAt_setCells_apart (by assumption) _ _ _ (Or.inl (by omega)) | exact there_below (by assumption) (by assumption) | exact World.there_alloc (by assumption) _ | exact World.there_setCells (by assumption) _ _ _ | exact Row.belowS (by assumption) (by assumption) | exact Row.alloc (by assumption) _ | exact Row.setCells (by assumption) _ _ (by omega) | exact HS.below (by assumption) (by assumption) | exact HS.alloc (by assumption) _)
    clear hK K
    try simp only [Act.put, List.setIfInBounds_toArray, List.set_cons_zero, List.set_cons_succ]
    refine wpAnyH_take (i := 11) (oi := { dst := some 51, op := Op.move (Operand.tmp 62), type := 41, pos := "ref.go:75", after := #[{ on := 10, ground := Ground.data }], guard := none }) (v := ?v11_22) rfl (by kernel_rfl) (by kernel_rfl) (by kernel_rfl) (fun _ _ _ h => h) (Or.inl ⟨by rfl, ?y11_22⟩) (by assumption) ?r11_22
    case y11_22 => intro w hSw; (try dsimp only at hSw); go_simp; try with_reducible rfl
    try simp only [Act.put, List.setIfInBounds_toArray, List.set_cons_zero, List.set_cons_succ]
    refine wpAnyH_take (i := 12) (oi := { dst := some 63, op := Op.extract (Operand.tmp 51) 0, type := 24, pos := "ref.go:75", after := #[{ on := 11, ground := Ground.data }], guard := none }) (v := ?v12_23) rfl (by kernel_rfl) (by kernel_rfl) (by kernel_rfl) (fun _ _ _ h => h) (Or.inl ⟨by rfl, ?y12_23⟩) (by assumption) ?r12_23
    case y12_23 => intro w hSw; (try dsimp only at hSw); go_simp; try with_reducible rfl
    try simp only [Act.put, List.setIfInBounds_toArray, List.set_cons_zero, List.set_cons_succ]
    refine wpAnyH_take (i := 13) (oi := { dst := some 64, op := Op.extract (Operand.tmp 51) 1, type := 4, pos := "ref.go:75", after := #[{ on := 11, ground := Ground.data }, { on := 15, ground := Ground.gcOnly Departure.lateStores }], guard := none }) (v := ?v13_24) rfl (by kernel_rfl) (by kernel_rfl) (by kernel_rfl) (fun _ _ _ h => h) (Or.inl ⟨by rfl, ?y13_24⟩) (by assumption) ?r13_24
    case y13_24 => intro w hSw; (try dsimp only at hSw); go_simp; try with_reducible rfl
    try simp only [Act.put, List.setIfInBounds_toArray, List.set_cons_zero, List.set_cons_succ]
    refine wpAnyH_ready (rs := [14]) (by kernel_rfl) (by simp) (AllReadyH.cons (o := { dst := some 14, op := Op.alloc 24, type := 0, pos := "ref.go:75", after := #[], guard := none }) rfl (fun K hK => ?_) AllReadyH.nil)
    go_simp
    refine hK.out _ _ ?_ (fun hHeld => ?_)
    · (try dsimp only); (go_split_ands; (repeat' apply And.intro) <;> first | assumption | exact Mine.call (by assumption) (by assumption) | exact Mine.alloc (by assumption) _ | exact Mine.setCells (by assumption) _ _ _ (by omega) | exact Mine.callN (by assumption) (by assumption) (by omega) | exact Row.belowN (by assumption) (by assumption) (by omega) | exact there_belowN (by assumption) (by assumption) (by omega) | exact rangeAt_below (by assumption) (by assumption) | exact World.rangeAt_alloc (by assumption) _ | exact World.rangeAt_setCells_apart (by assumption) _ _ _ (Or.inl (by omega)) | exact there_below (by assumption) (by assumption) | exact World.there_alloc (by assumption) _ | exact World.there_setCells (by assumption) _ _ _ | exact Row.belowS (by assumption) (by assumption) | exact Row.alloc (by assumption) _ | exact Row.setCells (by assumption) _ _ (by omega) | exact HS.below (by assumption) (by assumption) | exact HS.alloc (by assumption) _)
    clear hK K
    try simp only [Act.put, List.setIfInBounds_toArray, List.set_cons_zero, List.set_cons_succ]
    have hth := new_there w2; obtain ⟨wx, hwx⟩ : ∃ wx, w2.alloc (.cells #[.int .u8 0, .int .u8 0, .int .u8 0, .int .u8 0, .int .u8 0, .int .u8 0, .int .u8 0, .int .u8 0, .int .u8 0, .int .u8 0, .int .u8 0, .int .u8 0, .int .u8 0, .int .u8 0, .int .u8 0, .int .u8 0, .int .u8 0, .int .u8 0, .int .u8 0, .int .u8 0, .int .u8 0, .int .u8 0, .int .u8 0, .int .u8 0, .int .u8 0, .int .u8 0, .int .u8 0, .int .u8 0, .int .u8 0, .int .u8 0, .int .u8 0, .int .u8 0] 24) = wx := ⟨_, rfl⟩; obtain ⟨G, hG⟩ : ∃ G, w2.heap.size = G := ⟨_, rfl⟩; rw [hG] at hth hAG0 ⊢; rw [hwx] at hth hHeld ⊢; have hAG := hAG0
    have hPre := hHeld
    refine wpAnyH_ready (rs := [15]) (by kernel_rfl) (by simp) (AllReadyH.cons (o := { dst := none, op := Op.store 24 (Operand.tmp 14) (Operand.tmp 63), type := 0, pos := "ref.go:75", after := #[{ on := 14, ground := Ground.data }, { on := 12, ground := Ground.data }, { on := 10, ground := Ground.chain }, { on := 0, ground := Ground.phase }, { on := 1, ground := Ground.phase }, { on := 2, ground := Ground.phase }, { on := 3, ground := Ground.phase }, { on := 4, ground := Ground.phase }, { on := 5, ground := Ground.phase }, { on := 6, ground := Ground.phase }, { on := 7, ground := Ground.phase }, { on := 8, ground := Ground.phase }, { on := 9, ground := Ground.phase }, { on := 10, ground := Ground.phase }, { on := 11, ground := Ground.phase }, { on := 12, ground := Ground.phase }, { on := 13, ground := Ground.textOnly Departure.lateStores }, { on := 14, ground := Ground.phase }], guard := none }) rfl (fun K hK => ?_) AllReadyH.nil)
    rw [if_pos (by rfl)]
    refine wp_store_mid _ _ _ rfl _ _ (List.toArray _) rfl rfl (by go_split_ands; first | assumption | (simp only [List.size_toArray, *] <;> assumption)) (by first | assumption | (simp only [List.size_toArray] <;> assumption) | (simp only [List.size_toArray, *]; done)) (all_oneCell_toArray (by assumption)) ?_
    simp only [Act.put, List.setIfInBounds_toArray, List.set_cons_zero, List.set_cons_succ, List.toList_toArray]
    refine hK.out _ _ ?_ (fun hHeld => ?_)
    · (try dsimp only); (go_split_ands; (repeat' apply And.intro) <;> first | assumption | exact Mine.call (by assumption) (by assumption) | exact Mine.alloc (by assumption) _ | exact Mine.setCells (by assumption) _ _ _ (by omega) | exact Mine.callN (by assumption) (by assumption) (by omega) | exact Row.belowN (by assumption) (by assumption) (by omega) | exact there_belowN (by assumption) (by assumption) (by omega) | exact rangeAt_below (by assumption) (by assumption) | exact World.rangeAt_alloc (by assumption) _ | exact World.rangeAt_setCells_apart (by assumption) _ _ _ (Or.inl (by omega)) | exact there_below (by assumption) (by assumption) | exact World.there_alloc (by assumption) _ | exact World.there_setCells (by assumption) _ _ _ | exact Row.belowS (by assumption) (by assumption) | exact Row.alloc (by assumption) _ | exact Row.setCells (by assumption) _ _ (by omega) | exact HS.below (by assumption) (by assumption) | exact HS.alloc (by assumption) _)
    clear hK K
    refine wpAnyH_take (i := 16) (oi := { dst := some 15, op := Op.assign (Operand.tmp 64), type := 4, pos := "ref.go:75", after := #[{ on := 13, ground := Ground.data }, { on := 15, ground := Ground.chain }, { on := 0, ground := Ground.phase }, { on := 1, ground := Ground.phase }, { on := 2, ground := Ground.phase }, { on := 3, ground := Ground.phase }, { on := 4, ground := Ground.phase }, { on := 5, ground := Ground.phase }, { on := 6, ground := Ground.phase }, { on := 7, ground := Ground.phase }, { on := 8, ground := Ground.phase }, { on := 9, ground := Ground.phase }, { on := 10, ground := Ground.phase }, { on := 11, ground := Ground.phase }, { on := 12, ground := Ground.phase }, { on := 13, ground := Ground.phase }, { on := 14, ground := Ground.phase }, { on := 15, ground := Ground.phase }], guard := none }) (v := ?v16_25) rfl (by kernel_rfl) (by kernel_rfl) (by kernel_rfl) (fun _ _ _ h => h) (Or.inl ⟨by rfl, ?y16_25⟩) (by assumption) ?r16_25
    case y16_25 => intro w hSw; (try dsimp only at hSw); go_simp; try with_reducible rfl
    try simp only [Act.put, List.setIfInBounds_toArray, List.set_cons_zero, List.set_cons_succ]
    refine wpAnyH_done (by kernel_rfl) ?_ _
    refine NoPanic.normal ?_
    have hrx := World.rangeAt_setCells_same wx G 0 (enc8 x) (by rw [lx]; exact hth)
    have hmx := hHeld.1
    have htx := hHeld.2.2
    obtain ⟨w3, hw3⟩ : ∃ w3, wx.setCells G 0 (enc8 x) = w3 := ⟨_, rfl⟩
    rw [hw3] at hrx hmx htx ⊢
    have hrp : w3.rangeAt g (o + m * 32) ap := rangeAt_below RP.out (by rw [hA]; exact hmx.bel)
    have hnode := fun w' => qnode_any p x HP32.out hx32 w'
    rw [HAP.out] at hnode
    have hcl := Htrue.out x hxc
    obtain ⟨nd, hnd⟩ : ∃ nd, nodeL p x = nd := ⟨_, rfl⟩
    have hnd32 : nd.length = 32 := by rw [← hnd]; exact nodeL_length _ _
    rw [hnd] at hcl
    simp only [hnd] at hnode
    have hin := info32 nd hnd32
    have hf1 := enc8_one nd
    obtain ⟨ax, hax⟩ : ∃ ax, enc8 x = ax := ⟨_, rfl⟩
    obtain ⟨an, han⟩ : ∃ an, enc8 nd = an := ⟨_, rfl⟩
    have hln : an.length = 32 := by rw [← han, enc8_len, hnd32]
    rw [hax] at hrx ix hw3 ⊢
    simp only [hax, han] at hnode
    rw [han] at hin hf1
    have HN := Lib.hid hnode
    have HCL := Lib.hid hcl
    have HX := Lib.hid hin
    have HF := Lib.hid hf1
    have HLN := Lib.hid hln
    have HND := Lib.hid hnd32
    have HAN := Lib.hid han
    clear hHeld hPre hb hxc hx32 fx lx hth hnode hcl hnd hin hf1 hln hnd32 hw3 hax HUP Htrue i0 R0 R1 HW HMW hwx
    clear hG
    go_wp2_with fail
    have ip := IP.out
    refine wp_region_noPanic ?_
    refine wp_region_held_drew (S := (fun w' => Mine A w w' ∧ w'.rangeAt G 0 ax ∧ w'.rangeAt g (o + m * 32) ap ∧ w'.there (A + 1) 0 32)) (by kernel_rfl) ?_ (fun hHeld => ?_)
    · exact ⟨⟨hmx.le, hmx.bel.drew⟩, (World.rangeAt_drew _ _ _ _).2 hrx, (World.rangeAt_drew _ _ _ _).2 hrp, (World.there_drew _ _ _ _).2 htx⟩
    refine wpAnyH_take (i := 0) (oi := { dst := some 65, op := Op.move (Operand.tmp 3), type := 29, pos := "ref.go:76", after := #[], guard := none }) (v := ?v0_40) rfl (by kernel_rfl) (by kernel_rfl) (by kernel_rfl) (fun _ _ _ h => h) (Or.inl ⟨by rfl, ?y0_40⟩) (by assumption) ?r0_40
    case y0_40 => intro w hSw; (try dsimp only at hSw); go_simp; try with_reducible rfl
    try simp only [Act.put, List.setIfInBounds_toArray, List.set_cons_zero, List.set_cons_succ]
    refine wpAnyH_take (i := 1) (oi := { dst := some 66, op := Op.move (Operand.tmp 11), type := 3, pos := "ref.go:76", after := #[], guard := none }) (v := ?v1_41) rfl (by kernel_rfl) (by kernel_rfl) (by kernel_rfl) (fun _ _ _ h => h) (Or.inl ⟨by rfl, ?y1_41⟩) (by assumption) ?r1_41
    case y1_41 => intro w hSw; (try dsimp only at hSw); go_simp; try with_reducible rfl
    try simp only [Act.put, List.setIfInBounds_toArray, List.set_cons_zero, List.set_cons_succ]
    refine wpAnyH_take (i := 2) (oi := { dst := some 67, op := Op.indexAddr 29 (Operand.tmp 65) (Operand.tmp 66), type := 0, pos := "ref.go:76", after := #[{ on := 0, ground := Ground.data }, { on := 1, ground := Ground.data }], guard := none }) (v := ?v2_42) rfl (by kernel_rfl) (by kernel_rfl) (by kernel_rfl) (fun _ _ _ h => h) (Or.inl ⟨by rfl, ?y2_42⟩) (by assumption) ?r2_42
    case y2_42 => intro w hSw; (try dsimp only at hSw); go_simp; try with_reducible rfl
    try simp only [Act.put, List.setIfInBounds_toArray, List.set_cons_zero, List.set_cons_succ]
    refine wpAnyH_take (i := 6) (oi := { dst := some 71, op := Op.move (Operand.tmp 15), type := 4, pos := "ref.go:76", after := #[{ on := 7, ground := Ground.gcOnly Departure.lateStores }], guard := none }) (v := ?v6_43) rfl (by kernel_rfl) (by kernel_rfl) (by kernel_rfl) (fun _ _ _ h => h) (Or.inl ⟨by rfl, ?y6_43⟩) (by assumption) ?r6_43
    case y6_43 => intro w hSw; (try dsimp only at hSw); go_simp; try with_reducible rfl
    try simp only [Act.put, List.setIfInBounds_toArray, List.set_cons_zero, List.set_cons_succ]
    refine wpAnyH_take (i := 3) (oi := { dst := some 68, op := Op.load 24 (Operand.tmp 67), type := 24, pos := "ref.go:76", after := #[{ on := 2, ground := Ground.data }], guard := none }) (v := _) rfl (by kernel_rfl) (by kernel_rfl) (by kernel_rfl) (fun _ _ _ h => h) (yieldsIf_load_mid (by rfl) _ _ rfl _ _ rfl _ _ (by intro w hSw; (try dsimp only at hSw); go_split_ands; assumption) (by assumption) rfl (by first | assumption | (simp only [*]; done))) (by assumption) ?_
    try simp only [Act.put, List.setIfInBounds_toArray, List.set_cons_zero, List.set_cons_succ]
    refine wpAnyH_take (i := 4) (oi := { dst := some 69, op := Op.load 24 (Operand.tmp 14), type := 24, pos := "ref.go:76", after := #[], guard := none }) (v := _) rfl (by kernel_rfl) (by kernel_rfl) (by kernel_rfl) (fun _ _ _ h => h) (yieldsIf_load_mid (by rfl) _ _ rfl _ _ rfl _ _ (by intro w hSw; (try dsimp only at hSw); go_split_ands; assumption) (by assumption) rfl (by first | assumption | (simp only [*]; done))) (by assumption) ?_
    try simp only [Act.put, List.setIfInBounds_toArray, List.set_cons_zero, List.set_cons_succ]
    refine wpAnyH_ready (rs := [5]) (by kernel_rfl) (by simp) (AllReadyH.cons (o := { dst := some 70, op := Op.call { callee := Callee.value (Operand.func 25), args := #[Operand.tmp 68, Operand.tmp 69], argTypes := #[24, 24] }, type := 24, pos := "ref.go:76", after := #[{ on := 3, ground := Ground.data }, { on := 4, ground := Ground.data }], guard := none }) rfl (fun K hK => ?_) AllReadyH.nil)
    go_simp
    refine (HN.out _).mono ?_; rintro e w4 ⟨rfl, hb4⟩; have hi := HX.out; have hh1 := HF.out; have hol := HLN.out
    go_wp2_with fail
    refine hK.out _ _ ?_ (fun hHeld => ?_)
    · (try dsimp only); (go_split_ands; (repeat' apply And.intro) <;> first | assumption | exact Mine.call (by assumption) (by assumption) | exact Mine.alloc (by assumption) _ | exact Mine.setCells (by assumption) _ _ _ (by omega) | exact Mine.callN (by assumption) (by assumption) (by omega) | exact Row.belowN (by assumption) (by assumption) (by omega) | exact there_belowN (by assumption) (by assumption) (by omega) | exact rangeAt_below (by assumption) (by assumption) | exact World.rangeAt_alloc (by assumption) _ | exact World.rangeAt_setCells_apart (by assumption) _ _ _ (Or.inl (by omega)) | exact there_below (by assumption) (by assumption) | exact World.there_alloc (by assumption) _ | exact World.there_setCells (by assumption) _ _ _ | exact Row.belowS (by assumption) (by assumption) | exact Row.alloc (by assumption) _ | exact Row.setCells (by assumption) _ _ (by omega) | exact HS.below (by assumption) (by assumption) | exact HS.alloc (by assumption) _)
    clear hK K
    try simp only [Act.put, List.setIfInBounds_toArray, List.set_cons_zero, List.set_cons_succ]
    have hPre := hHeld
    refine wpAnyH_ready (rs := [7]) (by kernel_rfl) (by simp) (AllReadyH.cons (o := { dst := none, op := Op.store 24 (Operand.tmp 8) (Operand.tmp 70), type := 0, pos := "ref.go:76", after := #[{ on := 5, ground := Ground.data }, { on := 5, ground := Ground.chain }, { on := 0, ground := Ground.phase }, { on := 1, ground := Ground.phase }, { on := 2, ground := Ground.phase }, { on := 3, ground := Ground.phase }, { on := 4, ground := Ground.phase }, { on := 5, ground := Ground.phase }, { on := 6, ground := Ground.textOnly Departure.lateStores }], guard := none }) rfl (fun K hK => ?_) AllReadyH.nil)
    rw [if_pos (by rfl)]
    refine wp_store_mid _ _ _ rfl _ _ (List.toArray _) rfl rfl (by go_split_ands; first | assumption | (simp only [List.size_toArray, *] <;> assumption)) (by first | assumption | (simp only [List.size_toArray] <;> assumption) | (simp only [List.size_toArray, *]; done)) (all_oneCell_toArray (by assumption)) ?_
    simp only [Act.put, List.setIfInBounds_toArray, List.set_cons_zero, List.set_cons_succ, List.toList_toArray]
    refine hK.out _ _ ?_ (fun hHeld => ?_)
    · (try dsimp only); (go_split_ands; (repeat' apply And.intro) <;> first | assumption | exact Mine.call (by assumption) (by assumption) | exact Mine.alloc (by assumption) _ | exact Mine.setCells (by assumption) _ _ _ (by omega) | exact Mine.callN (by assumption) (by assumption) (by omega) | exact Row.belowN (by assumption) (by assumption) (by omega) | exact there_belowN (by assumption) (by assumption) (by omega) | exact rangeAt_below (by assumption) (by assumption) | exact World.rangeAt_alloc (by assumption) _ | exact World.rangeAt_setCells_apart (by assumption) _ _ _ (Or.inl (by omega)) | exact there_below (by assumption) (by assumption) | exact World.there_alloc (by assumption) _ | exact World.there_setCells (by assumption) _ _ _ | exact Row.belowS (by assumption) (by assumption) | exact Row.alloc (by assumption) _ | exact Row.setCells (by assumption) _ _ (by omega) | exact HS.below (by assumption) (by assumption) | exact HS.alloc (by assumption) _)
    clear hK K
    refine wpAnyH_take (i := 8) (oi := { dst := some 9, op := Op.assign (Operand.tmp 71), type := 4, pos := "ref.go:76", after := #[{ on := 6, ground := Ground.data }, { on := 7, ground := Ground.chain }, { on := 0, ground := Ground.phase }, { on := 1, ground := Ground.phase }, { on := 2, ground := Ground.phase }, { on := 3, ground := Ground.phase }, { on := 4, ground := Ground.phase }, { on := 5, ground := Ground.phase }, { on := 6, ground := Ground.phase }, { on := 7, ground := Ground.phase }], guard := none }) (v := ?v8_44) rfl (by kernel_rfl) (by kernel_rfl) (by kernel_rfl) (fun _ _ _ h => h) (Or.inl ⟨by rfl, ?y8_44⟩) (by assumption) ?r8_44
    case y8_44 => intro w hSw; (try dsimp only at hSw); go_simp; try with_reducible rfl
    try simp only [Act.put, List.setIfInBounds_toArray, List.set_cons_zero, List.set_cons_succ]
    refine wpAnyH_done (by kernel_rfl) ?_ _
    refine NoPanic.normal ?_
    have hr := Lib.hid (World.rangeAt_setCells_same w4 (A + 1) 0 an (by rw [HLN.out]; exact hPre.2.2.2))
    have hfin := Lib.hid hHeld.1.bel
    clear hHeld hPre hi hh1 hol hb4 hrx hmx htx hrp ix ip hu
    go_wp2
    refine bodyPost_ret (v := .tuple #[.agg an.toArray, .bool bb]) (range_result2 hr.out Try.results56 _ _ _ rfl rfl Try.underlying24 HX.out) rfl ?_
    exact ⟨nd, by rw [HAN.out], HND.out, HCL.out, by rw [hA]; exact hfin.out⟩
  ·
    go_simp
    refine hK.out _ _ ?_ (fun hHeld => ?_)
    · (try dsimp only); (go_split_ands; (repeat' apply And.intro) <;> first | assumption | exact Mine.call (by assumption) (by assumption) | exact Mine.alloc (by assumption) _ | exact Mine.setCells (by assumption) _ _ _ (by omega) | exact Mine.callN (by assumption) (by assumption) (by omega) | exact Row.belowN (by assumption) (by assumption) (by omega) | exact there_belowN (by assumption) (by assumption) (by omega) | exact rangeAt_below (by assumption) (by assumption) | exact World.rangeAt_alloc (by assumption) _ | exact World.rangeAt_setCells_apart (by assumption) _ _ _ (Or.inl (by omega)) | exact there_below (by assumption) (by assumption) | exact World.there_alloc (by assumption) _ | exact World.there_setCells (by assumption) _ _ _ | exact Row.belowS (by assumption) (by assumption) | exact Row.alloc (by assumption) _ | exact Row.setCells (by assumption) _ _ (by omega) | exact HS.below (by assumption) (by assumption) | exact HS.alloc (by assumption) _)
    clear hK K
    try simp only [Act.put, List.setIfInBounds_toArray, List.set_cons_zero, List.set_cons_succ]
    refine wpAnyH_ready (rs := [10]) (by kernel_rfl) (by simp) (AllReadyH.cons (o := { dst := some 62, op := Op.call { callee := Callee.value (Operand.func 56), args := #[Operand.tmp 54, Operand.tmp 57, Operand.tmp 58, Operand.tmp 61], argTypes := #[3, 3, 24, 29] }, type := 41, pos := "ref.go:75", after := #[{ on := 2, ground := Ground.data }, { on := 5, ground := Ground.data }, { on := 6, ground := Ground.data }, { on := 9, ground := Ground.data }], guard := none }) rfl (fun K hK => ?_) AllReadyH.nil)
    go_simp
    refine (HUP.out _ (by rw [hA]; exact hHeld.1.bel)).mono ?_; rintro e w2 ⟨x, rfl, hx32, hxc, hb⟩; have hthb := there_below ((World.there_drew _ _ _ _).2 (new_there w1)) hb; rw [hsz] at hthb; have ix := info32 x hx32; have fx := enc8_one x; have lx : (enc8 x).length = 32 := (by rw [enc8_len, hx32])
    go_wp2_with fail
    refine hK.out _ _ ?_ (fun hHeld => ?_)
    · (try dsimp only); (go_split_ands; (repeat' apply And.intro) <;> first | assumption | exact Mine.call (by assumption) (by assumption) | exact Mine.alloc (by assumption) _ | exact Mine.setCells (by assumption) _ _ _ (by omega) | exact Mine.callN (by assumption) (by assumption) (by omega) | exact Row.belowN (by assumption) (by assumption) (by omega) | exact there_belowN (by assumption) (by assumption) (by omega) | exact rangeAt_below (by assumption) (by assumption) | exact World.rangeAt_alloc (by assumption) _ | exact World.rangeAt_setCells_apart (by assumption) _ _ _ (Or.inl (by omega)) | exact there_below (by assumption) (by assumption) | exact World.there_alloc (by assumption) _ | exact World.there_setCells (by assumption) _ _ _ | exact Row.belowS (by assumption) (by assumption) | exact Row.alloc (by assumption) _ | exact Row.setCells (by assumption) _ _ (by omega) | exact HS.below (by assumption) (by assumption) | exact HS.alloc (by assumption) _)
    clear hK K
    try simp only [Act.put, List.setIfInBounds_toArray, List.set_cons_zero, List.set_cons_succ]
    refine wpAnyH_take (i := 11) (oi := { dst := some 51, op := Op.move (Operand.tmp 62), type := 41, pos := "ref.go:75", after := #[{ on := 10, ground := Ground.data }], guard := none }) (v := ?v11_26) rfl (by kernel_rfl) (by kernel_rfl) (by kernel_rfl) (fun _ _ _ h => h) (Or.inl ⟨by rfl, ?y11_26⟩) (by assumption) ?r11_26
    case y11_26 => intro w hSw; (try dsimp only at hSw); go_simp; try with_reducible rfl
    try simp only [Act.put, List.setIfInBounds_toArray, List.set_cons_zero, List.set_cons_succ]
    refine wpAnyH_take (i := 12) (oi := { dst := some 63, op := Op.extract (Operand.tmp 51) 0, type := 24, pos := "ref.go:75", after := #[{ on := 11, ground := Ground.data }], guard := none }) (v := ?v12_27) rfl (by kernel_rfl) (by kernel_rfl) (by kernel_rfl) (fun _ _ _ h => h) (Or.inl ⟨by rfl, ?y12_27⟩) (by assumption) ?r12_27
    case y12_27 => intro w hSw; (try dsimp only at hSw); go_simp; try with_reducible rfl
    try simp only [Act.put, List.setIfInBounds_toArray, List.set_cons_zero, List.set_cons_succ]
    refine wpAnyH_take (i := 13) (oi := { dst := some 64, op := Op.extract (Operand.tmp 51) 1, type := 4, pos := "ref.go:75", after := #[{ on := 11, ground := Ground.data }, { on := 15, ground := Ground.gcOnly Departure.lateStores }], guard := none }) (v := ?v13_28) rfl (by kernel_rfl) (by kernel_rfl) (by kernel_rfl) (fun _ _ _ h => h) (Or.inl ⟨by rfl, ?y13_28⟩) (by assumption) ?r13_28
    case y13_28 => intro w hSw; (try dsimp only at hSw); go_simp; try with_reducible rfl
    try simp only [Act.put, List.setIfInBounds_toArray, List.set_cons_zero, List.set_cons_succ]
    obtain ⟨wx, hwx⟩ : ∃ wx, w2 = wx := ⟨_, rfl⟩; obtain ⟨G, hG⟩ : ∃ G, A + 2 = G := ⟨_, rfl⟩; have hth : wx.there G 0 32 := (by rw [← hwx, ← hG]; exact hthb); rw [hG]; rw [hwx] at hHeld ⊢; have hAG : A + 1 < G := (by omega)
    have hPre := hHeld
    refine wpAnyH_ready (rs := [15]) (by kernel_rfl) (by simp) (AllReadyH.cons (o := { dst := none, op := Op.store 24 (Operand.tmp 14) (Operand.tmp 63), type := 0, pos := "ref.go:75", after := #[{ on := 14, ground := Ground.data }, { on := 12, ground := Ground.data }, { on := 10, ground := Ground.chain }, { on := 0, ground := Ground.phase }, { on := 1, ground := Ground.phase }, { on := 2, ground := Ground.phase }, { on := 3, ground := Ground.phase }, { on := 4, ground := Ground.phase }, { on := 5, ground := Ground.phase }, { on := 6, ground := Ground.phase }, { on := 7, ground := Ground.phase }, { on := 8, ground := Ground.phase }, { on := 9, ground := Ground.phase }, { on := 10, ground := Ground.phase }, { on := 11, ground := Ground.phase }, { on := 12, ground := Ground.phase }, { on := 13, ground := Ground.textOnly Departure.lateStores }, { on := 14, ground := Ground.phase }], guard := none }) rfl (fun K hK => ?_) AllReadyH.nil)
    rw [if_pos (by rfl)]
    refine wp_store_mid _ _ _ rfl _ _ (List.toArray _) rfl rfl (by go_split_ands; first | assumption | (simp only [List.size_toArray, *] <;> assumption)) (by first | assumption | (simp only [List.size_toArray] <;> assumption) | (simp only [List.size_toArray, *]; done)) (all_oneCell_toArray (by assumption)) ?_
    simp only [Act.put, List.setIfInBounds_toArray, List.set_cons_zero, List.set_cons_succ, List.toList_toArray]
    refine hK.out _ _ ?_ (fun hHeld => ?_)
    · (try dsimp only); (go_split_ands; (repeat' apply And.intro) <;> first | assumption | exact Mine.call (by assumption) (by assumption) | exact Mine.alloc (by assumption) _ | exact Mine.setCells (by assumption) _ _ _ (by omega) | exact Mine.callN (by assumption) (by assumption) (by omega) | exact Row.belowN (by assumption) (by assumption) (by omega) | exact there_belowN (by assumption) (by assumption) (by omega) | exact rangeAt_below (by assumption) (by assumption) | exact World.rangeAt_alloc (by assumption) _ | exact World.rangeAt_setCells_apart (by assumption) _ _ _ (Or.inl (by omega)) | exact there_below (by assumption) (by assumption) | exact World.there_alloc (by assumption) _ | exact World.there_setCells (by assumption) _ _ _ | exact Row.belowS (by assumption) (by assumption) | exact Row.alloc (by assumption) _ | exact Row.setCells (by assumption) _ _ (by omega) | exact HS.below (by assumption) (by assumption) | exact HS.alloc (by assumption) _)
    clear hK K
    refine wpAnyH_take (i := 16) (oi := { dst := some 15, op := Op.assign (Operand.tmp 64), type := 4, pos := "ref.go:75", after := #[{ on := 13, ground := Ground.data }, { on := 15, ground := Ground.chain }, { on := 0, ground := Ground.phase }, { on := 1, ground := Ground.phase }, { on := 2, ground := Ground.phase }, { on := 3, ground := Ground.phase }, { on := 4, ground := Ground.phase }, { on := 5, ground := Ground.phase }, { on := 6, ground := Ground.phase }, { on := 7, ground := Ground.phase }, { on := 8, ground := Ground.phase }, { on := 9, ground := Ground.phase }, { on := 10, ground := Ground.phase }, { on := 11, ground := Ground.phase }, { on := 12, ground := Ground.phase }, { on := 13, ground := Ground.phase }, { on := 14, ground := Ground.phase }, { on := 15, ground := Ground.phase }], guard := none }) (v := ?v16_29) rfl (by kernel_rfl) (by kernel_rfl) (by kernel_rfl) (fun _ _ _ h => h) (Or.inl ⟨by rfl, ?y16_29⟩) (by assumption) ?r16_29
    case y16_29 => intro w hSw; (try dsimp only at hSw); go_simp; try with_reducible rfl
    try simp only [Act.put, List.setIfInBounds_toArray, List.set_cons_zero, List.set_cons_succ]
    refine wpAnyH_done (by kernel_rfl) ?_ _
    refine NoPanic.normal ?_
    have hrx := World.rangeAt_setCells_same wx G 0 (enc8 x) (by rw [lx]; exact hth)
    have hmx := hHeld.1
    have htx := hHeld.2.2
    obtain ⟨w3, hw3⟩ : ∃ w3, wx.setCells G 0 (enc8 x) = w3 := ⟨_, rfl⟩
    rw [hw3] at hrx hmx htx ⊢
    have hrp : w3.rangeAt g (o + m * 32) ap := rangeAt_below RP.out (by rw [hA]; exact hmx.bel)
    have hnode := fun w' => qnode_any p x HP32.out hx32 w'
    rw [HAP.out] at hnode
    have hcl := Htrue.out x hxc
    obtain ⟨nd, hnd⟩ : ∃ nd, nodeL p x = nd := ⟨_, rfl⟩
    have hnd32 : nd.length = 32 := by rw [← hnd]; exact nodeL_length _ _
    rw [hnd] at hcl
    simp only [hnd] at hnode
    have hin := info32 nd hnd32
    have hf1 := enc8_one nd
    obtain ⟨ax, hax⟩ : ∃ ax, enc8 x = ax := ⟨_, rfl⟩
    obtain ⟨an, han⟩ : ∃ an, enc8 nd = an := ⟨_, rfl⟩
    have hln : an.length = 32 := by rw [← han, enc8_len, hnd32]
    rw [hax] at hrx ix hw3 ⊢
    simp only [hax, han] at hnode
    rw [han] at hin hf1
    have HN := Lib.hid hnode
    have HCL := Lib.hid hcl
    have HX := Lib.hid hin
    have HF := Lib.hid hf1
    have HLN := Lib.hid hln
    have HND := Lib.hid hnd32
    have HAN := Lib.hid han
    clear hHeld hPre hb hxc hx32 fx lx hth hnode hcl hnd hin hf1 hln hnd32 hw3 hax HUP Htrue i0 R0 R1 HW HMW hwx
    clear hG
    go_wp2_with fail
    have ip := IP.out
    refine wp_region_noPanic ?_
    refine wp_region_held_drew (S := (fun w' => Mine A w w' ∧ w'.rangeAt G 0 ax ∧ w'.rangeAt g (o + m * 32) ap ∧ w'.there (A + 1) 0 32)) (by kernel_rfl) ?_ (fun hHeld => ?_)
    · exact ⟨⟨hmx.le, hmx.bel.drew⟩, (World.rangeAt_drew _ _ _ _).2 hrx, (World.rangeAt_drew _ _ _ _).2 hrp, (World.there_drew _ _ _ _).2 htx⟩
    refine wpAnyH_take (i := 0) (oi := { dst := some 65, op := Op.move (Operand.tmp 3), type := 29, pos := "ref.go:76", after := #[], guard := none }) (v := ?v0_45) rfl (by kernel_rfl) (by kernel_rfl) (by kernel_rfl) (fun _ _ _ h => h) (Or.inl ⟨by rfl, ?y0_45⟩) (by assumption) ?r0_45
    case y0_45 => intro w hSw; (try dsimp only at hSw); go_simp; try with_reducible rfl
    try simp only [Act.put, List.setIfInBounds_toArray, List.set_cons_zero, List.set_cons_succ]
    refine wpAnyH_take (i := 1) (oi := { dst := some 66, op := Op.move (Operand.tmp 11), type := 3, pos := "ref.go:76", after := #[], guard := none }) (v := ?v1_46) rfl (by kernel_rfl) (by kernel_rfl) (by kernel_rfl) (fun _ _ _ h => h) (Or.inl ⟨by rfl, ?y1_46⟩) (by assumption) ?r1_46
    case y1_46 => intro w hSw; (try dsimp only at hSw); go_simp; try with_reducible rfl
    try simp only [Act.put, List.setIfInBounds_toArray, List.set_cons_zero, List.set_cons_succ]
    refine wpAnyH_take (i := 2) (oi := { dst := some 67, op := Op.indexAddr 29 (Operand.tmp 65) (Operand.tmp 66), type := 0, pos := "ref.go:76", after := #[{ on := 0, ground := Ground.data }, { on := 1, ground := Ground.data }], guard := none }) (v := ?v2_47) rfl (by kernel_rfl) (by kernel_rfl) (by kernel_rfl) (fun _ _ _ h => h) (Or.inl ⟨by rfl, ?y2_47⟩) (by assumption) ?r2_47
    case y2_47 => intro w hSw; (try dsimp only at hSw); go_simp; try with_reducible rfl
    try simp only [Act.put, List.setIfInBounds_toArray, List.set_cons_zero, List.set_cons_succ]
    refine wpAnyH_take (i := 6) (oi := { dst := some 71, op := Op.move (Operand.tmp 15), type := 4, pos := "ref.go:76", after := #[{ on := 7, ground := Ground.gcOnly Departure.lateStores }], guard := none }) (v := ?v6_48) rfl (by kernel_rfl) (by kernel_rfl) (by kernel_rfl) (fun _ _ _ h => h) (Or.inl ⟨by rfl, ?y6_48⟩) (by assumption) ?r6_48
    case y6_48 => intro w hSw; (try dsimp only at hSw); go_simp; try with_reducible rfl
    try simp only [Act.put, List.setIfInBounds_toArray, List.set_cons_zero, List.set_cons_succ]
    refine wpAnyH_take (i := 3) (oi := { dst := some 68, op := Op.load 24 (Operand.tmp 67), type := 24, pos := "ref.go:76", after := #[{ on := 2, ground := Ground.data }], guard := none }) (v := _) rfl (by kernel_rfl) (by kernel_rfl) (by kernel_rfl) (fun _ _ _ h => h) (yieldsIf_load_mid (by rfl) _ _ rfl _ _ rfl _ _ (by intro w hSw; (try dsimp only at hSw); go_split_ands; assumption) (by assumption) rfl (by first | assumption | (simp only [*]; done))) (by assumption) ?_
    try simp only [Act.put, List.setIfInBounds_toArray, List.set_cons_zero, List.set_cons_succ]
    refine wpAnyH_take (i := 4) (oi := { dst := some 69, op := Op.load 24 (Operand.tmp 14), type := 24, pos := "ref.go:76", after := #[], guard := none }) (v := _) rfl (by kernel_rfl) (by kernel_rfl) (by kernel_rfl) (fun _ _ _ h => h) (yieldsIf_load_mid (by rfl) _ _ rfl _ _ rfl _ _ (by intro w hSw; (try dsimp only at hSw); go_split_ands; assumption) (by assumption) rfl (by first | assumption | (simp only [*]; done))) (by assumption) ?_
    try simp only [Act.put, List.setIfInBounds_toArray, List.set_cons_zero, List.set_cons_succ]
    refine wpAnyH_ready (rs := [5]) (by kernel_rfl) (by simp) (AllReadyH.cons (o := { dst := some 70, op := Op.call { callee := Callee.value (Operand.func 25), args := #[Operand.tmp 68, Operand.tmp 69], argTypes := #[24, 24] }, type := 24, pos := "ref.go:76", after := #[{ on := 3, ground := Ground.data }, { on := 4, ground := Ground.data }], guard := none }) rfl (fun K hK => ?_) AllReadyH.nil)
    go_simp
    refine (HN.out _).mono ?_; rintro e w4 ⟨rfl, hb4⟩; have hi := HX.out; have hh1 := HF.out; have hol := HLN.out
    go_wp2_with fail
    refine hK.out _ _ ?_ (fun hHeld => ?_)
    · (try dsimp only); (go_split_ands; (repeat' apply And.intro) <;> first | assumption | exact Mine.call (by assumption) (by assumption) | exact Mine.alloc (by assumption) _ | exact Mine.setCells (by assumption) _ _ _ (by omega) | exact Mine.callN (by assumption) (by assumption) (by omega) | exact Row.belowN (by assumption) (by assumption) (by omega) | exact there_belowN (by assumption) (by assumption) (by omega) | exact rangeAt_below (by assumption) (by assumption) | exact World.rangeAt_alloc (by assumption) _ | exact World.rangeAt_setCells_apart (by assumption) _ _ _ (Or.inl (by omega)) | exact there_below (by assumption) (by assumption) | exact World.there_alloc (by assumption) _ | exact World.there_setCells (by assumption) _ _ _ | exact Row.belowS (by assumption) (by assumption) | exact Row.alloc (by assumption) _ | exact Row.setCells (by assumption) _ _ (by omega) | exact HS.below (by assumption) (by assumption) | exact HS.alloc (by assumption) _)
    clear hK K
    try simp only [Act.put, List.setIfInBounds_toArray, List.set_cons_zero, List.set_cons_succ]
    have hPre := hHeld
    refine wpAnyH_ready (rs := [7]) (by kernel_rfl) (by simp) (AllReadyH.cons (o := { dst := none, op := Op.store 24 (Operand.tmp 8) (Operand.tmp 70), type := 0, pos := "ref.go:76", after := #[{ on := 5, ground := Ground.data }, { on := 5, ground := Ground.chain }, { on := 0, ground := Ground.phase }, { on := 1, ground := Ground.phase }, { on := 2, ground := Ground.phase }, { on := 3, ground := Ground.phase }, { on := 4, ground := Ground.phase }, { on := 5, ground := Ground.phase }, { on := 6, ground := Ground.textOnly Departure.lateStores }], guard := none }) rfl (fun K hK => ?_) AllReadyH.nil)
    rw [if_pos (by rfl)]
    refine wp_store_mid _ _ _ rfl _ _ (List.toArray _) rfl rfl (by go_split_ands; first | assumption | (simp only [List.size_toArray, *] <;> assumption)) (by first | assumption | (simp only [List.size_toArray] <;> assumption) | (simp only [List.size_toArray, *]; done)) (all_oneCell_toArray (by assumption)) ?_
    simp only [Act.put, List.setIfInBounds_toArray, List.set_cons_zero, List.set_cons_succ, List.toList_toArray]
    refine hK.out _ _ ?_ (fun hHeld => ?_)
    · (try dsimp only); (go_split_ands; (repeat' apply And.intro) <;> first | assumption | exact Mine.call (by assumption) (by assumption) | exact Mine.alloc (by assumption) _ | exact Mine.setCells (by assumption) _ _ _ (by omega) | exact Mine.callN (by assumption) (by assumption) (by omega) | exact Row.belowN (by assumption) (by assumption) (by omega) | exact there_belowN (by assumption) (by assumption) (by omega) | exact rangeAt_below (by assumption) (by assumption) | exact World.rangeAt_alloc (by assumption) _ | exact World.rangeAt_setCells_apart (by assumption) _ _ _ (Or.inl (by omega)) | exact there_below (by assumption) (by assumption) | exact World.there_alloc (by assumption) _ | exact World.there_setCells (by assumption) _ _ _ | exact Row.belowS (by assumption) (by assumption) | exact Row.alloc (by assumption) _ | exact Row.setCells (by assumption) _ _ (by omega) | exact HS.below (by assumption) (by assumption) | exact HS.alloc (by assumption) _)
    clear hK K
    refine wpAnyH_take (i := 8) (oi := { dst := some 9, op := Op.assign (Operand.tmp 71), type := 4, pos := "ref.go:76", after := #[{ on := 6, ground := Ground.data }, { on := 7, ground := Ground.chain }, { on := 0, ground := Ground.phase }, { on := 1, ground := Ground.phase }, { on := 2, ground := Ground.phase }, { on := 3, ground := Ground.phase }, { on := 4, ground := Ground.phase }, { on := 5, ground := Ground.phase }, { on := 6, ground := Ground.phase }, { on := 7, ground := Ground.phase }], guard := none }) (v := ?v8_49) rfl (by kernel_rfl) (by kernel_rfl) (by kernel_rfl) (fun _ _ _ h => h) (Or.inl ⟨by rfl, ?y8_49⟩) (by assumption) ?r8_49
    case y8_49 => intro w hSw; (try dsimp only at hSw); go_simp; try with_reducible rfl
    try simp only [Act.put, List.setIfInBounds_toArray, List.set_cons_zero, List.set_cons_succ]
    refine wpAnyH_done (by kernel_rfl) ?_ _
    refine NoPanic.normal ?_
    have hr := Lib.hid (World.rangeAt_setCells_same w4 (A + 1) 0 an (by rw [HLN.out]; exact hPre.2.2.2))
    have hfin := Lib.hid hHeld.1.bel
    clear hHeld hPre hi hh1 hol hb4 hrx hmx htx hrp ix ip hu
    go_wp2
    refine bodyPost_ret (v := .tuple #[.agg an.toArray, .bool bb]) (range_result2 hr.out Try.results56 _ _ _ rfl rfl Try.underlying24 HX.out) rfl ?_
    exact ⟨nd, by rw [HAN.out], HND.out, HCL.out, by rw [hA]; exact hfin.out⟩

theorem up_any : ∀ (N n i : Nat) (leaf : List UInt8) (pv : Value) (ps : List (List UInt8)) (w : World), ps.length ≤ N → leaf.length = 32 → HS w pv ps → n ≤ 9223372036854775807 → i < n →
    Calls Try.prog 56 #[.int .i64 (n : Int), .int .i64 (i : Int), .agg (enc8 leaf).toArray, pv] w (UpSays n i leaf ps w)
  | N, n, i, leaf, pv, ps, w, hN, hl, hv, hn, hi => by
    by_cases h2 : 2 ≤ n
    · cases N with
      | zero =>
        obtain rfl : ps = [] := List.length_eq_zero_iff.1 (by omega)
        exact up_none n i leaf pv w hl hv h2
      | succ N =>
        by_cases h0 : ps.length = 0
        · obtain rfl : ps = [] := List.length_eq_zero_iff.1 h0
          exact up_none n i leaf pv w hl hv h2
        · obtain ⟨m, hm⟩ : ∃ m, ps.length = m + 1 := ⟨ps.length - 1, by omega⟩
          have IH := fun (n' i' : Nat) (pv' : Value) (w' : World) (hn' : n' ≤ 9223372036854775807) (hi' : i' < n') (hv' : HS w' pv' (ps.take m)) => up_any N n' i' leaf pv' (ps.take m) w' (by rw [List.length_take]; omega) hl hv' hn' hi'
          by_cases hik : i < hlf n
          · exact up_left n i leaf pv ps m w hl hv h2 hn hi hik hm IH
          · exact up_right n i leaf pv ps m w hl hv h2 hn hi hik hm IH
    · obtain rfl : n = 1 := by omega
      exact up_one i leaf pv ps w hl hv
end Go.Proofs.Ytkipnhhdlohnfaa
