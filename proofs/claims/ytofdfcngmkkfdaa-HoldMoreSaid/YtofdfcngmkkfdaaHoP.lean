/- the reference's Lift; Names. -/
import Derived.RangeFuncNested
import Derived.RangeFuncBound
import Derived.RangeFuncCalls
import Derived.RangeFuncLeaves
import Derived.Shelf.Abstract
import Derived.Shelf.RegionOpen
import Derived.WalkKit
import Derived.OwnWalkIn
import Derived.TacticsInMore
import Derived.LoopNIn
import Derived.LoopIn
import Derived.Outline
import Derived.Lib.Hide
import Derived.Lib.SliceRun
import Derived.IntWalk
import Derived.WalkLawsBesides
import Derived.WalkSpells
import Derived.Laws.BitsAllLaws
import Derived.Lib.ConvBytes
import Derived.Maps.AppendAt
import Derived.Lib.AppendStr
import Derived.Lib.SlBytesConst
import Derived.Laws.AppendOwnNone
import Derived.Laws.OwnMore
import Derived.Laws.BytesArg
import Derived.Deep.RegionHeld3
import Derived.BigQuiet
import Derived.Deep.RegionLaw
import Derived.Deep.QuietTactic
import Derived.Lib.OthersKept
import Derived.Test.YtofdfcngmkkfdaaProg
import Derived.Deep.DeepFit
import Derived.Test.YtofdfcngmkkfdaaHoO
set_option linter.unusedVariables false
set_option linter.unusedSimpArgs false
namespace Go.Proofs.Ytofdfcngmkkfdaa
open Go Go.RowKit Go.Shelf

set_option maxHeartbeats 8000000 in
set_option maxRecDepth 100000 in
/-- **the reference's Lift** -/
theorem rlift_any (v : Value) (hs : List Ru) (s : ByteArray) (w : World) (hmax : hs.length ≤ 1000) (hv : PV w v (ruV hs)) :
    Calls Try.prog 50 #[v, .string s] w fun e w' => ∃ u, e = .returned (.tuple #[u, .int .i64 (lfE hs s)]) ∧ OP w' w.heap.size u (lfL hs s) ∧ Below w.heap.size w w' := by
  have hv0 := hv
  obtain ⟨A, c, rfl, hc1, -⟩ := hv
  rw [ruV_len] at hv0 hc1 ⊢
  obtain ⟨n, hn⟩ : ∃ n, hs.length = n := ⟨_, rfl⟩
  rw [hn] at hv0 hc1 ⊢
  obtain ⟨B, hB⟩ : ∃ B, w.heap.size = B := ⟨_, rfl⟩
  obtain ⟨q, hq⟩ : ∃ q, fI hs s = q := ⟨_, rfl⟩
  have hq0 : Hid (fstG (fun h : Ru => h.1.toList == s.toList) (hs.drop 0) 0 = q) := hq
  obtain ⟨E, hE⟩ : ∃ E, lfE hs s = E := ⟨_, rfl⟩
  obtain ⟨L, hL⟩ : ∃ L, lfL hs s = L := ⟨_, rfl⟩
  rw [hE, hL]
  unfold lfE at hE
  unfold lfL at hL
  rw [hq] at hE hL
  have HV : Hid (∀ wr, Below B w wr → PV wr (.slice A n c) (ruV hs)) := fun wr h => hv0.below (hB ▸ h)
  have HN := Lib.hid hn
  have HE := Lib.hid hE
  have HL := Lib.hid hL
  clear hv0 hn hE hL hq
  go_enter Try.func50, Try.ntmps50
  go_wp2
  go_loopw [10, 6, 7] (fun i x y wr => ∃ k : Nat, (i = .int .i64 (k : Int) ∧ k ≤ n) ∧ Hid (fstG (fun h : Ru => h.1.toList == s.toList) (hs.drop k) k = q) ∧ Mine B w wr) (fun i _ _ _ => n - (intOf i).toNat)
  case atStart => exact ⟨0, ⟨rfl, Nat.zero_le _⟩, hq0, by rw [← hB]; exact Mine.refl w⟩
  case round =>
    clear hq0
    obtain ⟨k, ⟨rfl, hk⟩, hno, hmi⟩ := hrel
    by_cases hlt : k < n
    · have hkc : k < hs.length := by rw [HN.out]; exact hlt
      obtain ⟨g, o, rfl, c0, c1⟩ := (HV.out wr hmi.bel).at_ k _ (ruV_get hs k hkc)
      obtain ⟨b, hb⟩ : ∃ b, (hs[k].1.toList == s.toList) = b := ⟨_, rfl⟩
      have hst := hno.out
      rw [fI_step hs s k hkc b hb] at hst
      obtain ⟨nk, hnk⟩ : ∃ nm, hs[k].1 = nm := ⟨_, rfl⟩
      obtain ⟨wk, hwk⟩ : ∃ kp, hs[k].2 = kp := ⟨_, rfl⟩
      rw [hnk] at c0 hb
      rw [hwk] at c1
      have d0 : decide (k < n) = true := decide_eq_true hlt
      have k0 : (0 : Int) ≤ (k : Int) := by omega
      have k1 : (k : Int) < (n : Int) := by omega
      have MA := Lib.hid (hmi.alloc (.cells #[.string nk, .string wk] 47))
      have HST := Lib.hid hst
      clear hst hno hnk hwk hmi
      cases b with
      | false =>
        go_wp2
        go_roundw
        case rel => exact ⟨k + 1, ⟨by go_num, by omega⟩, HST.out, MA.out⟩
        case measure => simp [intOf]; omega
      | true =>
        have hqk : q = (k : Int) := HST.out.symm
        have hE := HE.out
        have hL := HL.out
        subst hqk
        rw [if_neg (by omega)] at hE hL
        rw [Int.toNat_natCast] at hL
        subst hE
        have ht := fun wr hb => (HV.out wr hb).take k (by rw [ruV_len, HN.out]; omega)
        have hd := fun wr hb => (HV.out wr hb).drop (k + 1) (n - (k + 1)) (c - (k + 1)) (by rw [ruV_len, HN.out]; omega) rfl rfl
        simp only [show (ruV hs).take k = ruV (hs.take k) by simp [ruV]] at ht
        simp only [show (ruV hs).drop (k + 1) = ruV (hs.drop (k + 1)) by simp [ruV]] at hd
        have hl : (hs.take k).length + (hs.drop (k + 1)).length ≤ 1000 := by simp; omega
        obtain ⟨xs, hxs⟩ : ∃ xs, hs.take k = xs := ⟨_, rfl⟩
        obtain ⟨ys, hys⟩ : ∃ ys, hs.drop (k + 1) = ys := ⟨_, rfl⟩
        rw [hxs] at hL hl
        rw [hys] at hL hl
        simp only [hxs] at ht
        simp only [hys] at hd
        subst hL
        have z1 : IntKind.i64.wrap ((k : Int) + 1) = (k : Int) + 1 := IntWalk.i64_in _ (by omega)
        have ka := fun w => hold_runh (some ⟨g, o, none⟩) n c k (by omega) (k : Int) rfl w
        have kb := fun w => hold_runl (some ⟨g, o, none⟩) n c (k + 1) (by omega) ((k : Int) + 1) (by omega) (n - (k + 1)) (c - (k + 1)) rfl rfl w
        obtain ⟨m, hm⟩ : ∃ m, n - (k + 1) = m := ⟨_, rfl⟩
        obtain ⟨d, hd'⟩ : ∃ d, c - (k + 1) = d := ⟨_, rfl⟩
        obtain ⟨Ac, hAc⟩ : ∃ Ac, cutH (some ⟨g, o, none⟩) c (k + 1) = Ac := ⟨_, rfl⟩
        simp only [hm, hd', hAc] at hd kb
        have HT := Lib.hid ht
        have HD := Lib.hid hd
        have HLL := Lib.hid hl
        clear ht hd hl hxs hys hm hd' hAc hmax hc1 HST HE HL HV
        go_wp2_with fail
        refine wp_region_noPanic ?_
        refine wp_region_held_drew (S := (fun w' => Mine B w w')) (by kernel_rfl) ?_ (fun hHeld => ?_)
        · exact ⟨MA.out.le, MA.out.bel.drew⟩
        refine wpAnyH_take (i := 0) (oi := { dst := some 19, op := Op.move (Operand.tmp 0), type := 45, pos := "ref.go:126", after := #[], guard := none }) (v := ?v0_0) rfl (by kernel_rfl) (by kernel_rfl) (by kernel_rfl) (fun _ _ _ h => h) (Or.inl ⟨by rfl, ?y0_0⟩) (by assumption) ?r0_0
        case y0_0 => intro w hSw; (try dsimp only at hSw); go_simp; try with_reducible rfl
        try simp only [Act.put, List.setIfInBounds_toArray, List.set_cons_zero, List.set_cons_succ]
        refine wpAnyH_take (i := 1) (oi := { dst := some 20, op := Op.move (Operand.tmp 6), type := 3, pos := "ref.go:126", after := #[], guard := none }) (v := ?v1_1) rfl (by kernel_rfl) (by kernel_rfl) (by kernel_rfl) (fun _ _ _ h => h) (Or.inl ⟨by rfl, ?y1_1⟩) (by assumption) ?r1_1
        case y1_1 => intro w hSw; (try dsimp only at hSw); go_simp; try with_reducible rfl
        try simp only [Act.put, List.setIfInBounds_toArray, List.set_cons_zero, List.set_cons_succ]
        refine wpAnyH_take (i := 2) (oi := { dst := some 21, op := Op.slice 45 (Operand.tmp 19) none (some (Operand.tmp 20)) none, type := 45, pos := "ref.go:126", after := #[{ on := 0, ground := Ground.data }, { on := 1, ground := Ground.data }], guard := none }) (v := ?v2_2) rfl (by kernel_rfl) (by kernel_rfl) (by kernel_rfl) (fun _ _ _ h => h) (Or.inl ⟨by rfl, ?y2_2⟩) (by assumption) ?r2_2
        case y2_2 => intro w hSw; (try dsimp only at hSw); go_simp; try with_reducible rfl
        try simp only [Act.put, List.setIfInBounds_toArray, List.set_cons_zero, List.set_cons_succ]
        refine wpAnyH_take (i := 4) (oi := { dst := some 23, op := Op.move (Operand.tmp 0), type := 45, pos := "ref.go:126", after := #[], guard := none }) (v := ?v4_3) rfl (by kernel_rfl) (by kernel_rfl) (by kernel_rfl) (fun _ _ _ h => h) (Or.inl ⟨by rfl, ?y4_3⟩) (by assumption) ?r4_3
        case y4_3 => intro w hSw; (try dsimp only at hSw); go_simp; try with_reducible rfl
        try simp only [Act.put, List.setIfInBounds_toArray, List.set_cons_zero, List.set_cons_succ]
        refine wpAnyH_take (i := 5) (oi := { dst := some 24, op := Op.move (Operand.tmp 6), type := 3, pos := "ref.go:126", after := #[], guard := none }) (v := ?v5_4) rfl (by kernel_rfl) (by kernel_rfl) (by kernel_rfl) (fun _ _ _ h => h) (Or.inl ⟨by rfl, ?y5_4⟩) (by assumption) ?r5_4
        case y5_4 => intro w hSw; (try dsimp only at hSw); go_simp; try with_reducible rfl
        try simp only [Act.put, List.setIfInBounds_toArray, List.set_cons_zero, List.set_cons_succ]
        refine wpAnyH_take (i := 6) (oi := { dst := some 25, op := Op.binOp BinOp.add 3 (Operand.tmp 24) (Operand.const (Value.int IntKind.i64 1)) 3, type := 3, pos := "ref.go:126", after := #[{ on := 5, ground := Ground.data }], guard := none }) (v := ?v6_5) rfl (by kernel_rfl) (by kernel_rfl) (by kernel_rfl) (fun _ _ _ h => h) (Or.inl ⟨by rfl, ?y6_5⟩) (by assumption) ?r6_5
        case y6_5 => intro w hSw; (try dsimp only at hSw); go_simp; try with_reducible rfl
        try simp only [Act.put, List.setIfInBounds_toArray, List.set_cons_zero, List.set_cons_succ]
        refine wpAnyH_take (i := 7) (oi := { dst := some 26, op := Op.slice 45 (Operand.tmp 23) (some (Operand.tmp 25)) none none, type := 45, pos := "ref.go:126", after := #[{ on := 4, ground := Ground.data }, { on := 6, ground := Ground.data }], guard := none }) (v := ?v7_6) rfl (by kernel_rfl) (by kernel_rfl) (by kernel_rfl) (fun _ _ _ h => h) (Or.inl ⟨by rfl, ?y7_6⟩) (by assumption) ?r7_6
        case y7_6 => intro w hSw; (try dsimp only at hSw); go_simp; try with_reducible rfl
        try simp only [Act.put, List.setIfInBounds_toArray, List.set_cons_zero, List.set_cons_succ]
        refine wpAnyH_ready (rs := [3]) (by kernel_rfl) (by simp) (AllReadyH.cons (o := { dst := some 22, op := Op.call { callee := Callee.builtin Builtin.append, args := #[Operand.const (Value.slice none 0 0), Operand.tmp 21], argTypes := #[45, 45] }, type := 45, pos := "ref.go:126", after := #[{ on := 2, ground := Ground.data }], guard := none }) rfl (fun K hK => ?_) AllReadyH.nil)
        refine stepP_append rfl (.const (.slice none 0 0)) (.tmp 21) rfl B _ _ [] xs rfl (OP.nil _ _) rfl (by exact HT.out _ hHeld.bel) (by have := HLL.out; simp; omega) hHeld.le ?_; intro u w3 hown hg3 hb3; have hq3 : Mine B w w3 := ⟨Nat.le_trans hHeld.le hb3.size, hHeld.bel.trans hb3⟩
        refine hK.out _ _ ?_ (fun hHeld => ?_)
        · (try dsimp only); (go_split_ands; (repeat' apply And.intro) <;> first | assumption | exact Mine.call (by assumption) (by assumption) | exact Mine.alloc (by assumption) _ | exact Mine.setCells (by assumption) _ _ _ (by omega) | exact Mine.callN (by assumption) (by assumption) (by omega) | exact Row.belowN (by assumption) (by assumption) (by omega) | exact there_belowN (by assumption) (by assumption) (by omega) | exact rangeAt_below (by assumption) (by assumption) | exact World.rangeAt_alloc (by assumption) _ | exact World.rangeAt_setCells_apart (by assumption) _ _ _ (Or.inl (by omega)) | exact there_below (by assumption) (by assumption) | exact World.there_alloc (by assumption) _ | exact World.there_setCells (by assumption) _ _ _ | exact Row.belowS (by assumption) (by assumption) | exact Row.alloc (by assumption) _ | exact Row.setCells (by assumption) _ _ (by omega) | exact HS.below (by assumption) (by assumption) | exact SB.below (by assumption) (by assumption) | exact HS.alloc (by assumption) _ | exact Box.call (by assumption) (by assumption) | exact Box.alloc (by assumption) _ | exact Box.put (by assumption) _ (by assumption) | exact cell_below (by assumption) (by assumption) | exact Lib.cell?_alloc_some _ (by assumption))
        clear hK K
        try simp only [Act.put, List.setIfInBounds_toArray, List.set_cons_zero, List.set_cons_succ]
        refine wpAnyH_ready (rs := [8]) (by kernel_rfl) (by simp) (AllReadyH.cons (o := { dst := some 27, op := Op.call { callee := Callee.builtin Builtin.append, args := #[Operand.tmp 22, Operand.tmp 26], argTypes := #[45, 45] }, type := 45, pos := "ref.go:126", after := #[{ on := 3, ground := Ground.data }, { on := 7, ground := Ground.data }, { on := 3, ground := Ground.chain }], guard := none }) rfl (fun K hK => ?_) AllReadyH.nil)
        refine stepP_append rfl (.tmp 22) (.tmp 26) rfl B u _ ([] ++ xs) ys rfl hown rfl (by exact HD.out _ hHeld.bel) (by have := HLL.out; simp; omega) hHeld.le ?_; intro v4 w4 hown4 hg4 hb4; have hq4 : Mine B w w4 := ⟨Nat.le_trans hHeld.le hb4.size, hHeld.bel.trans hb4⟩
        refine hK.out _ _ ?_ (fun hHeld => ?_)
        · (try dsimp only); (go_split_ands; (repeat' apply And.intro) <;> first | assumption | exact Mine.call (by assumption) (by assumption) | exact Mine.alloc (by assumption) _ | exact Mine.setCells (by assumption) _ _ _ (by omega) | exact Mine.callN (by assumption) (by assumption) (by omega) | exact Row.belowN (by assumption) (by assumption) (by omega) | exact there_belowN (by assumption) (by assumption) (by omega) | exact rangeAt_below (by assumption) (by assumption) | exact World.rangeAt_alloc (by assumption) _ | exact World.rangeAt_setCells_apart (by assumption) _ _ _ (Or.inl (by omega)) | exact there_below (by assumption) (by assumption) | exact World.there_alloc (by assumption) _ | exact World.there_setCells (by assumption) _ _ _ | exact Row.belowS (by assumption) (by assumption) | exact Row.alloc (by assumption) _ | exact Row.setCells (by assumption) _ _ (by omega) | exact HS.below (by assumption) (by assumption) | exact SB.below (by assumption) (by assumption) | exact HS.alloc (by assumption) _ | exact Box.call (by assumption) (by assumption) | exact Box.alloc (by assumption) _ | exact Box.put (by assumption) _ (by assumption) | exact cell_below (by assumption) (by assumption) | exact Lib.cell?_alloc_some _ (by assumption))
        clear hK K
        try simp only [Act.put, List.setIfInBounds_toArray, List.set_cons_zero, List.set_cons_succ]
        refine wpAnyH_take (i := 9) (oi := { dst := some 4, op := Op.assign (Operand.tmp 27), type := 45, pos := "ref.go:126", after := #[{ on := 8, ground := Ground.data }, { on := 8, ground := Ground.chain }, { on := 0, ground := Ground.phase }, { on := 1, ground := Ground.phase }, { on := 2, ground := Ground.phase }, { on := 3, ground := Ground.phase }, { on := 4, ground := Ground.phase }, { on := 5, ground := Ground.phase }, { on := 6, ground := Ground.phase }, { on := 7, ground := Ground.phase }, { on := 8, ground := Ground.phase }], guard := none }) (v := ?v9_7) rfl (by kernel_rfl) (by kernel_rfl) (by kernel_rfl) (fun _ _ _ h => h) (Or.inl ⟨by rfl, ?y9_7⟩) (by assumption) ?r9_7
        case y9_7 => intro w hSw; (try dsimp only at hSw); go_simp; try with_reducible rfl
        try simp only [Act.put, List.setIfInBounds_toArray, List.set_cons_zero, List.set_cons_succ]
        refine wpAnyH_take (i := 10) (oi := { dst := some 5, op := Op.assign (Operand.const (Value.int IntKind.i64 0)), type := 3, pos := "ref.go:126", after := #[{ on := 9, ground := Ground.chain }, { on := 0, ground := Ground.phase }, { on := 1, ground := Ground.phase }, { on := 2, ground := Ground.phase }, { on := 3, ground := Ground.phase }, { on := 4, ground := Ground.phase }, { on := 5, ground := Ground.phase }, { on := 6, ground := Ground.phase }, { on := 7, ground := Ground.phase }, { on := 8, ground := Ground.phase }, { on := 9, ground := Ground.phase }], guard := none }) (v := ?v10_8) rfl (by kernel_rfl) (by kernel_rfl) (by kernel_rfl) (fun _ _ _ h => h) (Or.inl ⟨by rfl, ?y10_8⟩) (by assumption) ?r10_8
        case y10_8 => intro w hSw; (try dsimp only at hSw); go_simp; try with_reducible rfl
        try simp only [Act.put, List.setIfInBounds_toArray, List.set_cons_zero, List.set_cons_succ]
        refine wpAnyH_done (by kernel_rfl) ?_ _
        refine NoPanic.normal ?_
        have hfin := Lib.hid hHeld.bel
        have hown5 := Lib.hid hown4
        go_wp2
        go_ret2
        exact ⟨_, rfl, by first | exact hown5.out | (rw [hB]; exact hown5.out), by first | exact hfin.out | (rw [hB]; exact hfin.out)⟩
    · have d0 : decide (k < n) = false := decide_eq_false hlt
      have hqe : q = -1 := by rw [← hno.out]; exact fstG_end _ hs k (by rw [HN.out]; omega)
      have hE := HE.out
      have hL := HL.out
      rw [if_pos (by omega)] at hE hL
      subst hE hL
      go_wp2
      go_ret2
      exact ⟨_, rfl, OP.nil _ _, by rw [hB]; exact hmi.bel⟩
/-- texts of the call's own -/
def OS (W : World) (base : Nat) (v : Value) (ss : List ByteArray) : Prop := W.ownsRow base 9 1 v ss.length (ss.map fun s => .string s)
theorem infoStr : (Try.prog.info? 9).map (fun i => (i.zero, i.size, i.bytes)) = some (some (.string ⟨#[]⟩), 1, 16) := by kernel_rfl
theorem OS.nil (W : World) (base : Nat) : OS W base (.slice none 0 0) [] := World.ownsRow_nil _ _ _ _
theorem OS.alloc {W : World} {B : Nat} {v : Value} {l : List ByteArray} (h : OS W B v l) (o : Obj) : OS (W.alloc o) B v l :=
  have hb := (Below.refl W.heap.size W).alloc (Nat.le_refl _) o
  h.kept (row := none) ⟨hb.os, hb.tape, hb.output, hb.size, fun k hk _ => hb.block k hk⟩ (by cases v.ownBlock <;> simp)
theorem OS.reads {W : World} {base : Nat} {v : Value} {ss : List ByteArray} (h : OS W base v ss) : TV W v ss := by
  obtain ⟨hl, h⟩ := h
  rcases h with ⟨rfl, h0⟩ | ⟨g, cap, cur, rfl, hb, hg, hc, hm, hs', ht⟩
  · obtain rfl : ss = [] := List.length_eq_zero_iff.1 h0
    exact ⟨none, 0, rfl, by simp, fun i h => by simp at h⟩
  · refine ⟨_, cap, by rw [List.length_map], by rw [List.length_map]; unfold maxLen at hm; omega, fun i hi => ⟨g, 0, rfl, ?_⟩⟩
    rw [List.length_map] at hi
    rw [← ht, List.getElem?_take_of_lt (by omega)]
    simp only [World.cell?, hg, Nat.zero_add]
    simp
theorem runT_append {w : World} (ty : TypeId) (base : Nat) (v : Value) (ss : List ByteArray) (g c : Nat) (s : ByteArray) (hown : OS w base v ss) (hc : w.cell? ⟨g, 0, none⟩ = some (.string s)) (hlen : ss.length + 1 ≤ 1000000) (hbase : base ≤ w.heap.size) :
    ∃ v' w', (Builtin.append_ #[31, 31] ty #[v, .slice (some ⟨g, 0, none⟩) 1 c]).run Try.prog w = .ok v' w' ∧ OS w' base v' (ss ++ [s]) ∧ w.grownBy w' v.ownBlock ∧ Below base w w' := by
  obtain ⟨i0, hi, hz0, hz1, hz2⟩ := info_parts infoStr
  obtain ⟨v', w', hr, hown', hgrow, _⟩ := run_append_own (P := Try.prog) w base 31 ty 9 i0 _ 1 16 Try.underlying31 hi hz0 hz1 hz2 rfl (by decide) v ss.length _ hown ⟨g, 0, none⟩ 1 c [.string s] rfl (by
    intro j u hj
    have hj0 : j = 0 := by have := (List.getElem?_eq_some_iff.1 hj).1; simp at this; omega
    subst hj0
    cases hj
    have : (⟨g, 0, none⟩ : Addr).add 0 = ⟨g, 0, none⟩ := by unfold Addr.add; simp
    rw [this]; exact hc) (by intro u hu; simp at hu; subst hu; rfl) (by unfold maxLen; omega) (by omega) hbase
  refine ⟨v', w', hr, ?_, hgrow, (Below.refl base w).grown hgrow hbase (fun k hk => (hown.lt k hk).1)⟩
  unfold OS
  rw [List.map_append, List.length_append]
  exact hown'
theorem wpT_append {w : World} {ops : Array Oper} {rest : List Oper} {o : Oper} {a : Act} {Q : Exit → Act → World → Prop} (hgd : o.guard = none) (s x : Operand)
    (ho : o.op = .call { callee := .builtin .append, args := #[s, x], argTypes := #[31, 31] })
    (base : Nat) (v : Value) (ss : List ByteArray) (g c : Nat) (t : ByteArray) (hs : a.eval s = v) (hown : OS w base v ss) (hx : a.eval x = .slice (some ⟨g, 0, none⟩) 1 c) (hc : w.cell? ⟨g, 0, none⟩ = some (.string t)) (hlen : ss.length + 1 ≤ 1000000) (hbase : base ≤ w.heap.size)
    (h : ∀ v' w', OS w' base v' (ss ++ [t]) → w.grownBy w' v.ownBlock → Below base w w' → wpList Try.prog ops Q rest (a.put o.dst v') w') : wpList Try.prog ops Q (o :: rest) a w := by
  refine wpList_plain hgd fun K hK => ?_
  obtain ⟨v', w', hrun, h1, h2, h3⟩ := runT_append o.type base v ss g c t hown hc hlen hbase
  unfold Oper.wp
  simp [execOp, ho, resolve, invoke, builtin, hs, hx, hrun, Result.andThen]
  exact hK _ _ (h v' w' h1 h2 h3)
set_option maxHeartbeats 4000000 in
set_option maxRecDepth 100000 in
/-- **Names** -/
theorem names_any (v : Value) (hs : List Ru) (w : World) (hmax : hs.length ≤ 1000) (hv : PV w v (ruV hs)) :
    Calls Try.prog 51 #[v] w fun e w' => ∃ u, e = .returned u ∧ TV w' u (hs.map (·.1)) ∧ Below w.heap.size w w' := by
  have hv0 := hv
  obtain ⟨A, c, rfl, hc1, -⟩ := hv
  rw [ruV_len] at hv0 hc1 ⊢
  obtain ⟨n, hn⟩ : ∃ n, hs.length = n := ⟨_, rfl⟩
  rw [hn] at hv0 hc1 hmax ⊢
  obtain ⟨B, hB⟩ : ∃ B, w.heap.size = B := ⟨_, rfl⟩
  have HV : Hid (∀ wr, Below B w wr → PV wr (.slice A n c) (ruV hs)) := fun wr h => hv0.below (hB ▸ h)
  have HN := Lib.hid hn
  clear hv0 hn
  go_enter Try.func51, Try.ntmps51
  go_wp2
  go_loopw [8, 3, 5] (fun i u y wr => ∃ k : Nat, (i = .int .i64 (k : Int) ∧ k ≤ n) ∧ OS wr B u ((hs.take k).map (·.1)) ∧ Mine B w wr) (fun i _ _ _ => n - (intOf i).toNat)
  case atStart => exact ⟨0, ⟨rfl, Nat.zero_le _⟩, OS.nil _ _, by rw [← hB]; exact Mine.refl w⟩
  case round =>
    obtain ⟨k, ⟨rfl, hk⟩, hown, hmi⟩ := hrel
    by_cases hlt : k < n
    · have hkc : k < hs.length := by rw [HN.out]; exact hlt
      obtain ⟨g, o, rfl, c0, c1⟩ := (HV.out wr hmi.bel).at_ k _ (ruV_get hs k hkc)
      have hst : (hs.take (k + 1)).map (·.1) = (hs.take k).map (·.1) ++ [hs[k].1] := by
        rw [List.take_succ_eq_append_getElem hkc, List.map_append]; rfl
      have hln : ((hs.take k).map (·.1)).length + 1 ≤ 1000000 := by simp; omega
      obtain ⟨nk, hnk⟩ : ∃ nm, hs[k].1 = nm := ⟨_, rfl⟩
      obtain ⟨wk, hwk⟩ : ∃ kp, hs[k].2 = kp := ⟨_, rfl⟩
      obtain ⟨ss, hss⟩ : ∃ ss, (hs.take k).map (·.1) = ss := ⟨_, rfl⟩
      rw [hnk] at c0 hst
      rw [hwk] at c1
      rw [hss] at hst hown hln
      have d0 : decide (k < n) = true := decide_eq_true hlt
      have k0 : (0 : Int) ≤ (k : Int) := by omega
      have k1 : (k : Int) < (n : Int) := by omega
      have MA := Lib.hid ((hmi.alloc (.cells #[.string nk, .string wk] 47)).alloc (.cells #[.string nk] 9))
      have OA := Lib.hid ((hown.alloc (.cells #[.string nk, .string wk] 47)).alloc (.cells #[.string nk] 9))
      have ca := (Row.new (wr.alloc (.cells #[.string nk, .string wk] 47)) #[.string nk] 9).cell0
      rw [alloc_size] at ca
      have CA := Lib.hid ca
      have HST := Lib.hid hst
      have HLN := Lib.hid hln
      clear hst hnk hwk hss hmi hown hln ca
      go_wp2_with (at_builtin; refine wpT_append rfl _ _ rfl B _ ss _ _ nk rfl OA.out rfl CA.out HLN.out MA.out.le ?_)
      intro v' w1 hown' hgrow hbel
      have HO := Lib.hid hown'
      have HM1 := Lib.hid (MA.out.callN hbel (Nat.le_refl B))
      clear hown' hgrow hbel OA MA CA
      go_wp2
      go_roundw
      case rel => exact ⟨k + 1, ⟨by go_num, by omega⟩, by rw [HST.out]; exact HO.out, HM1.out⟩
      case measure => simp [intOf]; omega
    · have d0 : decide (k < n) = false := decide_eq_false hlt
      rw [List.take_of_length_le (by rw [HN.out]; omega)] at hown
      have HO := Lib.hid hown.reads
      have HM := Lib.hid hmi
      clear hown hmi
      go_wp2
      go_ret
      exact ⟨_, rfl, HO.out, by rw [hB]; exact HM.out.bel⟩
end Go.Proofs.Ytofdfcngmkkfdaa
