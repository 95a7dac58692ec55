/- The law's ways: the pairs of sums on the way to the root. -/
import Derived.RangeFuncNested
import Derived.RangeFuncBound
import Derived.RangeFuncCalls
import Derived.RangeFuncLeaves
import Derived.Shelf.Abstract
import Derived.Shelf.RegionOpen
import Derived.WalkKit
import Derived.OwnWalkIn
import Derived.TacticsInMore
import Derived.LoopNIn
import Derived.LoopIn
import Derived.Outline
import Derived.Lib.Hide
import Derived.Lib.SliceRun
import Derived.IntWalk
import Derived.WalkLawsBesides
import Derived.WalkSpells
import Derived.Laws.BitsAllLaws
import Derived.Lib.ConvBytes
import Derived.Maps.AppendAt
import Derived.Lib.AppendStr
import Derived.Lib.SlBytesConst
import Derived.Laws.AppendOwnNone
import Derived.Laws.OwnMore
import Derived.Laws.BytesArg
import Derived.Deep.RegionHeld3
import Derived.BigQuiet
import Derived.Deep.RegionLaw
import Derived.Deep.QuietTactic
import Derived.Lib.OthersKept
import Derived.Test.YtkipnhhdlohnfaaProg
import Derived.Deep.DeepFit
import Derived.Test.YtkipnhhdlohnfaaMbA
set_option linter.unusedVariables false
set_option linter.unusedSimpArgs false
namespace Go.Proofs.Ytkipnhhdlohnfaa
open Go Go.RowKit Go.Shelf

/-- what has turned since a: nothing below B but the block A -/
structure Kept (A B : Nat) (a w : World) : Prop where
  le : B ≤ w.heap.size
  bel : Below A a w
  blk : ∀ k, k < B → k ≠ A → w.heap[k]? = a.heap[k]?
theorem Kept.call {A B : Nat} {a w w' : World} (hb : Below w.heap.size w w') (h : Kept A B a w) (hA : A ≤ B := by omega) : Kept A B a w' :=
  ⟨Nat.le_trans h.le hb.size, h.bel.trans (hb.mono (Nat.le_trans hA h.le)), fun k hk hne => (hb.block k (Nat.lt_of_lt_of_le hk h.le)).trans (h.blk k hk hne)⟩
theorem Kept.callN {A B : Nat} {a w w' : World} (hb : Below B w w') (h : Kept A B a w) (hA : A ≤ B := by omega) : Kept A B a w' :=
  ⟨Nat.le_trans h.le hb.size, h.bel.trans (hb.mono hA), fun k hk hne => (hb.block k hk).trans (h.blk k hk hne)⟩
theorem Kept.alloc {A B : Nat} {a w : World} (h : Kept A B a w) (o : Obj) (hA : A ≤ B := by omega) : Kept A B a (w.alloc o) := h.call ((Below.refl _ _).alloc (Nat.le_refl _) _) hA
theorem heap_setCells_ne (b : Nat) : ∀ (vs : List Value) (o : Nat) (w : World) (k : Nat), k ≠ b → (w.setCells b o vs).heap[k]? = w.heap[k]?
  | [], _, _, _, _ => rfl
  | v :: r, o, w, k, h => by
    rw [World.setCells, heap_setCells_ne b r (o + 1) _ k h, heap_setCell_other w ⟨b, o, none⟩ k v h]
theorem Kept.setCells {A B : Nat} {a w : World} (h : Kept A B a w) (b o : Nat) (vs : List Value) (hb : A ≤ b ∧ (b = A ∨ B ≤ b)) : Kept A B a (w.setCells b o vs) :=
  ⟨Nat.le_trans h.le (below_setCells b vs o w (Below.refl A w) hb.1).size, below_setCells b vs o w h.bel hb.1, fun k hk hne => by
    rw [heap_setCells_ne b vs o w k (by omega)]; exact h.blk k hk hne⟩
theorem heap_setRow_ne (w : World) (b k : Nat) (cs : Array Value) (h : k ≠ b) : (w.setRow b cs).heap[k]? = w.heap[k]? := by
  simp only [World.setRow]
  rw [Array.getElem?_modify, if_neg (Ne.symm h)]
theorem Kept.cell {A B : Nat} {a w : World} (h : Kept A B a w) {g o : Nat} {v : Value} (hc : a.cell? ⟨g, o, none⟩ = some v) (hg : g < B) (hne : g ≠ A) : w.cell? ⟨g, o, none⟩ = some v := by
  rw [← hc]
  simp [World.cell?, h.blk g hg hne]
theorem OHP.other {W W' : World} {B : Nat} {v : Value} {l : List Pr} (h : OHP W B v l) (b : Nat) (he : ∀ k, k ≠ b → W'.heap[k]? = W.heap[k]?) (hb : ∀ g, v.ownBlock = some g → g ≠ b) : OHP W' B v l := by
  obtain ⟨h0, h1, h2⟩ := h
  refine ⟨h0, h1, ?_⟩
  rcases h2 with h | ⟨g, cap, cur, rfl, hg, hh, r⟩
  · exact .inl h
  · exact .inr ⟨g, cap, cur, rfl, hg, (he g (hb g rfl)).trans hh, r⟩
theorem OHP.alloc {W : World} {B : Nat} {v : Value} {l : List Pr} (h : OHP W B v l) (o : Obj) : OHP (W.alloc o) B v l := h.below ((Below.refl _ _).alloc (Nat.le_refl _) _)
theorem OHP.lt {W : World} {B : Nat} {v : Value} {l : List Pr} (h : OHP W B v l) (g : Nat) (hg : v.ownBlock = some g) : g < W.heap.size := (h.2.lt g hg).2
theorem Kept.setRow {A B : Nat} {a w : World} (h : Kept A B a w) (cs : Array Value) (hA : A ≤ B := by omega) : Kept A B a (w.setRow A cs) :=
  ⟨by rw [setRow_size]; exact h.le, below_setRow h.bel (Nat.le_refl A) cs, fun k hk hne => by rw [heap_setRow_ne w A k cs hne]; exact h.blk k hk hne⟩
theorem cellB {w w' : World} {p : Addr} {v : Value} (h : w.cell? p = some v) (hb : Below w.heap.size w w') : w'.cell? p = some v := (hb.cell (World.block_lt_of_cell? w _ h)).trans h
theorem rangeAt_heap {w w' : World} {g o : Nat} {l : List Value} (h : w.rangeAt g o l) (he : w'.heap[g]? = w.heap[g]?) : w'.rangeAt g o l := fun j v hj => by
  rw [← h j v hj]
  simp [World.cell?, he]
theorem Row_split {w : World} {g : Nat} {a b : List Value} (h : w.rangeAt g 0 (a ++ b)) (ha : a.length = 32) : w.rangeAt g 0 a ∧ w.rangeAt g 32 b := range_halves h ha
/-- half of a pair is read -/
theorem hload {w : World} {ops : Array Oper} {rest : List Oper} {o : Oper} {a : Act} {Q : Exit → Act → World → Prop} {g k : Nat} {l : List Value} (hr : w.rangeAt g k l) (hw : Region.wanted o (yielded ops a.tmps) = true) (x : Operand) (ho : o.op = .load 24 x)
    (hx : a.eval x = .pointer (some ⟨g, k, none⟩)) (hi : (Try.prog.info? 24).map (·.size) = some l.length)
    (h : wpList Try.prog ops Q rest (a.put o.dst (.agg l.toArray)) w) : wpList Try.prog ops Q (o :: rest) a w :=
  wpList_wanted hw fun K hK => wp_load_mid 24 x ho g k hx l _ hr Try.underlying24 rfl hi (hK _ _ h)

set_option maxHeartbeats 8000000 in
set_option maxRecDepth 100000 in
theorem ways_any (n i : Nat) (leaf : List UInt8) (pv : Value) (ps : List (List UInt8)) (w : World) (hl : leaf.length = 32) (hv : HS w pv ps) (hn : n ≤ 9223372036854775807) (hi : i < n) (hlen : (turnsL n i).length = ps.length) :
    Calls Try.prog 37 #[.int .i64 (n : Int), .int .i64 (i : Int), .agg (enc8 leaf).toArray, pv] w fun e w' => ∃ u, e = .returned u ∧ OHP w' w.heap.size u (pairsL (turnsL n i).reverse ps leaf ps.length) ∧ Below w.heap.size w w' := by
  obtain ⟨C, c, rfl, hc, -⟩ := hv.form
  have h63 := turnsL_63 n i hn
  obtain ⟨res, hres⟩ : ∃ res, turnsL n i = res := ⟨_, rfl⟩
  obtain ⟨A, hA⟩ : ∃ A, w.heap.size = A := ⟨_, rfl⟩
  have hbw : Below A w (w.alloc (.cells (enc8 leaf).toArray 24)) := by rw [← hA]; exact (Below.refl _ _).alloc (Nat.le_refl _) _
  have hr0 : Row (w.alloc (.cells (enc8 leaf).toArray 24)) A 24 (enc8 leaf) := by rw [← hA]; exact Row.new w (enc8 leaf).toArray 24
  have hsz : (w.alloc (.cells (enc8 leaf).toArray 24)).heap.size = A + 1 := by rw [alloc_size, hA]
  obtain ⟨W, hW⟩ : ∃ W, w.alloc (.cells (enc8 leaf).toArray 24) = W := ⟨_, rfl⟩
  obtain ⟨al, hal⟩ : ∃ al, enc8 leaf = al := ⟨_, rfl⟩
  have hal2 := hal
  rw [hW] at hbw hr0 hsz
  rw [hal] at hW hr0
  rw [hal]
  rw [hres] at hlen h63
  have HRES := Lib.hid hres
  rw [hres, hA]
  have HW := Lib.hid hW
  have HR0 := Lib.hid hr0
  have HBW := Lib.hid hbw
  have HLF := Lib.hid hl
  have HV := Lib.hid hv
  have HAL := Lib.hid hal2
  have HLEN := Lib.hid hlen
  have HSZ := Lib.hid hsz
  clear hres hW hr0 hbw hl hv hal hal2 hlen hsz
  obtain ⟨m, hm⟩ : ∃ m, ps.length = m := ⟨_, rfl⟩
  have HM := Lib.hid hm
  rw [hm] at hc HV ⊢
  clear hm
  go_enter Try.func37, Try.ntmps37
  go_wp2_with fail
  rw [HW.out]
  go_wp2_with fail
  go_loopw [0, 1, 9] (fun x y l wr => ∃ (p j : Nat) (acc : List Bool), (x = .int .i64 (p : Int) ∧ y = .int .i64 (j : Int) ∧ j < p ∧ p ≤ n) ∧ Hid (OT wr (A + 1) l acc) ∧ Hid (acc ++ turnsL p j = res) ∧ Hid (Mine (A + 1) W wr)) (fun x _ _ _ => (intOf x).toNat)
  case atStart => exact ⟨n, i, [], ⟨rfl, rfl, hi, Nat.le_refl _⟩, OT_nil _ _, HRES.out, ⟨by have := HSZ.out; omega, Below.refl _ _⟩⟩
  case round =>
    obtain ⟨p, j, acc, ⟨rfl, rfl, hj, hp⟩, ho, hacc, hm⟩ := hrel
    have hal : acc.length ≤ 63 := by have := congrArg List.length hacc.out; rw [List.length_append] at this; omega
    by_cases h2 : 2 ≤ p
    · have hk := hlf_range p h2
      have g1 : (1 : Int) < (p : Int) := by omega
      have h0 : hgo 64 p 1 = hlf p ∧ p ≤ 1 * 2 ^ 64 := ⟨rfl, by omega⟩
      obtain ⟨h, hh⟩ : ∃ h, hlf p = h := ⟨_, rfl⟩
      have HH := Lib.hid hh
      rw [hh] at h0 hk
      have H0 := Lib.hid h0
      clear h0 hh
      obtain ⟨wo, rfl⟩ : ∃ x, x = wr := ⟨_, rfl⟩
      go_wp2
      go_loop [10] (fun x => ∃ k f : Nat, x = .int .i64 (k : Int) ∧ 1 ≤ k ∧ (k ≤ p ∨ k = 1) ∧ hgo f p k = h ∧ p ≤ k * 2 ^ f) (fun x => p - (intOf x).toNat)
      case atStart => exact ⟨1, 64, rfl, by omega, .inr rfl, H0.out.1, H0.out.2⟩
      case round =>
        obtain ⟨k, f, rfl, hk1, hk2, hg, hf⟩ := hrel
        clear H0
        have m1 : IntKind.i64.wrap ((p : Int) - (k : Int)) = (p : Int) - (k : Int) := IntWalk.i64_in _ (by omega)
        by_cases hcc : 2 * k < p
        · have d1 : decide ((k : Int) < (p : Int) - (k : Int)) = true := by simp; omega
          have m2 : IntKind.i64.wrap ((k : Int) * 2) = ((2 * k : Nat) : Int) := by rw [IntWalk.i64_in _ (by omega)]; omega
          have hx : ∃ g, hgo g p (2 * k) = h ∧ p ≤ (2 * k) * 2 ^ g := by
            cases f with
            | zero => omega
            | succ g =>
              unfold hgo at hg
              rw [if_pos hcc] at hg
              refine ⟨g, hg, ?_⟩
              rw [Nat.pow_succ] at hf
              rw [show 2 * k * 2 ^ g = k * (2 ^ g * 2) by rw [Nat.mul_comm 2 k, Nat.mul_assoc, Nat.mul_comm 2 (2 ^ g)]]
              exact hf
          obtain ⟨g, hg1, hg2⟩ := hx
          have Hg := Lib.hid hg1
          have Hf := Lib.hid hg2
          obtain ⟨k2, hk3⟩ : ∃ k2, 2 * k = k2 := ⟨_, rfl⟩
          rw [hk3] at m2 hcc Hg Hf
          clear hg hf hg1 hg2
          go_wp2
          go_round
          case rel => exact ⟨k2, g, rfl, by omega, .inl (by omega), Hg.out, Hf.out⟩
          case measure => simp [intOf]; omega
        · have d1 : decide ((k : Int) < (p : Int) - (k : Int)) = false := by simp; omega
          have hg' : k = h := by rw [hgo_stop f p k hcc] at hg; exact hg
          subst hg'
          clear hg hf
          by_cases hjk : j < k
          · have d2 : decide ((k : Int) ≤ (j : Int)) = false := by simp; omega
            have d3 : decide (k ≤ j) = false := by simp; omega
            have d4 : decide ((j : Int) < (k : Int)) = true := by simp; omega
            have d5 : decide (j < k) = true := by simp; omega
            have HACC : Hid ((acc ++ [false]) ++ turnsL k j = res) := by
              unfold Hid
              rw [← hacc.out, turnsL_left p j h2 (by rw [HH.out]; exact hjk), HH.out]
              simp
            have HOWN := Lib.hid ho.out
            have HMI := Lib.hid hm.out
            clear ho hm hacc
            go_wp2_with (at_builtin; refine wpT_append rfl _ _ rfl (A + 1) _ acc wo.heap.size 1 false rfl (HOWN.out.below ((Below.refl _ wo).alloc (Nat.le_refl _) _)) rfl (by rw [(Row.new wo #[.bool false] 4).cell 0]; rfl) (by omega) (by rw [alloc_size]; have := HMI.out.le; omega) ?_; intro v3 w3 ho3 hb3; have HO3 := Lib.hid ho3; have HM3 := Lib.hid (Mine.callN hb3 (HMI.out.alloc (.cells #[.bool false] 4)) (Nat.le_refl (A + 1))); clear ho3 hb3 HOWN HMI)
            go_roundw
            case rel => exact ⟨k, j, acc ++ [false], ⟨rfl, rfl, by omega, by omega⟩, HO3.out, HACC.out, HM3.out⟩
            case measure => simp [intOf]; omega
          · have d2 : decide ((k : Int) ≤ (j : Int)) = true := by simp; omega
            have d3 : decide (k ≤ j) = true := by simp; omega
            have d4 : decide ((j : Int) < (k : Int)) = false := by simp; omega
            have d5 : decide (j < k) = false := by simp; omega
            obtain ⟨pk, hpk⟩ : ∃ q, p - k = q := ⟨_, rfl⟩
            obtain ⟨jk, hjk2⟩ : ∃ q, j - k = q := ⟨_, rfl⟩
            have x1 : IntKind.i64.wrap ((p : Int) - (k : Int)) = (pk : Int) := by rw [IntWalk.i64_in _ (by omega)]; omega
            have x2 : IntKind.i64.wrap ((j : Int) - (k : Int)) = (jk : Int) := by rw [IntWalk.i64_in _ (by omega)]; omega
            have HACC : Hid ((acc ++ [true]) ++ turnsL pk jk = res) := by
              unfold Hid
              rw [← hacc.out, turnsL_right p j h2 (by rw [HH.out]; exact hjk), HH.out, hpk, hjk2]
              simp
            have HOWN := Lib.hid ho.out
            have HMI := Lib.hid hm.out
            clear ho hm hacc
            go_wp2_with (at_builtin; refine wpT_append rfl _ _ rfl (A + 1) _ acc wo.heap.size 1 true rfl (HOWN.out.below ((Below.refl _ wo).alloc (Nat.le_refl _) _)) rfl (by rw [(Row.new wo #[.bool true] 4).cell 0]; rfl) (by omega) (by rw [alloc_size]; have := HMI.out.le; omega) ?_; intro v3 w3 ho3 hb3; have HO3 := Lib.hid ho3; have HM3 := Lib.hid (Mine.callN hb3 (HMI.out.alloc (.cells #[.bool true] 4)) (Nat.le_refl (A + 1))); clear ho3 hb3 HOWN HMI)
            go_roundw
            case rel => exact ⟨pk, jk, acc ++ [true], ⟨by first | rfl | rw [show (p : Int) - (k : Int) = (pk : Int) by omega], by first | rfl | rw [show (j : Int) - (k : Int) = (jk : Int) by omega], by omega, by omega⟩, HO3.out, HACC.out, HM3.out⟩
            case measure => simp [intOf]; omega
    · rw [turnsL_one p j h2, List.append_nil] at hacc
      have hacc2 := hacc.out
      subst hacc2
      have g1 : ¬ (1 : Int) < (p : Int) := by omega
      clear hacc
      obtain ⟨W1, rfl⟩ : ∃ x, x = wr := ⟨_, rfl⟩
      obtain ⟨AR, cR, hRf, hc1, hc2, hRc⟩ := ho.out.form
      have hR1 : Row W1 A 24 al := Row.belowN hm.out.bel HR0.out (by omega)
      have hKb : Below A w W1 := HBW.out.trans (hm.out.bel.mono (by omega))
      have hB0 : A + 1 ≤ W1.heap.size := hm.out.le
      obtain ⟨B, hB⟩ : ∃ B, W1.heap.size = B := ⟨_, rfl⟩
      rw [hB] at hB0
      have hRlt : ∀ g, AR = some ⟨g, 0, none⟩ → 0 < acc.length → g < B := fun g e h0 => by
        obtain ⟨g', e', _, hcc⟩ := hRc h0
        rw [e] at e'
        cases e'
        rw [← hB]
        obtain ⟨b, hb⟩ : ∃ b, acc[0]? = some b := ⟨_, List.getElem?_eq_getElem h0⟩
        exact World.block_lt_of_cell? W1 _ (hcc 0 b hb)
      subst hRf
      have hml : acc.length = m := by rw [HLEN.out, HM.out]
      rw [hml] at hc1 hRc hRlt ⊢
      have HR1 := Lib.hid hR1
      have HRC := Lib.hid hRc
      have HRLT := Lib.hid hRlt
      have HKB := Lib.hid hKb
      have HML := Lib.hid hml
      have hal' : Hid (enc8 (clb acc.reverse ps leaf 0) = al) := HAL.out
      clear hR1 hRc hRlt hKb ho hm hml HR0 HBW hal
      go_wp2
      go_loopw [11, 12] (fun out x wr => ∃ k : Nat, (x = .int .i64 (k : Int) ∧ k ≤ m) ∧ Hid (OHP wr B out (pairsL acc.reverse ps leaf k)) ∧ Hid (Row wr A 24 (enc8 (clb acc.reverse ps leaf k))) ∧ Hid (Kept A B W1 wr)) (fun _ x _ => m - (intOf x).toNat)
      case atStart => exact ⟨0, ⟨rfl, by omega⟩, OHP_nil _ _, by rw [hal'.out]; exact HR1.out, ⟨by omega, Below.refl _ _, fun _ _ _ => rfl⟩⟩
      case round =>
        obtain ⟨k, ⟨rfl, hkm⟩, hout, hrow, hkept⟩ := hrel
        by_cases hkl : k < m
        · obtain ⟨p, hp⟩ : ∃ p, ps[k]? = some p := ⟨_, List.getElem?_eq_getElem (by rw [HM.out]; exact hkl)⟩
          have hvw : HS wr (.slice C m c) ps := HV.out.below (by rw [hA]; exact HKB.out.trans hkept.out.bel)
          obtain ⟨p32, -, g, o, rfl, rp⟩ := hvw.at_ k (by rw [HM.out]; exact hkl) p hp
          have hgA : g < A := by
            obtain ⟨p32', -, g', o', e', rp'⟩ := HV.out.at_ k (by rw [HM.out]; exact hkl) p hp
            cases e'
            have h0 := rp' 0 (.int .u8 (gb p 0)) (enc8_get p 0 (by omega))
            rw [← hA]
            exact World.block_lt_of_cell? w _ h0
          obtain ⟨gr, rfl, hgr1, hgr2⟩ := HRC.out (by omega)
          have hgrB := HRLT.out gr rfl (by omega)
          obtain ⟨b, hb⟩ : ∃ b, acc[m - 1 - k]? = some b := ⟨_, List.getElem?_eq_getElem (by rw [HML.out]; omega)⟩
          have hbc := hkept.out.cell (hgr2 _ _ hb) hgrB (by omega)
          have htk : acc.reverse[k]? = some b := by rw [List.getElem?_reverse (by rw [HML.out]; exact hkl), HML.out]; exact hb
          have hx32 : (clb acc.reverse ps leaf k).length = 32 := by
            cases k with
            | zero => exact HLF.out
            | succ k => rw [clb_pair]; exact nodeL_length _ _
          have hsn := pairsL_snoc acc.reverse ps leaf k
          have hpl := pairsL_len acc.reverse ps leaf k
          have hst : pairAt acc.reverse ps leaf k = if b = true then (p, clb acc.reverse ps leaf k) else (clb acc.reverse ps leaf k, p) := by
            unfold pairAt
            rw [htk, hp]
            rfl
          have hnx : clb acc.reverse ps leaf (k + 1) = nodeL (pairAt acc.reverse ps leaf k).1 (pairAt acc.reverse ps leaf k).2 := clb_pair _ _ _ _
          obtain ⟨x, hx⟩ : ∃ x, clb acc.reverse ps leaf k = x := ⟨_, rfl⟩
          obtain ⟨acp, hacp⟩ : ∃ x, pairsL acc.reverse ps leaf k = x := ⟨_, rfl⟩
          rw [hx] at hx32 hst hrow
          rw [hacp] at hsn hpl hout
          rw [hst] at hsn hnx
          obtain ⟨A3, c3, hov, -, -, -⟩ := hout.out.form
          subst hov
          have d1 : decide ((k : Int) < (m : Int)) = true := by simp; omega
          have k1 : (k : Int) < (m : Int) := by omega
          have z1 : IntKind.i64.wrap ((m : Int) - 1) = (m : Int) - 1 := by rw [IntWalk.i64_in _ (by omega)]
          obtain ⟨r, hr⟩ : ∃ r, m - 1 - k = r := ⟨_, rfl⟩
          have z2 : IntKind.i64.wrap ((m : Int) - 1 - (k : Int)) = (r : Int) := by rw [IntWalk.i64_in _ (by omega)]; omega
          have z3 : IntKind.i64.wrap ((k : Int) + 1) = ((k + 1 : Nat) : Int) := by rw [IntWalk.i64_in _ (by omega)]; omega
          have r1 : (r : Int) < (m : Int) := by omega
          rw [hr] at hbc
          have ix := info32 x hx32
          have ip := info32 p p32
          obtain ⟨ax, hax⟩ : ∃ a, enc8 x = a := ⟨_, rfl⟩
          obtain ⟨ap, hap⟩ : ∃ a, enc8 p = a := ⟨_, rfl⟩
          have lx : ax.length = 32 := by rw [← hax, enc8_len, hx32]
          have lp : ap.length = 32 := by rw [← hap, enc8_len, p32]
          have fx : ∀ v ∈ ax, v.oneCell' = true := by rw [← hax]; exact enc8_one x
          have fp : ∀ v ∈ ap, v.oneCell' = true := by rw [← hap]; exact enc8_one p
          have f2 : ∀ v ∈ ax ++ ap, v.oneCell' = true := fun v hv => (List.mem_append.1 hv).elim (fx v) (fp v)
          have f3 : ∀ v ∈ ap ++ ax, v.oneCell' = true := fun v hv => (List.mem_append.1 hv).elim (fp v) (fx v)
          have l2 : (ax ++ ap).length = 64 := by rw [List.length_append, lx, lp]
          have l3 : (ap ++ ax).length = 64 := by rw [List.length_append, lx, lp]
          have i2 := info64 (ax ++ ap) l2
          have i3 := info64 (ap ++ ax) l3
          rw [hax] at ix hrow
          rw [hap] at ip rp
          have HP32 := Lib.hid p32
          have HX32 := Lib.hid hx32
          have HAX := Lib.hid hax
          have HAP := Lib.hid hap
          have HSN := Lib.hid hsn
          have HNX := Lib.hid hnx
          have HPL := Lib.hid hpl
          have HROW := Lib.hid hrow.out
          have HOUT := Lib.hid hout.out
          have HKP := Lib.hid hkept.out
          have HBC := Lib.hid hbc
          have RP := Lib.hid rp
          have hu := Try.underlying24
          have kz := zeroPair
          clear p32 hx32 hax hap hsn hnx hpl hrow hout hkept hbc rp hst hx hacp htk hb hp hvw hgr2 hal'
          have hrg := (Row.halves (a := ax) (b := []) (by rw [List.append_nil]; exact HROW.out) lx).1
          have hgb : g < B := by omega
          obtain ⟨BW, hBW⟩ : ∃ BW, wr.heap.size = BW := ⟨_, rfl⟩
          have HBW := Lib.hid hBW
          have hBBW : B ≤ BW := by rw [← hBW]; exact HKP.out.le
          clear hBW
          go_wp2_with fail
          refine wp_region_noPanic ?_
          refine wp_region_held_drew (S := (fun w' => Mine BW wr w' ∧ w'.rangeAt A 0 ax ∧ w'.rangeAt g (o + k * 32) ap)) (by kernel_rfl) ?_ (fun hHeld => ?_)
          · exact ⟨⟨Nat.le_of_eq HBW.out.symm, (Below.refl BW wr).drew⟩, (World.rangeAt_drew _ _ _ _).2 hrg, (World.rangeAt_drew _ _ _ _).2 RP.out⟩
          refine wpAnyH_take (i := 1) (oi := { dst := some 52, op := Op.move (Operand.tmp 3), type := 29, pos := "law.go:146", after := #[], guard := none }) (v := ?v1_0) rfl (by kernel_rfl) (by kernel_rfl) (by kernel_rfl) (fun _ _ _ h => h) (Or.inl ⟨by rfl, ?y1_0⟩) (by assumption) ?r1_0
          case y1_0 => intro w hSw; (try dsimp only at hSw); go_simp; try with_reducible rfl
          try simp only [Act.put, List.setIfInBounds_toArray, List.set_cons_zero, List.set_cons_succ]
          refine wpAnyH_take (i := 2) (oi := { dst := some 53, op := Op.move (Operand.tmp 12), type := 3, pos := "law.go:146", after := #[], guard := none }) (v := ?v2_1) rfl (by kernel_rfl) (by kernel_rfl) (by kernel_rfl) (fun _ _ _ h => h) (Or.inl ⟨by rfl, ?y2_1⟩) (by assumption) ?r2_1
          case y2_1 => intro w hSw; (try dsimp only at hSw); go_simp; try with_reducible rfl
          try simp only [Act.put, List.setIfInBounds_toArray, List.set_cons_zero, List.set_cons_succ]
          refine wpAnyH_take (i := 3) (oi := { dst := some 54, op := Op.indexAddr 29 (Operand.tmp 52) (Operand.tmp 53), type := 0, pos := "law.go:146", after := #[{ on := 1, ground := Ground.data }, { on := 2, ground := Ground.data }], guard := none }) (v := ?v3_2) rfl (by kernel_rfl) (by kernel_rfl) (by kernel_rfl) (fun _ _ _ h => h) (Or.inl ⟨by rfl, ?y3_2⟩) (by assumption) ?r3_2
          case y3_2 => intro w hSw; (try dsimp only at hSw); go_simp; try with_reducible rfl
          try simp only [Act.put, List.setIfInBounds_toArray, List.set_cons_zero, List.set_cons_succ]
          refine wpAnyH_take (i := 0) (oi := { dst := some 51, op := Op.load 24 (Operand.tmp 6), type := 24, pos := "law.go:146", after := #[], guard := none }) (v := _) rfl (by kernel_rfl) (by kernel_rfl) (by kernel_rfl) (fun _ _ _ h => h) (yieldsIf_load_mid (by rfl) _ _ rfl _ _ rfl _ _ (by intro w hSw; (try dsimp only at hSw); go_split_ands; assumption) (by assumption) rfl (by first | assumption | (simp only [*]; done))) (by assumption) ?_
          try simp only [Act.put, List.setIfInBounds_toArray, List.set_cons_zero, List.set_cons_succ]
          refine wpAnyH_take (i := 4) (oi := { dst := some 55, op := Op.load 24 (Operand.tmp 54), type := 24, pos := "law.go:146", after := #[{ on := 3, ground := Ground.data }], guard := none }) (v := _) rfl (by kernel_rfl) (by kernel_rfl) (by kernel_rfl) (fun _ _ _ h => h) (yieldsIf_load_mid (by rfl) _ _ rfl _ _ rfl _ _ (by intro w hSw; (try dsimp only at hSw); go_split_ands; assumption) (by assumption) rfl (by first | assumption | (simp only [*]; done))) (by assumption) ?_
          try simp only [Act.put, List.setIfInBounds_toArray, List.set_cons_zero, List.set_cons_succ]
          refine wpAnyH_take (i := 5) (oi := { dst := some 56, op := Op.build 49 #[(0, Operand.tmp 51), (1, Operand.tmp 55)], type := 49, pos := "law.go:146", after := #[{ on := 0, ground := Ground.data }, { on := 4, ground := Ground.data }], guard := none }) (v := _) rfl (by kernel_rfl) (by kernel_rfl) (by kernel_rfl) (fun _ _ _ h => h) (yields_build_pair rfl _ _ rfl rfl rfl lx lp) (by assumption) ?_
          try simp only [Act.put, List.setIfInBounds_toArray, List.set_cons_zero, List.set_cons_succ]
          refine wpAnyH_ready (rs := [6]) (by kernel_rfl) (by simp) (AllReadyH.cons (o := { dst := some 13, op := Op.alloc 49, type := 0, pos := "law.go:146", after := #[], guard := none }) rfl (fun K hK => ?_) (AllReadyH.nil))
          go_simp
          have hOld := hHeld
          refine hK.out _ _ ?_ (fun hHeld => ?_)
          · (try dsimp only); (go_split_ands; (repeat' apply And.intro) <;> first | assumption | exact Mine.call (by assumption) (by assumption) | exact Mine.alloc (by assumption) _ | exact Mine.setCells (by assumption) _ _ _ (by omega) | exact Mine.callN (by assumption) (by assumption) (by omega) | exact Row.belowN (by assumption) (by assumption) (by omega) | exact there_belowN (by assumption) (by assumption) (by omega) | exact rangeAt_below (by assumption) (by assumption) | exact World.rangeAt_alloc (by assumption) _ | exact World.rangeAt_setCells_apart (by assumption) _ _ _ (Or.inl (by omega)) | exact there_below (by assumption) (by assumption) | exact World.there_alloc (by assumption) _ | exact World.there_setCells (by assumption) _ _ _ | exact Row.belowS (by assumption) (by assumption) | exact Row.alloc (by assumption) _ | exact Row.setCells (by assumption) _ _ (by omega) | exact HS.below (by assumption) (by assumption) | exact SB.below (by assumption) (by assumption) | exact HS.alloc (by assumption) _ | exact Box.call (by assumption) (by assumption) | exact Box.alloc (by assumption) _ | exact Box.put (by assumption) _ (by assumption) | exact OHP.alloc (by assumption) _ | exact OHP.below (by assumption) (by assumption) | exact OHP.put (by assumption) _ _ (by omega) | exact Kept.call (by assumption) (by assumption) | exact Kept.alloc (by assumption) _ | exact Kept.setCells (by assumption) _ _ _ (by omega) | exact World.rangeAt_drew _ _ _ _ | exact cell_below (by assumption) (by assumption) | exact Lib.cell?_alloc_some _ (by assumption))
          clear hK K
          try simp only [Act.put, List.setIfInBounds_toArray, List.set_cons_zero, List.set_cons_succ]
          obtain ⟨G, hG⟩ : ∃ B, wr.heap.size = B := ⟨_, rfl⟩
          try rw [hG]
          refine wpAnyH_with (E := fun w' => w'.there G 0 64 ∧ BW ≤ G) (by (try dsimp only); refine ⟨?_, ?_⟩ <;> rw [← hG] <;> first | exact pair_there _ | exact (World.there_drew _ _ _ _).2 (pair_there _) | assumption | (first | exact Nat.le_of_eq HBW.out.symm | omega)) hHeld (fun hHeld => ?_)
          try dsimp only at hHeld
          have hPre := hHeld
          refine wpAnyH_ready (rs := [7]) (by kernel_rfl) (by simp) (AllReadyH.cons (o := { dst := none, op := Op.store 49 (Operand.tmp 13) (Operand.tmp 56), type := 0, pos := "law.go:146", after := #[{ on := 6, ground := Ground.data }, { on := 5, ground := Ground.data }, { on := 0, ground := Ground.phase }, { on := 1, ground := Ground.phase }, { on := 2, ground := Ground.phase }, { on := 3, ground := Ground.phase }, { on := 4, ground := Ground.phase }, { on := 5, ground := Ground.phase }, { on := 6, ground := Ground.phase }], guard := none }) rfl (fun K hK => ?_) AllReadyH.nil)
          rw [if_pos (by rfl)]
          refine wp_store_mid _ _ _ rfl _ _ (List.toArray _) rfl rfl (by go_split_ands; first | assumption | (simp only [List.size_toArray, *] <;> assumption)) (by first | assumption | (simp only [List.size_toArray] <;> assumption) | (simp only [List.size_toArray, *]; done)) (all_oneCell_toArray (by assumption)) ?_
          simp only [Act.put, List.setIfInBounds_toArray, List.set_cons_zero, List.set_cons_succ, List.toList_toArray]
          refine hK.out _ _ ?_ (fun hHeld => ?_)
          · (try dsimp only); (go_split_ands; (repeat' apply And.intro) <;> first | assumption | exact Mine.call (by assumption) (by assumption) | exact Mine.alloc (by assumption) _ | exact Mine.setCells (by assumption) _ _ _ (by omega) | exact Mine.callN (by assumption) (by assumption) (by omega) | exact Row.belowN (by assumption) (by assumption) (by omega) | exact there_belowN (by assumption) (by assumption) (by omega) | exact rangeAt_below (by assumption) (by assumption) | exact World.rangeAt_alloc (by assumption) _ | exact World.rangeAt_setCells_apart (by assumption) _ _ _ (Or.inl (by omega)) | exact there_below (by assumption) (by assumption) | exact World.there_alloc (by assumption) _ | exact World.there_setCells (by assumption) _ _ _ | exact Row.belowS (by assumption) (by assumption) | exact Row.alloc (by assumption) _ | exact Row.setCells (by assumption) _ _ (by omega) | exact HS.below (by assumption) (by assumption) | exact SB.below (by assumption) (by assumption) | exact HS.alloc (by assumption) _ | exact Box.call (by assumption) (by assumption) | exact Box.alloc (by assumption) _ | exact Box.put (by assumption) _ (by assumption) | exact OHP.alloc (by assumption) _ | exact OHP.below (by assumption) (by assumption) | exact OHP.put (by assumption) _ _ (by omega) | exact Kept.call (by assumption) (by assumption) | exact Kept.alloc (by assumption) _ | exact Kept.setCells (by assumption) _ _ _ (by omega) | exact World.rangeAt_drew _ _ _ _ | exact cell_below (by assumption) (by assumption) | exact Lib.cell?_alloc_some _ (by assumption))
          clear hK K
          refine wpAnyH_done (by kernel_rfl) ?_ _
          refine NoPanic.normal ?_
          have hrg := World.rangeAt_setCells_same _ G 0 (ax ++ ap) (by rw [l2]; exact hPre.2.1)
          have hm1 := hHeld.1.1
          have ht1 := hHeld.2.1
          have hlo := hHeld.2.2
          have hb1 := cellB HBC.out (by rw [HBW.out]; exact hm1.bel)
          have ha1 := hHeld.1.2.1
          have hp1 := hHeld.1.2.2
          generalize World.setCells _ G 0 (ax ++ ap) = w1 at hrg hm1 ht1 hlo hb1 ha1 hp1 ⊢
          clear hHeld hPre hOld
          cases b with
          | true =>
            go_wp2_with fail
            refine wp_region_noPanic ?_
            refine wp_region_held_drew (S := (fun w' => Mine BW wr w' ∧ (w'.rangeAt A 0 ax ∧ w'.rangeAt g (o + k * 32) ap) ∧ w'.there G 0 64)) (by kernel_rfl) ?_ (fun hHeld => ?_)
            · exact ⟨⟨hm1.le, hm1.bel.drew⟩, ⟨(World.rangeAt_drew _ _ _ _).2 ha1, (World.rangeAt_drew _ _ _ _).2 hp1⟩, (World.there_drew _ _ _ _).2 ht1⟩
            refine wpAnyH_take (i := 0) (oi := { dst := some 65, op := Op.move (Operand.tmp 3), type := 29, pos := "law.go:148", after := #[], guard := none }) (v := ?v0_3) rfl (by kernel_rfl) (by kernel_rfl) (by kernel_rfl) (fun _ _ _ h => h) (Or.inl ⟨by rfl, ?y0_3⟩) (by assumption) ?r0_3
            case y0_3 => intro w hSw; (try dsimp only at hSw); go_simp; try with_reducible rfl
            try simp only [Act.put, List.setIfInBounds_toArray, List.set_cons_zero, List.set_cons_succ]
            refine wpAnyH_take (i := 1) (oi := { dst := some 66, op := Op.move (Operand.tmp 12), type := 3, pos := "law.go:148", after := #[], guard := none }) (v := ?v1_4) rfl (by kernel_rfl) (by kernel_rfl) (by kernel_rfl) (fun _ _ _ h => h) (Or.inl ⟨by rfl, ?y1_4⟩) (by assumption) ?r1_4
            case y1_4 => intro w hSw; (try dsimp only at hSw); go_simp; try with_reducible rfl
            try simp only [Act.put, List.setIfInBounds_toArray, List.set_cons_zero, List.set_cons_succ]
            refine wpAnyH_take (i := 2) (oi := { dst := some 67, op := Op.indexAddr 29 (Operand.tmp 65) (Operand.tmp 66), type := 0, pos := "law.go:148", after := #[{ on := 0, ground := Ground.data }, { on := 1, ground := Ground.data }], guard := none }) (v := ?v2_5) rfl (by kernel_rfl) (by kernel_rfl) (by kernel_rfl) (fun _ _ _ h => h) (Or.inl ⟨by rfl, ?y2_5⟩) (by assumption) ?r2_5
            case y2_5 => intro w hSw; (try dsimp only at hSw); go_simp; try with_reducible rfl
            try simp only [Act.put, List.setIfInBounds_toArray, List.set_cons_zero, List.set_cons_succ]
            refine wpAnyH_take (i := 3) (oi := { dst := some 68, op := Op.load 24 (Operand.tmp 67), type := 24, pos := "law.go:148", after := #[{ on := 2, ground := Ground.data }], guard := none }) (v := _) rfl (by kernel_rfl) (by kernel_rfl) (by kernel_rfl) (fun _ _ _ h => h) (yieldsIf_load_mid (by rfl) _ _ rfl _ _ rfl _ _ (by intro w hSw; (try dsimp only at hSw); go_split_ands; assumption) (by assumption) rfl (by first | assumption | (simp only [*]; done))) (by assumption) ?_
            try simp only [Act.put, List.setIfInBounds_toArray, List.set_cons_zero, List.set_cons_succ]
            refine wpAnyH_take (i := 4) (oi := { dst := some 69, op := Op.load 24 (Operand.tmp 6), type := 24, pos := "law.go:148", after := #[], guard := none }) (v := _) rfl (by kernel_rfl) (by kernel_rfl) (by kernel_rfl) (fun _ _ _ h => h) (yieldsIf_load_mid (by rfl) _ _ rfl _ _ rfl _ _ (by intro w hSw; (try dsimp only at hSw); go_split_ands; assumption) (by assumption) rfl (by first | assumption | (simp only [*]; done))) (by assumption) ?_
            try simp only [Act.put, List.setIfInBounds_toArray, List.set_cons_zero, List.set_cons_succ]
            refine wpAnyH_take (i := 5) (oi := { dst := some 70, op := Op.build 49 #[(0, Operand.tmp 68), (1, Operand.tmp 69)], type := 49, pos := "law.go:148", after := #[{ on := 3, ground := Ground.data }, { on := 4, ground := Ground.data }], guard := none }) (v := _) rfl (by kernel_rfl) (by kernel_rfl) (by kernel_rfl) (fun _ _ _ h => h) (yields_build_pair rfl _ _ rfl rfl rfl lp lx) (by assumption) ?_
            try simp only [Act.put, List.setIfInBounds_toArray, List.set_cons_zero, List.set_cons_succ]
            have hPre := hHeld
            refine wpAnyH_ready (rs := [6]) (by kernel_rfl) (by simp) (AllReadyH.cons (o := { dst := none, op := Op.store 49 (Operand.tmp 13) (Operand.tmp 70), type := 0, pos := "law.go:148", after := #[{ on := 5, ground := Ground.data }, { on := 0, ground := Ground.phase }, { on := 1, ground := Ground.phase }, { on := 2, ground := Ground.phase }, { on := 3, ground := Ground.phase }, { on := 4, ground := Ground.phase }, { on := 5, ground := Ground.phase }], guard := none }) rfl (fun K hK => ?_) AllReadyH.nil)
            rw [if_pos (by rfl)]
            refine wp_store_mid _ _ _ rfl _ _ (List.toArray _) rfl rfl (by go_split_ands; first | assumption | (simp only [List.size_toArray, *] <;> assumption)) (by first | assumption | (simp only [List.size_toArray] <;> assumption) | (simp only [List.size_toArray, *]; done)) (all_oneCell_toArray (by assumption)) ?_
            simp only [Act.put, List.setIfInBounds_toArray, List.set_cons_zero, List.set_cons_succ, List.toList_toArray]
            refine hK.out _ _ ?_ (fun hHeld => ?_)
            · (try dsimp only); (go_split_ands; (repeat' apply And.intro) <;> first | assumption | exact Mine.call (by assumption) (by assumption) | exact Mine.alloc (by assumption) _ | exact Mine.setCells (by assumption) _ _ _ (by omega) | exact Mine.callN (by assumption) (by assumption) (by omega) | exact Row.belowN (by assumption) (by assumption) (by omega) | exact there_belowN (by assumption) (by assumption) (by omega) | exact rangeAt_below (by assumption) (by assumption) | exact World.rangeAt_alloc (by assumption) _ | exact World.rangeAt_setCells_apart (by assumption) _ _ _ (Or.inl (by omega)) | exact there_below (by assumption) (by assumption) | exact World.there_alloc (by assumption) _ | exact World.there_setCells (by assumption) _ _ _ | exact Row.belowS (by assumption) (by assumption) | exact Row.alloc (by assumption) _ | exact Row.setCells (by assumption) _ _ (by omega) | exact HS.below (by assumption) (by assumption) | exact SB.below (by assumption) (by assumption) | exact HS.alloc (by assumption) _ | exact Box.call (by assumption) (by assumption) | exact Box.alloc (by assumption) _ | exact Box.put (by assumption) _ (by assumption) | exact OHP.alloc (by assumption) _ | exact OHP.below (by assumption) (by assumption) | exact OHP.put (by assumption) _ _ (by omega) | exact Kept.call (by assumption) (by assumption) | exact Kept.alloc (by assumption) _ | exact Kept.setCells (by assumption) _ _ _ (by omega) | exact World.rangeAt_drew _ _ _ _ | exact cell_below (by assumption) (by assumption) | exact Lib.cell?_alloc_some _ (by assumption))
            clear hK K
            refine wpAnyH_done (by kernel_rfl) ?_ _
            refine NoPanic.normal ?_
            have hrg2 := World.rangeAt_setCells_same _ G 0 (ap ++ ax) (by rw [l3]; exact hPre.2.2)
            have hm2 := hHeld.1
            generalize World.setCells _ G 0 (ap ++ ax) = w2 at hrg2 hm2 ⊢
            clear hHeld hPre hrg hm1 ht1 hb1 ha1 hp1
            have hrg := hrg2
            clear hrg2
            have hok : ok2 (p, x) := ⟨HP32.out, HX32.out⟩
            have he2 : enc2 (p, x) = ap ++ ax := by unfold enc2; rw [HAP.out, HAX.out]
            have hh := Row_split hrg lp
            have hm2b : Below wr.heap.size wr w2 := by rw [HBW.out]; exact hm2.bel
            have hkp2 := HKP.out.call hm2b
            have hro2 := HROW.out.belowS hm2b
            have hou2 := HOUT.out.below hm2b
            have hGlt : G < w2.heap.size := by
              obtain ⟨u, hu⟩ : ∃ u, (ap ++ ax)[0]? = some u := ⟨_, List.getElem?_eq_getElem (by rw [l3]; omega)⟩
              exact World.block_lt_of_cell? w2 _ (hrg 0 u hu)
            have hown : ∀ q, (Value.slice A3 acp.length c3).ownBlock = some q → q < BW := fun q hq => by rw [← HBW.out]; exact HOUT.out.lt q hq
            have hnode := fun w' => qnode_any p x HP32.out HX32.out w'
            have hnx := HNX.out
            obtain ⟨nd, hnd⟩ : ∃ nd, nodeL p x = nd := ⟨_, rfl⟩
            have hnd32 : nd.length = 32 := by rw [← hnd]; exact nodeL_length _ _
            have hnx2 : clb acc.reverse ps leaf (k + 1) = nd := by rw [hnx]; exact hnd
            simp only [hnd, HAP.out, HAX.out] at hnode
            have ind := info32 nd hnd32
            obtain ⟨an, han⟩ : ∃ an, enc8 nd = an := ⟨_, rfl⟩
            have lan : an.length = 32 := by rw [← han, enc8_len, hnd32]
            have fan : an.toArray.all (·.oneCell') = true := by rw [← han]; exact enc8_all nd
            simp only [han] at hnode
            rw [han] at ind
            have HNODE := Lib.hid hnode
            have HNX2 := Lib.hid hnx2
            have HAN := Lib.hid han
            have HOK := Lib.hid hok
            have HE2 := Lib.hid he2
            have HRG := Lib.hid hrg
            have HK2 := Lib.hid hkp2
            have HR2 := Lib.hid hro2
            have HO2 := Lib.hid hou2
            have HM2 := Lib.hid hm2
            have HOWN := Lib.hid hown
            have HIND := Lib.hid ind
            have HLAN := Lib.hid lan
            have HFAN := Lib.hid fan
            clear hm2b hok he2 hkp2 hro2 hou2 hown hnode hnx hnx2 hnd han hrg hm2 ind lan fan hh
            go_wp2_with (first
              | (refine Row.pload HRG.out rfl (.tmp 13) rfl rfl i3 ?_)
              | (refine wpP_build rfl 1 _ rfl [ap ++ ax] (by intro v hv; rw [List.mem_singleton.1 hv]; exact l3) rfl (by decide) (by decide) (by rw [Array.toList_map]; rfl) ?_; rw [show ([ap ++ ax] : List (List Value)).flatMap id = ap ++ ax by simp])
              | (at_builtin; refine wpP_append rfl (.tmp 71) (.tmp 73) rfl B _ acp w2.heap.size 49 (p, x) 1 rfl (HO2.out.alloc _) rfl (by rw [HE2.out]; exact Row.new w2 (ap ++ ax).toArray 49) HOK.out (by have := HPL.out; have := HML.out; omega) (by have := HK2.out.le; rw [alloc_size]; omega) ?_; intro v3 w3 hown3 hgrow3 hb3; obtain ⟨acn, hacn⟩ : ∃ q, acp ++ [(p, x)] = q := ⟨_, rfl⟩; rw [hacn] at hown3; have HACN := Lib.hid hacn; have hGne : some G ≠ (Value.slice A3 acp.length c3).ownBlock := fun e => (by have := HOWN.out G e.symm; omega); have hG3 : w3.heap[G]? = w2.heap[G]? := (hgrow3.block G (by rw [alloc_size]; omega) hGne).trans (heap_alloc_old _ _ _ hGlt); have hrg3 := rangeAt_heap HRG.out hG3; have hhs := Row_split hrg3 lp; have hr3 := Row.belowN hb3 (HR2.out.alloc (.cells (ap ++ ax).toArray 49)) (show A < B by omega); have hk3 := (HK2.out.alloc (.cells (ap ++ ax).toArray 49)).callN hb3; have HH1 := Lib.hid hhs.1; have HH2 := Lib.hid hhs.2; have HR3 := Lib.hid hr3; have HK3 := Lib.hid hk3; have HO3 := Lib.hid hown3; clear hown3 hgrow3 hb3 hGne hG3 hrg3 hhs hr3 hk3; obtain ⟨A5, c5, rfl, -, -, -⟩ := HO3.out.form; clear hacn)
              | (refine hload HH1.out rfl (.tmp 75) rfl rfl ip ?_)
              | (refine hload HH2.out rfl (.tmp 77) rfl rfl ix ?_))
            refine (HNODE.out _).mono ?_
            rintro e w4 ⟨rfl, hb4⟩
            have hr4 := HR3.out.belowS hb4
            have HR4 := Lib.hid hr4
            have HRS := Lib.hid (hr4.setRow an)
            have HKS := Lib.hid ((HK3.out.call hb4).setRow an.toArray)
            have ho4 := HO3.out.below hb4
            have HOS : Hid (OHP (w4.setRow A an.toArray) B (.slice A5 acn.length c5) acn) := ho4.other A (fun q hq => heap_setRow_ne w4 A q _ hq) (fun q hq => by have := (ho4.2.lt q hq).1; omega)
            clear hb4 hr4 ho4
            go_wp2_with (refine HR4.out.store (m := an) rfl 24 (.tmp 6) (.tmp 79) rfl rfl rfl HIND.out (by rw [lx, HLAN.out]) HFAN.out ?_)
            go_roundw
            case rel => exact ⟨k + 1, ⟨by first | rfl | go_num, by omega⟩, by have h1 := HSN.out; simp only [if_true, Bool.false_eq_true, if_false, HACN.out] at h1; rw [h1]; exact HOS.out, by rw [HNX2.out, HAN.out]; exact HRS.out, HKS.out⟩
            case measure => simp [intOf]; omega
          | false =>
            obtain ⟨w2, rfl⟩ : ∃ w2, w2 = w1 := ⟨_, rfl⟩
            have hm2 := hm1
            clear ht1 ha1 hp1 hm1
            have hok : ok2 (x, p) := ⟨HX32.out, HP32.out⟩
            have he2 : enc2 (x, p) = ax ++ ap := by unfold enc2; rw [HAX.out, HAP.out]
            have hh := Row_split hrg lx
            have hm2b : Below wr.heap.size wr w2 := by rw [HBW.out]; exact hm2.bel
            have hkp2 := HKP.out.call hm2b
            have hro2 := HROW.out.belowS hm2b
            have hou2 := HOUT.out.below hm2b
            have hGlt : G < w2.heap.size := by
              obtain ⟨u, hu⟩ : ∃ u, (ax ++ ap)[0]? = some u := ⟨_, List.getElem?_eq_getElem (by rw [l2]; omega)⟩
              exact World.block_lt_of_cell? w2 _ (hrg 0 u hu)
            have hown : ∀ q, (Value.slice A3 acp.length c3).ownBlock = some q → q < BW := fun q hq => by rw [← HBW.out]; exact HOUT.out.lt q hq
            have hnode := fun w' => qnode_any x p HX32.out HP32.out w'
            have hnx := HNX.out
            obtain ⟨nd, hnd⟩ : ∃ nd, nodeL x p = nd := ⟨_, rfl⟩
            have hnd32 : nd.length = 32 := by rw [← hnd]; exact nodeL_length _ _
            have hnx2 : clb acc.reverse ps leaf (k + 1) = nd := by rw [hnx]; exact hnd
            simp only [hnd, HAX.out, HAP.out] at hnode
            have ind := info32 nd hnd32
            obtain ⟨an, han⟩ : ∃ an, enc8 nd = an := ⟨_, rfl⟩
            have lan : an.length = 32 := by rw [← han, enc8_len, hnd32]
            have fan : an.toArray.all (·.oneCell') = true := by rw [← han]; exact enc8_all nd
            simp only [han] at hnode
            rw [han] at ind
            have HNODE := Lib.hid hnode
            have HNX2 := Lib.hid hnx2
            have HAN := Lib.hid han
            have HOK := Lib.hid hok
            have HE2 := Lib.hid he2
            have HRG := Lib.hid hrg
            have HK2 := Lib.hid hkp2
            have HR2 := Lib.hid hro2
            have HO2 := Lib.hid hou2
            have HM2 := Lib.hid hm2
            have HOWN := Lib.hid hown
            have HIND := Lib.hid ind
            have HLAN := Lib.hid lan
            have HFAN := Lib.hid fan
            clear hm2b hok he2 hkp2 hro2 hou2 hown hnode hnx hnx2 hnd han hrg hm2 ind lan fan hh
            go_wp2_with (first
              | (refine Row.pload HRG.out rfl (.tmp 13) rfl rfl i2 ?_)
              | (refine wpP_build rfl 1 _ rfl [ax ++ ap] (by intro v hv; rw [List.mem_singleton.1 hv]; exact l2) rfl (by decide) (by decide) (by rw [Array.toList_map]; rfl) ?_; rw [show ([ax ++ ap] : List (List Value)).flatMap id = ax ++ ap by simp])
              | (at_builtin; refine wpP_append rfl (.tmp 71) (.tmp 73) rfl B _ acp w2.heap.size 49 (x, p) 1 rfl (HO2.out.alloc _) rfl (by rw [HE2.out]; exact Row.new w2 (ax ++ ap).toArray 49) HOK.out (by have := HPL.out; have := HML.out; omega) (by have := HK2.out.le; rw [alloc_size]; omega) ?_; intro v3 w3 hown3 hgrow3 hb3; obtain ⟨acn, hacn⟩ : ∃ q, acp ++ [(x, p)] = q := ⟨_, rfl⟩; rw [hacn] at hown3; have HACN := Lib.hid hacn; have hGne : some G ≠ (Value.slice A3 acp.length c3).ownBlock := fun e => (by have := HOWN.out G e.symm; omega); have hG3 : w3.heap[G]? = w2.heap[G]? := (hgrow3.block G (by rw [alloc_size]; omega) hGne).trans (heap_alloc_old _ _ _ hGlt); have hrg3 := rangeAt_heap HRG.out hG3; have hhs := Row_split hrg3 lx; have hr3 := Row.belowN hb3 (HR2.out.alloc (.cells (ax ++ ap).toArray 49)) (show A < B by omega); have hk3 := (HK2.out.alloc (.cells (ax ++ ap).toArray 49)).callN hb3; have HH1 := Lib.hid hhs.1; have HH2 := Lib.hid hhs.2; have HR3 := Lib.hid hr3; have HK3 := Lib.hid hk3; have HO3 := Lib.hid hown3; clear hown3 hgrow3 hb3 hGne hG3 hrg3 hhs hr3 hk3; obtain ⟨A5, c5, rfl, -, -, -⟩ := HO3.out.form; clear hacn)
              | (refine hload HH1.out rfl (.tmp 75) rfl rfl ix ?_)
              | (refine hload HH2.out rfl (.tmp 77) rfl rfl ip ?_))
            refine (HNODE.out _).mono ?_
            rintro e w4 ⟨rfl, hb4⟩
            have hr4 := HR3.out.belowS hb4
            have HR4 := Lib.hid hr4
            have HRS := Lib.hid (hr4.setRow an)
            have HKS := Lib.hid ((HK3.out.call hb4).setRow an.toArray)
            have ho4 := HO3.out.below hb4
            have HOS : Hid (OHP (w4.setRow A an.toArray) B (.slice A5 acn.length c5) acn) := ho4.other A (fun q hq => heap_setRow_ne w4 A q _ hq) (fun q hq => by have := (ho4.2.lt q hq).1; omega)
            clear hb4 hr4 ho4
            go_wp2_with (refine HR4.out.store (m := an) rfl 24 (.tmp 6) (.tmp 79) rfl rfl rfl HIND.out (by rw [lx, HLAN.out]) HFAN.out ?_)
            go_roundw
            case rel => exact ⟨k + 1, ⟨by first | rfl | go_num, by omega⟩, by have h1 := HSN.out; simp only [if_true, Bool.false_eq_true, if_false, HACN.out] at h1; rw [h1]; exact HOS.out, by rw [HNX2.out, HAN.out]; exact HRS.out, HKS.out⟩
            case measure => simp [intOf]; omega
        · obtain rfl : k = m := by omega
          have d1 : decide ((k : Int) < (k : Int)) = false := by simp
          have HO := Lib.hid hout.out
          have HBB : Hid (Below A w wr) := HKB.out.trans hkept.out.bel
          clear hout hrow hkept hal'
          go_wp2
          go_ret
          exact ⟨_, rfl, OHP.mono HO.out (by omega), HBB.out⟩
end Go.Proofs.Ytkipnhhdlohnfaa
