/- Or; PostingMerges, PostingSets, PostingLaws. -/
import Derived.RangeFuncNested
import Derived.RangeFuncBound
import Derived.RangeFuncCalls
import Derived.RangeFuncLeaves
import Derived.Shelf.Abstract
import Derived.Shelf.RegionOpen
import Derived.WalkKit
import Derived.OwnWalkIn
import Derived.TacticsInMore
import Derived.LoopNIn
import Derived.LoopIn
import Derived.Outline
import Derived.Lib.Hide
import Derived.Lib.SliceRun
import Derived.IntWalk
import Derived.WalkLawsBesides
import Derived.WalkSpells
import Derived.Laws.BitsAllLaws
import Derived.Lib.ConvBytes
import Derived.Maps.AppendAt
import Derived.Lib.AppendStr
import Derived.Lib.SlBytesConst
import Derived.Laws.AppendOwnNone
import Derived.Laws.OwnMore
import Derived.Laws.BytesArg
import Derived.Deep.RegionHeld3
import Derived.BigQuiet
import Derived.Deep.RegionLaw
import Derived.Deep.QuietTactic
import Derived.Lib.OthersKept
import Derived.Test.YtlgodokgebjjaaaProg
import Derived.Deep.DeepFit
import Derived.Test.YtlgodokgebjjaaaPoH
import Derived.Test.YtlgodokgebjjaaaPoO
set_option linter.unusedVariables false
set_option linter.unusedSimpArgs false
namespace Go.Proofs.Ytlgodokgebjjaaa
open Go Go.RowKit Go.Shelf

theorem totF_start (ls : LL) : totF (startF ls) ≤ totF ls := by
  unfold startF totF
  induction ls with
  | nil => simp
  | cons l ls ih =>
    rw [List.filter_cons]
    split
    · have := srtI_len l
      simp only [List.map_cons, List.sum_cons]
      omega
    · simp only [List.map_cons, List.sum_cons]
      omega
theorem totF_few (ls : LL) (h : ∀ l ∈ ls, l.length ≤ 100) : totF ls ≤ 100 * ls.length := by
  unfold totF
  induction ls with
  | nil => simp
  | cons l ls ih =>
    have := h l (by simp)
    have := ih (fun x hx => h x (List.mem_cons_of_mem _ hx))
    simp only [List.map_cons, List.sum_cons, List.length_cons]
    omega
theorem both_len (a b : List Int) (h : Bool) (n : Nat) (ha : a.length ≤ n) : (both a b h).length ≤ n := by
  unfold both
  have := List.length_filter_le (fun n => decide (n ∈ b) == h) (srtI a)
  have := srtI_len a
  omega
theorem or_len (a b : List Int) (n m k : Nat) (ha : a.length ≤ n) (hb : b.length ≤ m) (hk : n + m ≤ k) : (srtI (a ++ b)).length ≤ k := by
  have := srtI_len (a ++ b)
  rw [List.length_append] at this
  omega
theorem wpN_any {w : World} {ops : Array Oper} {rest : List Oper} {o : Oper} {a : Act} {Q : Exit → Act → World → Prop} (hgd : o.guard = none) (s x : Operand)
    (ho : o.op = .call { callee := .builtin .append, args := #[s, x], argTypes := #[34, 34] })
    (base : Nat) (v xv : Value) (ss m : List Int) (hs : a.eval s = v) (hown : ON w base v ss) (hx : a.eval x = xv) (hm : NS w xv m) (hlen : ss.length + m.length ≤ 1000000) (hbase : base ≤ w.heap.size)
    (h : ∀ v' w', ON w' base v' (ss ++ m) → w.grownBy w' v.ownBlock → Below base w w' → wpList Try.prog ops Q rest (a.put o.dst v') w') : wpList Try.prog ops Q (o :: rest) a w := by
  refine wpList_plain hgd fun K hK => ?_
  obtain ⟨v', w', hrun, h1, h2, h3⟩ := runN_any o.type base v xv ss m hown hm hlen hbase
  unfold Oper.wp
  simp [execOp, ho, resolve, invoke, builtin, hs, hx, hrun, Result.andThen]
  exact hK _ _ (h v' w' h1 h2 h3)
theorem SI_two (w : World) (va vb : Value) (a b : List Int) (ha : NS w va a) (hb : NS w vb b) : SI (w.alloc (.cells #[va, vb] 34)) (.slice (some ⟨w.heap.size, 0, none⟩) 2 2) [a, b] :=
  SI_lit w [va, vb] [a, b] 2 rfl _ rfl (by simp) (fun i hi => by
    match i, hi with
    | 0, _ => exact ha
    | 1, _ => exact hb)
theorem SI_three (w : World) (va vb vc : Value) (a b c : List Int) (ha : NS w va a) (hb : NS w vb b) (hc : NS w vc c) : SI (w.alloc (.cells #[va, vb, vc] 34)) (.slice (some ⟨w.heap.size, 0, none⟩) 3 3) [a, b, c] :=
  SI_lit w [va, vb, vc] [a, b, c] 3 rfl _ rfl (by simp) (fun i hi => by
    match i, hi with
    | 0, _ => exact ha
    | 1, _ => exact hb
    | 2, _ => exact hc)
set_option maxRecDepth 100000 in
set_option maxHeartbeats 2000000 in
/-- **Or** -/
theorem or18_any (va vb : Value) (a b : List Int) (w : World) (ha : NS w va a) (hb : NS w vb b) (hla : a.length ≤ 10000) (hlb : b.length ≤ 10000) :
    Calls Try.prog 38 #[va, vb] w fun e w' => ∃ u, e = .returned u ∧ ON w' w.heap.size u (srtI (a ++ b)) ∧ Below w.heap.size w w' := by
  have hm := merge_any _ [a, b] _ (by simp) (fun l hl => by simp at hl; rcases hl with rfl | rfl <;> omega) (by have := totF_start [a, b]; have e : totF [a, b] = a.length + b.length := (by simp [totF]); omega) (SI_two w va vb a b ha hb)
  have ef : [a, b].flatten = a ++ b := by simp
  rw [ef] at hm
  have H1 := Lib.hid hm
  obtain ⟨A1, c1, rfl, -, -⟩ := id ha
  obtain ⟨A2, c2, rfl, -, -⟩ := id hb
  obtain ⟨n1, hn1⟩ : ∃ n, a.length = n := ⟨_, rfl⟩
  obtain ⟨n2, hn2⟩ : ∃ n, b.length = n := ⟨_, rfl⟩
  rw [hn1, hn2] at H1 ⊢
  have hba : Below w.heap.size w (w.alloc (.cells #[.slice A1 n1 c1, .slice A2 n2 c2] 34)) := (Below.refl _ _).alloc (Nat.le_refl _) _
  have HBA := Lib.hid hba
  clear hm ha hb hla hlb hn1 hn2 hba
  go_enter Try.func38, Try.ntmps38
  go_wp2_with fail
  refine H1.out.mono ?_
  rintro e w1 ⟨u, rfl, ho, hb1⟩
  have HO := Lib.hid (ho.mono HBA.out.size)
  have HB1 := Lib.hid (HBA.out.trans (hb1.mono HBA.out.size))
  clear ho hb1
  go_wp2
  go_ret
  exact ⟨_, rfl, HO.out, HB1.out⟩
set_option maxRecDepth 100000 in
set_option maxHeartbeats 4000000 in
theorem postingMerges_walk (v : Value) (ls : LL) (w : World) (h : SI w v ls) :
    Calls Try.prog 11 #[v] w fun e w' => e = .returned (.bool true) ∧ Below w.heap.size w w' := by
  obtain ⟨A, c, rfl, -, -⟩ := id h
  obtain ⟨n, hn⟩ : ∃ n, ls.length = n := ⟨_, rfl⟩
  obtain ⟨B, hB⟩ : ∃ B, w.heap.size = B := ⟨_, rfl⟩
  have haw := awake18_any w
  have hs := fun w' (hb : Below B w w') => h.below (hB ▸ hb)
  rw [hB] at haw ⊢
  rw [hn] at hs ⊢
  have HAW := Lib.hid haw
  have HS := Lib.hid hs
  have HB0 := Lib.hid hB
  have HN := Lib.hid hn
  clear h hB haw hs hn
  go_enter Try.func11, Try.ntmps11
  go_wp2_with fail
  refine HAW.out.mono ?_
  rintro e w1 ⟨rfl, hb1⟩
  have hn1 : B ≤ w1.heap.size := by rw [← HB0.out]; exact hb1.size
  have H1 := Lib.hid (few18_any (.slice A n c) ls w1 (HS.out _ hb1))
  have HB1 := Lib.hid hb1
  clear hb1
  go_wp2_with fail
  refine H1.out.mono ?_
  rintro e w2 ⟨rfl, hw2⟩
  rw [hw2]
  clear hw2
  cases hf : fewB ls
  · go_wp2
    go_ret
    exact ⟨rfl, HB1.out⟩
  · obtain ⟨hf1, hf2⟩ := (fewB_iff ls).1 hf
    have HF1 : Hid (n ≤ 20) := by show _ ≤ _; rw [← HN.out]; exact hf1
    have HF2 := Lib.hid hf2
    clear hf hf1 hf2 H1
    have hn20 : n ≤ 20 := HF1.out
    go_wp2
    go_loopw [13, 3] (fun i x wr => ∃ (k : Nat), (i = .int .i64 (k : Int) ∧ k ≤ n) ∧ ON wr w1.heap.size x (ls.take k).flatten ∧ (ls.take k).flatten.length ≤ 100 * k ∧ Mine w1.heap.size w1 wr) (fun i _ _ => n - (intOf i).toNat)
    case atStart => exact ⟨0, ⟨rfl, Nat.zero_le _⟩, ON.nil _ _, by simp, Mine.refl w1⟩
    case round =>
      obtain ⟨k, ⟨rfl, hk⟩, hown, hok, hmi⟩ := hrel
      by_cases hlt : k < n
      · have hkl : k < ls.length := by rw [HN.out]; exact hlt
        have hbw := HB1.out.trans (hmi.bel.mono hn1)
        obtain ⟨g, o, B1, d1, rfl, cl, hns⟩ := (HS.out _ hbw).at_ HN.out.symm k hkl
        have hll := HF2.out _ (List.getElem_mem hkl)
        have hsn : (ls.take (k + 1)).flatten = (ls.take k).flatten ++ ls[k] := by rw [List.take_succ_eq_append_getElem hkl, List.flatten_append]; simp
        obtain ⟨l, hl⟩ : ∃ l, ls[k] = l := ⟨_, rfl⟩
        rw [hl] at cl hns hll hsn
        obtain ⟨m, hm⟩ : ∃ m, l.length = m := ⟨_, rfl⟩
        obtain ⟨pr, hpr⟩ : ∃ pr, (ls.take k).flatten = pr := ⟨_, rfl⟩
        rw [hpr] at hown hok hsn
        rw [hm] at cl hns
        have d0 : decide (k < n) = true := decide_eq_true hlt
        have d1' : decide ((k : Int) < (n : Int)) = true := decide_eq_true (by omega)
        have k0 : (0 : Int) ≤ (k : Int) := by omega
        have k1 : (k : Int) < (n : Int) := by omega
        have HNS := Lib.hid hns
        have HO := Lib.hid hown
        have HM := Lib.hid hmi
        have HSN := Lib.hid hsn
        have HLN : Hid (pr.length + l.length ≤ 1000000 ∧ pr.length + l.length ≤ 100 * (k + 1)) := ⟨by omega, by omega⟩
        clear hns hown hmi hsn hl hpr hll hok hm hbw
        go_wp2_with (at_builtin; refine wpN_any rfl _ _ rfl w1.heap.size _ (.slice B1 m d1) pr l rfl HO.out rfl HNS.out HLN.out.1 HM.out.le ?_)
        intro v4 w4 ho4 _ hb4
        have HO4 := Lib.hid ho4
        have HM4 : Hid (Mine w1.heap.size w1 w4) := ⟨Nat.le_trans HM.out.le hb4.size, HM.out.bel.trans hb4⟩
        clear ho4 hb4
        go_wp2
        go_roundw
        case rel => exact ⟨k + 1, ⟨by go_num, by omega⟩, by rw [HSN.out]; exact HO4.out, by rw [HSN.out, List.length_append]; exact HLN.out.2, HM4.out⟩
        case measure => simp [intOf]; omega
      · have d0 : decide (k < n) = false := decide_eq_false hlt
        have d1' : decide ((k : Int) < (n : Int)) = false := decide_eq_false (by omega)
        rw [List.take_of_length_le (by rw [HN.out]; omega)] at hown hok
        have hb3 := HB1.out.trans (hmi.bel.mono hn1)
        have hn3 : B ≤ wr.heap.size := Nat.le_trans hn1 hmi.le
        have H3 := Lib.hid (merge_any (.slice A n c) ls wr (by rw [HN.out]; omega) (fun l hl => by have := HF2.out l hl; omega) (by have h1 := totF_start ls; have h2 := totF_few ls HF2.out; rw [HN.out] at h2; omega) (HS.out _ hb3))
        have HB3 := Lib.hid hb3
        have HO := Lib.hid hown
        have HL3 : Hid (ls.flatten.length ≤ 100000) := by show _ ≤ _; omega
        clear hown hmi hb3 hok
        go_wp2_with fail
        refine H3.out.mono ?_
        rintro e w4 ⟨u4, rfl, ho4, hb4⟩
        have HB4 := Lib.hid (HB3.out.trans (hb4.mono hn3))
        have hn4 := Nat.le_trans hn3 hb4.size
        have H4 := Lib.hid (qof_any _ ls.flatten w4 (by have := HL3.out; omega) (HO.out.reads.below hb4))
        have HU4 : Hid (∀ w', Below w4.heap.size w4 w' → NS w' u4 (srtI ls.flatten)) := fun w' hb => ho4.reads.below hb
        clear ho4 hb4
        go_wp2_with fail
        refine H4.out.mono ?_
        rintro e w5 ⟨u5, rfl, ho5, hb5⟩
        have HB5 := Lib.hid (HB4.out.trans (hb5.mono hn4))
        have hn5 := Nat.le_trans hn4 hb5.size
        have H5 := Lib.hid (same_any u4 u5 (srtI ls.flatten) w5 (HU4.out _ hb5) ho5.reads (by have := srtI_len ls.flatten; have := HL3.out; omega))
        clear ho5 hb5
        go_wp2_with fail
        refine H5.out.mono ?_
        rintro e w6 ⟨rfl, hb6⟩
        have HB6 := Lib.hid (HB5.out.trans (hb6.mono hn5))
        clear hb6
        go_wp2
        go_ret
        exact ⟨rfl, HB6.out⟩
end Go.Proofs.Ytlgodokgebjjaaa
