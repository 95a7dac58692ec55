/- merged: an iterator over numbers. -/
import Derived.RangeFuncNested
import Derived.RangeFuncBound
import Derived.RangeFuncCalls
import Derived.RangeFuncLeaves
import Derived.Shelf.Abstract
import Derived.Shelf.RegionOpen
import Derived.WalkKit
import Derived.OwnWalkIn
import Derived.TacticsInMore
import Derived.LoopNIn
import Derived.LoopIn
import Derived.Outline
import Derived.Lib.Hide
import Derived.Lib.SliceRun
import Derived.IntWalk
import Derived.WalkLawsBesides
import Derived.WalkSpells
import Derived.Laws.BitsAllLaws
import Derived.Lib.ConvBytes
import Derived.Maps.AppendAt
import Derived.Lib.AppendStr
import Derived.Lib.SlBytesConst
import Derived.Laws.AppendOwnNone
import Derived.Laws.OwnMore
import Derived.Laws.BytesArg
import Derived.Deep.RegionHeld3
import Derived.BigQuiet
import Derived.Deep.RegionLaw
import Derived.Deep.QuietTactic
import Derived.Lib.OthersKept
import Derived.Test.YtlgodokgebjjaaaProg
import Derived.Deep.DeepFit
import Derived.Test.YtlgodokgebjjaaaRange
import Derived.Test.YtlgodokgebjjaaaPtD
import Derived.Test.YtlgodokgebjjaaaPoM
set_option linter.unusedVariables false
set_option linter.unusedSimpArgs false
namespace Go.Proofs.Ytlgodokgebjjaaa
open Go Go.RowKit Go.Shelf
attribute [local go_sem] Oper.semAt_some

def EncI (x : Int) (az : Array Value) (M : Nat → Prop) (W : World) : Prop := az = #[.int .i64 x]
theorem x_fun18 (w : World) (ρ : Operand → Value) (o : Oper) (fn : Nat) (z : Operand) (u : Value) (ts : Array TypeId) (ho : o.op = .call { callee := .value (.func fn), args := #[z], argTypes := ts }) (hf : ρ (.func fn) = .func (.func fn) #[] #[]) (hz : ρ z = u) (he : ∀ args w, (callFunc fn args).run Try.prog w = .ok (.enter fn args) w) : (execOp ρ o).run Try.prog w = .ok (.enter fn #[u]) w := by
  have he := he #[u] w
  simp [execOp, ho, resolve, invoke, hf, hz, go_sem]
  exact he
theorem FR.below {W W' : World} {B : Nat} {v : Value} {vs : List Value} (h : FR W B v vs) (hb : Below W.heap.size W W') : FR W' B v vs :=
  World.ownsRow.kept (row := none) h ⟨hb.os, hb.tape, hb.output, hb.size, fun k hk _ => hb.block k hk⟩ (by cases v.ownBlock <;> simp)
theorem FR.alloc {W : World} {B : Nat} {v : Value} {vs : List Value} (h : FR W B v vs) (o : Obj) : FR (W.alloc o) B v vs := h.below ((Below.refl W.heap.size W).alloc (Nat.le_refl _) o)
theorem onecells (es : List El) (h : ∀ e ∈ es, ∃ A n c, e.1 = .slice A n c) : ∀ x ∈ es.map (·.1), x.oneCell' = true := by
  intro x hx
  obtain ⟨e, he, rfl⟩ := List.mem_map.1 hx
  obtain ⟨A, n, c, e'⟩ := h e he
  rw [e']; rfl
set_option maxRecDepth 100000 in
set_option maxHeartbeats 8000000 in
theorem merged1_seq (n₀ BL : Nat) (A : Option Addr) (c n : Nat) (ls : LL) (hnl : ls.length = n) (hls : n ≤ 1000) (hll : ∀ l ∈ ls, l.length ≤ 100000) (w₀ w : World) (hw : w₀.heap.size = n₀) (hbw : Below n₀ w₀ w) (hBL : n₀ ≤ BL) (hs : SI w₀ (.slice A n c) ls) (hbox : Boxed w BL 41 (.slice A n c)) :
    SeqD Try.prog n₀ 91 #[.pointer (some ⟨BL, 0, none⟩)] EncI (outM ls) (fun b => b = BL) w := by
  intro lp J Jx W D hDb hown hbel hn hJ hJx hY h0
  subst hw
  obtain ⟨hB1, hB2, hB3⟩ := hown BL rfl
  have hboxW : Boxed W BL 41 _ := hB3.trans hbox
  have hbW : Below w₀.heap.size w₀ W := hbw.trans hbel
  obtain ⟨B, hB⟩ : ∃ B, W.heap.size = B := ⟨_, rfl⟩
  have hc0 : n ≤ c := by obtain ⟨A', c', e, h1, -⟩ := hs; cases e; rw [← hnl]; exact h1.1
  have hU := hs.at_ hnl.symm
  have hbx0 : Boxed (W.alloc (.cells #[.slice none 0 0] 110)) B 110 (.slice none 0 0) := by rw [← hB]; exact Boxed.new _ _ _
  have hJ0 := hJ _ _ _ _ h0 (KeepOn.alloc w₀.heap.size D W (.cells #[.slice none 0 0] 110))
  have hb0 : Below w₀.heap.size w₀ (W.alloc (.cells #[.slice none 0 0] 110)) := hbW.alloc hn _
  have hn0 : w₀.heap.size ≤ B := by rw [← hB]; exact hn
  have hDB : ∀ b, D b → b < B := fun b h => by rw [← hB]; exact hDb b h
  have hsz1 : (W.alloc (.cells #[.slice none 0 0] 110)).heap.size = B + 1 := by rw [alloc_size, hB]
  have hf0 : HF (W.alloc (.cells #[.slice none 0 0] 110)) w₀.heap.size B ⟨D, fun _ => False, fun _ h => h.elim⟩ [] :=
by
    refine ⟨.slice none 0 0, hbx0, ⟨[], FR.nil _ _, rfl, fun e he => by simp at he⟩, fun r hr => by simp [Value.ownBlock] at hr, fun h => ?_, fun b h => ?_⟩
    · have := hDB B h; omega
    · have := hDB b h
      rw [hsz1]; omega
  have hcL := (hboxW.alloc (.cells #[.slice none 0 0] 110)).cell
  have HU := Lib.hid hU
  have HN := Lib.hid hnl
  have HLL := Lib.hid hll
  have HF0 := Lib.hid hf0
  have HJ0 := Lib.hid hJ0
  have HB0 := Lib.hid hb0
  have HY := Lib.hid hY
  have HJ := Lib.hid hJ
  have HDB := Lib.hid hDB
  clear hs hnl hll hU hbox hB3 hown hf0 hJ0 hb0 hbx0 hbW hbw hbel h0 hY hJx hJ hDB
  refine callsIn_of_wp Try.func91 rfl trivial ?_ rfl
  simp only [Try.ntmps91, List.size_toArray, List.length_cons, List.length_nil, Nat.reduceAdd, Nat.reduceSub, Array.replicate_succ, Array.replicate_zero, List.push_toArray, List.append_toArray, List.nil_append, List.cons_append]
  gi_wp2
  gi_loopw [9] (fun i wr => ∃ (k : Nat) (K : KK), (i = .int .i64 (k : Int) ∧ k ≤ n) ∧ HF wr w₀.heap.size B K (startF (ls.take k)) ∧ Hid (∀ b, D b → K.all b) ∧ Hid (∀ b, K.el b → ¬ D b) ∧ J 0 D wr ∧ Below w₀.heap.size w₀ wr ∧ w₀.heap.size ≤ wr.heap.size) (fun i _ => n - (intOf i).toNat)
  case atStart => exact ⟨0, _, ⟨rfl, Nat.zero_le _⟩, HF0.out, fun b h => h, fun b h => h.elim, HJ0.out, HB0.out, by rw [hsz1]; omega⟩
  case round =>
    obtain ⟨k, K, ⟨rfl, hk⟩, hf, hDK, hKD, hJk, hbe, hnn⟩ := hrel
    by_cases hlt : k < n
    · have hkl : k < ls.length := by rw [HN.out]; exact hlt
      obtain ⟨g1, o1, B1, d1, rfl, cl, hns⟩ := HU.out k hkl
      have hll := HLL.out _ (List.getElem_mem hkl)
      have hsn := startF_snoc ls k hkl
      obtain ⟨l, hl⟩ : ∃ l, ls[k] = l := ⟨_, rfl⟩
      rw [hl] at cl hns hll hsn
      have clw := (hbe.cell (p := ⟨g1, o1 + k, none⟩) (World.block_lt_of_cell? w₀ _ cl)).trans cl
      have hnw := hns.below hbe
      have hpl0 : ∀ g o n c, Value.slice B1 l.length d1 = .slice (some ⟨g, o, none⟩) n c → l ≠ [] → g < w₀.heap.size := by
        intro g o n c e hne
        obtain ⟨g', o', c', e', -, -, -, hc⟩ := hns.head hne
        rw [e] at e'
        cases e'
        exact World.block_lt_of_cell? w₀ _ hc
      obtain ⟨m, hm⟩ : ∃ m, l.length = m := ⟨_, rfl⟩
      rw [hm] at clw hnw hpl0
      have d0 : decide (k < n) = true := decide_eq_true hlt
      have d1' : decide ((k : Int) < (n : Int)) = true := decide_eq_true (by omega)
      have k0 : (0 : Int) ≤ (k : Int) := by omega
      have k1 : (k : Int) < (n : Int) := by omega
      have HSN := Lib.hid hsn
      have HM := Lib.hid hm
      have HJk := Lib.hid hJk
      have HBE := Lib.hid hbe
      have HFk := Lib.hid hf
      have HNW := Lib.hid hnw
      have HPL0 := Lib.hid hpl0
      have HLLk := Lib.hid hll
      clear hsn hm hJk hbe hf hnw cl hns hl hpl0 hll HF0 HJ0 HB0
      by_cases hm0 : 0 < m
      · have m0 : decide (0 < m) = true := decide_eq_true hm0
        have m1 : decide ((0 : Int) < (m : Int)) = true := decide_eq_true (by omega)
        have hlne : l ≠ [] := fun e => by have := HM.out; rw [e] at this; simp at this; omega
        have hqe : (if l.isEmpty then [] else [srtI l]) = [srtI l] := by cases l with | nil => exact absurd rfl hlne | cons a b => rfl
        have HQE := Lib.hid hqe
        have hqne : srtI l ≠ [] := fun e => by
          cases l with
          | nil => exact hlne rfl
          | cons a b => have := (mem_srtI (a :: b) a).2 (by simp); rw [e] at this; simp at this
        obtain ⟨v, hbx, ⟨es, hrow, hes, hE⟩, hvK, hBK, hKs⟩ := HFk.out
        have hv : ∃ A n c, v = .slice A n c := by
          rcases hrow.2 with ⟨e, -⟩ | ⟨g', cap, cur, e, -⟩
          · exact ⟨_, _, _, e⟩
          · exact ⟨_, _, _, e⟩
        obtain ⟨Av, nv, cv, rfl⟩ := hv
        have hone := onecells es (fun e he => by obtain ⟨A, c, e', -⟩ := (hE e he).1; exact ⟨_, _, _, e'⟩)
        have hesl : es.length ≤ 100000 := by
          have h1 := congrArg List.length hes
          rw [List.length_map] at h1
          have h2 := startF_len (ls.take k)
          have h3 : (ls.take k).length ≤ k := by rw [List.length_take]; omega
          omega
        have hcf := hbx.cell
        have hcfd : wr.drew.cell? ⟨B, 0, none⟩ = _ := hcf
        have hclean := cleanP_any (.slice B1 m d1) l wr.drew HNW.out (by have := HLLk.out; omega)
        have HC := Lib.hid hclean
        have HROW := Lib.hid hrow
        have HONE := Lib.hid hone
        have HESL := Lib.hid hesl
        have HES := Lib.hid hes
        have HEE := Lib.hid hE
        have HVK := Lib.hid hvK
        have HBX := Lib.hid hbx
        have HKS := Lib.hid hKs
        clear hclean hrow hone hesl hE hvK hbx hKs hes hqe
        gi_wp2_with fail
        refine wpIn_wide.2 ?_
        go_region_law (first
          | (refine step_enter rfl (x_fun18 _ _ _ 92 (.tmp 17) (.slice B1 m d1) _ rfl rfl rfl (enters_of Try.func92 (by kernel_rfl) rfl)) (HC.out.mono ?_)
             rintro e w2 ⟨u, rfl, hu, hp, hb2⟩
             have hbxd : Boxed wr.drew B 110 (.slice Av nv cv) := HBX.out
             have hbx2 : Boxed w2 B 110 (.slice Av nv cv) := (hb2.block B hbxd.lt).trans hbxd
             obtain ⟨A2, c2, rfl, -⟩ := id hu
             obtain ⟨n2, hn2⟩ : ∃ n2, (srtI l).length = n2 := ⟨_, rfl⟩
             have HUQ := Lib.hid hu
             have HPQ := Lib.hid hp
             rw [hn2] at HUQ HPQ ⊢
             have HBB2 := Lib.hid hb2
             have HN2 := Lib.hid hn2
             have hc2 := hbx2.cell
             have hbx3 : Boxed (w2.alloc (.cells #[.slice A2 n2 c2] 34)) B 110 (.slice Av nv cv) := hbx2.alloc _
             have hc3 := hbx3.cell
             clear hu hp hb2 hn2
             refine ⟨_, rfl, ?_⟩)
          | (refine stepF_append rfl (.tmp 16) (.tmp 19) rfl w₀.heap.size (.slice Av nv cv) _ A2 n2 c2 w2.heap.size rfl rfl (FR.alloc (FR.below (W := wr.drew) HROW.out HBB2.out) _) HONE.out (by simp) (by simpa using HESL.out) (by have := HBB2.out.size; rw [alloc_size]; have h2 : wr.drew.heap.size = wr.heap.size := rfl; omega) ?_
             intro A' n' c' w4 h4 hg4 hl4
             have hbx4 : Boxed w4 B 110 (.slice Av nv cv) := Boxed.kept hbx3 hg4 (Boxed.not_row HBX.out (by decide) HROW.out)
             have hc4 := hbx4.cell
             have hf4 := hbx4.frozen))
        all_goals
          have hpl : ∀ g o n' c', Value.slice A2 n2 c2 = .slice (some ⟨g, o, none⟩) n' c' → g < w₀.heap.size ∨ wr.heap.size ≤ g := by
            intro g o n' c' e
            rcases HPQ.out with h | h
            · exact .inl (HPL0.out g o n' c' (h.symm.trans e) hlne)
            · exact .inr (World.ownsRow.lt h g (by rw [e]; rfl)).1
          obtain ⟨hfp, hkp⟩ := HF_push (q := srtI l) HBX.out HROW.out HEE.out HVK.out hBK HKS.out hn0 ((Below.refl _ wr).drew.trans HBB2.out) HUQ.out hqne hpl ((Below.refl _ _).alloc (Nat.le_refl _) _) h4 hg4 hl4
          have hsn2 := HSN.out
          rw [HQE.out] at hsn2
          rw [HES.out, ← hsn2] at hfp
          have hJ' := HJ.out _ _ _ _ HJk.out (KeepOn.weak hkp (fun b _ h => hDK.out b h))
          have hbe' := HBE.out.trans (hkp.below hnn)
          have hnn' := Nat.le_trans hnn hkp.size
          have hDK' : Hid (∀ b, D b → (K.more w₀.heap.size (.slice A2 n2 c2)).all b) := fun b h => .inl (hDK.out b h)
          have hKD' : Hid (∀ b, (K.more w₀.heap.size (.slice A2 n2 c2)).el b → ¬ D b) := by
            rintro b (h | ⟨h1, o, n', c', e⟩) hd
            · exact hKD.out b h hd
            · have h3 := HKS.out b (hDK.out b hd)
              rcases hpl b o n' c' e with h | h <;> omega
          have HFP := Lib.hid hfp
          have HJP := Lib.hid hJ'
          have HBP := Lib.hid hbe'
          have HNP := Lib.hid hnn'
          clear hfp hkp hJ' hbe' hnn' hpl h4 hg4 hl4 hsn2 hc4 hf4 hbx4 hc3 hbx3 hc2 hbx2
          gi_wp2
          go_roundw
          case rel => exact ⟨k + 1, _, ⟨by go_num, by omega⟩, HFP.out, hDK', hKD', HJP.out, HBP.out, HNP.out⟩
          case measure => simp [intOf]; omega
      · have m0 : decide (0 < m) = false := decide_eq_false hm0
        have m1 : decide ((0 : Int) < (m : Int)) = false := decide_eq_false (by omega)
        have hl0 : l = [] := List.length_eq_zero_iff.1 (by have := HM.out; omega)
        have hsn2 : startF (ls.take (k + 1)) = startF (ls.take k) := by have := HSN.out; rw [hl0] at this; simpa using this
        have HF2 : Hid (HF wr w₀.heap.size B K (startF (ls.take (k + 1)))) := by show HF _ _ _ _ _; rw [hsn2]; exact HFk.out
        clear hsn2 hl0
        gi_wp2
        go_roundw
        case rel => exact ⟨k + 1, K, ⟨by go_num, by omega⟩, HF2.out, hDK, hKD, HJk.out, HBE.out, hnn⟩
        case measure => simp [intOf]; omega
    · have d0 : decide (k < n) = false := decide_eq_false hlt
      have d1' : decide ((k : Int) < (n : Int)) = false := decide_eq_false (by omega)
      have hf2 : HF wr w₀.heap.size B K (startF ls) := by
        rw [List.take_of_length_le (by rw [HN.out]; omega)] at hf; exact hf
      have hXl : (startF ls).length ≤ 1000 := by have := startF_len ls; have := HN.out; omega
      have hin := finit_any w₀.heap.size B (startF ls) wr K hf2 (by omega) hn0 (fun l hl => (startF_good ls l hl).1)
      have HIN := Lib.hid hin
      have HJk := Lib.hid hJk
      have HBE := Lib.hid hbe
      clear hf hf2 hin hJk hbe HF0 HJ0 HB0 HU HLL hcL
      gi_wp2_with fail
      refine ⟨trivial, rfl, (callsIn_wide.2 HIN.out).mono ?_⟩
      rintro e w1 ⟨rfl, hs1, hk1⟩
      obtain ⟨hh1, hp1⟩ := initF_all (startF ls)
      have hJ1 := HJ.out _ _ _ _ HJk.out (KeepOn.weak hk1 (fun b _ h => hDK.out b h))
      have hbe1 := HBE.out.trans (hk1.below hnn)
      have hn1 := Nat.le_trans hnn hk1.size
      have hdr : Hid ((outM ls).drop 0 = mergeF (totF (startF ls)) (initF ((startF ls).length / 2) (startF ls))) := rfl
      have htt : totF (initF ((startF ls).length / 2) (startF ls)) ≤ totF (startF ls) := by rw [totF_perm hp1]; exact Nat.le_refl _
      have hneX : ∀ l ∈ initF ((startF ls).length / 2) (startF ls), l ≠ [] := fun l hl => (startF_good ls l (hp1.mem_iff.1 hl)).1
      have hXl2 : (initF ((startF ls).length / 2) (startF ls)).length ≤ 1000 := by rw [hp1.length_eq]; exact hXl
      have hh2 : HeapF 0 (initF ((startF ls).length / 2) (startF ls)).length (initF ((startF ls).length / 2) (startF ls)) := by rw [hp1.length_eq]; exact hh1
      obtain ⟨X, hX⟩ : ∃ X, initF ((startF ls).length / 2) (startF ls) = X := ⟨_, rfl⟩
      obtain ⟨F, hF⟩ : ∃ F, totF (startF ls) = F := ⟨_, rfl⟩
      rw [hX] at hs1 hdr htt hneX hXl2 hh2
      rw [hF] at hdr htt
      have HS1 := Lib.hid hs1
      have HJ1 := Lib.hid hJ1
      have HBE1 := Lib.hid hbe1
      have HH2 := Lib.hid hh2
      have HNEX := Lib.hid hneX
      have HTT := Lib.hid htt
      clear hs1 hJ1 hbe1 hh1 hp1 hh2 hneX htt hX hF hXl HIN HJk HBE hk1
      gi_wp2
      gi_loopw [] (fun wr => ∃ (k f : Nat) (D2 : Nat → Prop) (K : KK) (xs : LL), Hid ((outM ls).drop k = mergeF f xs) ∧ Hid (k ≤ (outM ls).length) ∧ Hid (totF xs ≤ f) ∧ Hid (HeapF 0 xs.length xs) ∧ Hid (∀ l ∈ xs, l ≠ []) ∧ xs.length ≤ 1000 ∧ HF wr w₀.heap.size B K xs ∧ Hid (∀ b, D2 b → K.all b) ∧ Hid (∀ b, K.el b → ¬ D2 b) ∧ J k D2 wr ∧ Below w₀.heap.size w₀ wr ∧ w₀.heap.size ≤ wr.heap.size) (fun wr => leftF wr B)
      case atStart => exact ⟨0, F, D, K, X, hdr, Nat.zero_le _, HTT.out, HH2.out, HNEX.out, hXl2, HS1.out, hDK, hKD, HJ1.out, HBE1.out, hn1⟩
      case round =>
        clear HS1 HJ1 HBE1 HH2 HNEX HTT hdr hDK hKD hn1 hXl2 hnn K
        obtain ⟨k, f, D2, K, xs, hdr, hkl2, htt, hheap, hne, hxl, hf, hDK, hKD, hJk, hbe, hnn⟩ := hrel
        have HLO := Lib.hid hf.left
        have HJk := Lib.hid hJk
        have HBE := Lib.hid hbe
        clear hJk hbe
        cases xs with
        | nil =>
          obtain ⟨v, hbx, ⟨es, hrow, hes, -⟩, -⟩ := hf
          obtain rfl : es = [] := by simpa using hes
          have hv : ∃ A c, v = .slice A 0 c := by
            rcases hrow.2 with ⟨e, -⟩ | ⟨g', cap, cur, e, -⟩
            · exact ⟨_, _, e⟩
            · exact ⟨_, _, e⟩
          obtain ⟨Av, cv, rfl⟩ := hv
          have hcf := hbx.cell
          have hd : (outM ls).length = k ∨ (outM ls).length ≤ k := by
            have := congrArg List.length hdr.out
            cases f <;> (simp [mergeF] at this; omega)
          have hdl : (outM ls).length ≤ k := by rcases hd with h | h <;> omega
          have hkle : (outM ls).length = k := by have := hkl2.out; omega
          gi_wp2
          refine bodyPost_end (results_none rfl _ _ _) rfl ?_
          exact ⟨⟨_, rfl⟩, D2, .inl (by rw [hkle]; exact HJk.out)⟩
        | cons x xs =>
          obtain ⟨y, t, rfl⟩ : ∃ y t, x = y :: t := by
            cases x with
            | nil => exact absurd rfl (hne.out [] (by simp))
            | cons y t => exact ⟨y, t, rfl⟩
          obtain ⟨f, rfl⟩ : ∃ f', f = f' + 1 := ⟨f - 1, by have := htt.out; simp [totF] at this; omega⟩
          have HD : Hid ((outM ls).drop k = y :: mergeF f (stepF ((y :: t) :: xs))) := hdr.out
          obtain ⟨hheap2', r, hperm, hr⟩ := stepF_ok (y :: t) xs (by simp) hheap.out
          have hheap2 := Lib.hid hheap2'
          have hne2 : Hid (∀ l ∈ stepF ((y :: t) :: xs), l ≠ []) := by
            intro l hl
            have := hperm.mem_iff.1 hl
            rcases hr with ⟨rfl, -⟩ | ⟨rfl, h⟩
            · exact hne.out l (List.mem_cons_of_mem _ this)
            · rcases List.mem_cons.1 this with rfl | h'
              · exact h
              · exact hne.out l (List.mem_cons_of_mem _ h')
          have hlen2 : (stepF ((y :: t) :: xs)).length ≤ 1000 := by
            rw [hperm.length_eq]
            rcases hr with ⟨rfl, -⟩ | ⟨rfl, -⟩ <;> simp at hxl ⊢ <;> omega
          have htot : totF (stepF ((y :: t) :: xs)) + 1 = totF ((y :: t) :: xs) := by
            rw [totF_perm hperm]
            rcases hr with ⟨rfl, e⟩ | ⟨rfl, -⟩
            · simp at e; rw [e]; simp [totF]; omega
            · simp [totF]; omega
          have HT2 : Hid (totF (stepF ((y :: t) :: xs)) ≤ f) := by have := htt.out; show _ ≤ _; omega
          have HTL : Hid (totF (stepF ((y :: t) :: xs)) < totF ((y :: t) :: xs)) := by show _ < _; omega
          obtain ⟨g, c1, A1, d1, hbx, cg, fg, ⟨g1, o1, rfl, cy⟩, hle1, hle2, hBg, hf3, hk3, hbx3, cg3⟩ := HF.first (W := wr) hf (by simp) hn0
          have hdy : hdI (y :: t) = y := rfl
          rw [hdy] at cy
          obtain ⟨L, hL⟩ : ∃ L, xs.length + 1 = L := ⟨_, rfl⟩
          obtain ⟨m, hm⟩ : ∃ m, (y :: t).length = m := ⟨_, rfl⟩
          have hm1 : 1 ≤ m := by rw [← hm]; simp
          obtain ⟨m2, hm2⟩ : ∃ m2, m - 1 = m2 := ⟨_, rfl⟩
          obtain ⟨d2, hd2⟩ : ∃ d2, d1 - 1 = d2 := ⟨_, rfl⟩
          obtain ⟨Ac, hAc⟩ : ∃ Ac, cutA (some ⟨g1, o1, none⟩) d1 1 = Ac := ⟨_, rfl⟩
          have kb := fun w => nslice_lo (some ⟨g1, o1, none⟩) m d1 1 hm1 1 rfl m2 d2 hm2.symm hd2.symm w
          simp only [hAc] at kb
          rw [hm] at cg hle1
          rw [hm, hm2, hd2, hAc] at hf3 hk3 hbx3 cg3
          rw [hL] at hbx hbx3
          have L0 : decide (0 < L) = true := decide_eq_true (by omega)
          have L1 : decide ((0 : Int) < (L : Int)) = true := decide_eq_true (by omega)
          have L2 : (0 : Int) < (L : Int) := by omega
          have L3 : 0 < L := by omega
          have M2 : (0 : Int) < (m : Int) := by omega
          have M3 : 0 < m := by omega
          have hcf := hbx.cell
          have cfw : wr.drew.cell? ⟨B, 0, none⟩ = _ := hcf
          have cgw : wr.drew.cell? ⟨g, 0, none⟩ = _ := cg
          have cyw : wr.drew.cell? ⟨g1, o1, none⟩ = _ := cy
          have HF3 := Lib.hid hf3
          have HK3 := Lib.hid hk3
          have hcf3 := hbx3.cell
          have HHE := Lib.hid hheap
          have HM2 : Hid (t.length = m2) := by show _ = _; rw [← hm2, ← hm]; simp
          have HLL : Hid (xs.length + 1 = L) := hL
          have hs1 : 1 ≤ m := hm1
          clear hf hperm hr htot hheap2' hf3 hk3 hbx hbx3 hm hm2 hd2 hAc hL hdy hdr htt hheap
          gi_wp2_with fail
          refine wpIn_wide.2 ?_
          go_region
          all_goals
            have HF4 : Hid (HF (wr.setCell ⟨g, 0, none⟩ (.slice Ac m2 d2)).drew w₀.heap.size B K ((y :: t).tail :: xs)) := HF3.out
            have HK4 : Hid (KeepOn w₀.heap.size K wr (wr.setCell ⟨g, 0, none⟩ (.slice Ac m2 d2)).drew) := HK3.out.trans (KeepOn.drew _ _ _)
            have hcf4 : (wr.setCell ⟨g, 0, none⟩ (.slice Ac m2 d2)).drew.cell? ⟨B, 0, none⟩ = _ := hcf3
            have cg4 : (wr.setCell ⟨g, 0, none⟩ (.slice Ac m2 d2)).drew.cell? ⟨g, 0, none⟩ = _ := cg3
            clear HF3 HK3 hcf3 cg3
            obtain ⟨w5, hw5⟩ : ∃ w5, (wr.setCell ⟨g, 0, none⟩ (.slice Ac m2 d2)).drew = w5 := ⟨_, rfl⟩
            rw [hw5] at HF4 HK4 hcf4 cg4 ⊢
            have HF3 := HF4
            have hk05 : KeepOn w₀.heap.size K wr w5 := HK4.out
            have HK05 := Lib.hid hk05
            clear hw5 HK4 hk05 HF4
            by_cases h0 : m2 = 0
            · have z1 : ((m2 : Int) == 0) = true := by simp [h0]
              have z2 : (m2 == 0) = true := by simp [h0]
              have htn : t = [] := List.length_eq_zero_iff.1 (by rw [HM2.out]; exact h0)
              obtain ⟨ys, hp1, -, -⟩ := popF_ok (y :: t) xs HHE.out []
              have hstep : stepF ((y :: t) :: xs) = ys := by
                rw [stepF_cons, htn]
                simp only [List.tail_cons, if_true]
                rw [hp1, List.dropLast_concat]
              have hf5 : HF w5 w₀.heap.size B K ([] :: xs) := by have := HF3.out; rw [htn] at this; exact this
              have hpop := fhpop_any w₀.heap.size B ([] :: xs) ys [] w5 K hf5 (by simp) (by simp at hxl ⊢; omega) hn0 hp1 (fun j hj => by
                have hxl2 : ([] :: xs).length = xs.length + 1 := by simp
                rw [hxl2, Nat.add_sub_cancel] at hj ⊢
                rw [itF_swap (by simp) (by simp)]
                have hq : ∀ i, 0 < i → i < xs.length + 1 → itF ([] :: xs) i ≠ [] := fun i h1 h2 => by
                  obtain ⟨i, rfl⟩ : ∃ i', i = i' + 1 := ⟨i - 1, by omega⟩
                  have : itF ([] :: xs) (i + 1) = xs[i]'(by omega) := by simp [itF, show i < xs.length by omega]
                  rw [this]
                  exact hne.out _ (List.mem_cons_of_mem _ (List.getElem_mem _))
                rw [if_neg (by omega)]
                split
                · exact hq _ (by omega) (by omega)
                · exact hq _ (by omega) (by omega))
              have HP := Lib.hid hpop
              clear hpop hp1 hf5
              gi_wp2_with fail
              refine ⟨trivial, rfl, (callsIn_wide.2 HP.out).mono ?_⟩
              rintro e w6 ⟨⟨u6, rfl⟩, hs6, hk56⟩
              rw [← hstep] at hs6
              have hk6 := HK05.out.trans hk56
              clear hk56 hstep htn HP HF3 HK05
              have hget : (outM ls)[k]? = some y := by
                have := congrArg (fun l => l[0]?) HD.out
                simpa [List.getElem?_drop] using this
              have hmore : Hid ((outM ls).drop (k + 1) = mergeF f (stepF ((y :: t) :: xs))) := by
                have := congrArg (List.drop 1) HD.out
                rw [List.drop_drop] at this
                exact this
              have hkl3 : Hid (k + 1 ≤ (outM ls).length) := (List.getElem?_eq_some_iff.1 hget).1
              have hJ2 := HJ.out _ _ _ _ HJk.out (KeepOn.weak hk6 (fun b _ h => hDK.out b h))
              have hbe2 := HBE.out.trans (hk6.below hnn)
              have hn2 := Nat.le_trans hnn hk6.size
              have hDb2 : ∀ b, D2 b → b < w6.heap.size := fun b hb => by
                obtain ⟨_, _, _, _, _, hKs⟩ := id hs6
                exact hKs b (hDK.out b hb)
              obtain ⟨fn, tmps, assign, body, hy, hR⟩ := HY.out k y #[.int .i64 y] D2 (ownF w6 B K) w6 hget rfl hJ2 hDb2 (hs6.own hDK.out hKD.out)
              have HS6 := Lib.hid hs6
              have HBE2 := Lib.hid hbe2
              clear hget hJ2 hDb2 hk6 hs6 hbe2
              gi_wp2
              refine ⟨rfl, hR.mono ?_⟩
              clear hy hR
              rintro e W3 ⟨D3, hD3, hk3, (⟨rfl, hJ3⟩ | ⟨rfl, hJ3⟩)⟩
              · have hs7 := HS6.out.yielded hk3 hD3
                have hn7 : w₀.heap.size ≤ W3.heap.size := Nat.le_trans hn2 hk3.size
                have hbe7 := HBE2.out.trans (hk3.below hn2)
                have hKD7 : Hid (∀ b, K.el b → ¬ D3 b) := fun b h hd => (hD3 b hd).2 (.inr (.inl h))
                have HS7 := Lib.hid hs7
                have HJ7 := Lib.hid hJ3
                have HB7 := Lib.hid hbe7
                have HL7 := Lib.hid hs7.left
                clear hD3 hk3 hs7 hJ3 hbe7
                gi_wp2
                go_roundw
                case rel => exact ⟨k + 1, f, D3, _, stepF ((y :: t) :: xs), hmore, hkl3, HT2.out, hheap2, hne2, hlen2, HS7.out, fun b h => .inl h, hKD7, HJ7.out, HB7.out, hn7⟩
                case measure => rw [HL7.out, HLO.out]; exact HTL.out
              · gi_wp2
                refine bodyPost_ret (results_none rfl _ _ _) rfl ?_
                exact ⟨⟨_, rfl⟩, D3, .inr ⟨_, hJ3⟩⟩
            · have z1 : ((m2 : Int) == 0) = false := by simp; omega
              have z2 : (m2 == 0) = false := by simp [h0]
              have htn : t ≠ [] := fun e => h0 (by have := HM2.out; rw [e] at this; simpa using this.symm)
              have hxl2 : (t :: xs).length = xs.length + 1 := by simp
              have hstep : stepF ((y :: t) :: xs) = downF (t :: xs).length (t :: xs) 0 (t :: xs).length := by
                rw [stepF_cons, hxl2, if_neg (by simpa using htn)]
                rfl
              have hfix := ffix_any w₀.heap.size B (t :: xs) w5 K HF3.out (by simp) (by simp at hxl ⊢; omega) hn0 (fun j hj => by
                cases j with
                | zero => exact htn
                | succ j =>
                  rw [hxl2] at hj
                  have : itF (t :: xs) (j + 1) = xs[j]'(by omega) := by simp [itF, show j < xs.length by omega]
                  rw [this]
                  exact hne.out _ (List.mem_cons_of_mem _ (List.getElem_mem _)))
              rw [← hstep] at hfix
              have HP := Lib.hid hfix
              clear hfix hstep
              gi_wp2_with fail
              refine ⟨trivial, rfl, (callsIn_wide.2 HP.out).mono ?_⟩
              rintro e w6 ⟨rfl, hs6, hk56⟩
              have hk6 := HK05.out.trans hk56
              clear hk56 htn HP HF3 HK05
              have hget : (outM ls)[k]? = some y := by
                have := congrArg (fun l => l[0]?) HD.out
                simpa [List.getElem?_drop] using this
              have hmore : Hid ((outM ls).drop (k + 1) = mergeF f (stepF ((y :: t) :: xs))) := by
                have := congrArg (List.drop 1) HD.out
                rw [List.drop_drop] at this
                exact this
              have hkl3 : Hid (k + 1 ≤ (outM ls).length) := (List.getElem?_eq_some_iff.1 hget).1
              have hJ2 := HJ.out _ _ _ _ HJk.out (KeepOn.weak hk6 (fun b _ h => hDK.out b h))
              have hbe2 := HBE.out.trans (hk6.below hnn)
              have hn2 := Nat.le_trans hnn hk6.size
              have hDb2 : ∀ b, D2 b → b < w6.heap.size := fun b hb => by
                obtain ⟨_, _, _, _, _, hKs⟩ := id hs6
                exact hKs b (hDK.out b hb)
              obtain ⟨fn, tmps, assign, body, hy, hR⟩ := HY.out k y #[.int .i64 y] D2 (ownF w6 B K) w6 hget rfl hJ2 hDb2 (hs6.own hDK.out hKD.out)
              have HS6 := Lib.hid hs6
              have HBE2 := Lib.hid hbe2
              clear hget hJ2 hDb2 hk6 hs6 hbe2
              gi_wp2
              refine ⟨rfl, hR.mono ?_⟩
              clear hy hR
              rintro e W3 ⟨D3, hD3, hk3, (⟨rfl, hJ3⟩ | ⟨rfl, hJ3⟩)⟩
              · have hs7 := HS6.out.yielded hk3 hD3
                have hn7 : w₀.heap.size ≤ W3.heap.size := Nat.le_trans hn2 hk3.size
                have hbe7 := HBE2.out.trans (hk3.below hn2)
                have hKD7 : Hid (∀ b, K.el b → ¬ D3 b) := fun b h hd => (hD3 b hd).2 (.inr (.inl h))
                have HS7 := Lib.hid hs7
                have HJ7 := Lib.hid hJ3
                have HB7 := Lib.hid hbe7
                have HL7 := Lib.hid hs7.left
                clear hD3 hk3 hs7 hJ3 hbe7
                gi_wp2
                go_roundw
                case rel => exact ⟨k + 1, f, D3, _, stepF ((y :: t) :: xs), hmore, hkl3, HT2.out, hheap2, hne2, hlen2, HS7.out, fun b h => .inl h, hKD7, HJ7.out, HB7.out, hn7⟩
                case measure => rw [HL7.out, HLO.out]; exact HTL.out
              · gi_wp2
                refine bodyPost_ret (results_none rfl _ _ _) rfl ?_
                exact ⟨⟨_, rfl⟩, D3, .inr ⟨_, hJ3⟩⟩
end Go.Proofs.Ytlgodokgebjjaaa
