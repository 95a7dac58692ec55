/- Merge, Or. -/
import Derived.RangeFuncNested
import Derived.RangeFuncBound
import Derived.RangeFuncCalls
import Derived.RangeFuncLeaves
import Derived.Shelf.Abstract
import Derived.Shelf.RegionOpen
import Derived.WalkKit
import Derived.OwnWalkIn
import Derived.TacticsInMore
import Derived.LoopNIn
import Derived.LoopIn
import Derived.Outline
import Derived.Lib.Hide
import Derived.Lib.SliceRun
import Derived.IntWalk
import Derived.WalkLawsBesides
import Derived.WalkSpells
import Derived.Laws.BitsAllLaws
import Derived.Lib.ConvBytes
import Derived.Maps.AppendAt
import Derived.Lib.AppendStr
import Derived.Lib.SlBytesConst
import Derived.Laws.AppendOwnNone
import Derived.Laws.OwnMore
import Derived.Laws.BytesArg
import Derived.Deep.RegionHeld3
import Derived.BigQuiet
import Derived.Deep.RegionLaw
import Derived.Deep.QuietTactic
import Derived.Lib.OthersKept
import Derived.Test.YtlgodokgebjjaaaProg
import Derived.Deep.DeepFit
import Derived.Deep.Upon
import Derived.Test.YtlgodokgebjjaaaPoN
set_option linter.unusedVariables false
set_option linter.unusedSimpArgs false
namespace Go.Proofs.Ytlgodokgebjjaaa
open Go Go.RowKit Go.Shelf
attribute [local go_sem] Oper.semAt_some

/-- an own row of numbers whose variable lies in B1 -/
def GN (n₀ B1 : Nat) (w : World) (pre : List Int) (D : Nat → Prop) (W : World) (v : Value) : Prop :=
  Boxed W B1 34 v ∧ ON W n₀ v pre ∧ D B1 ∧ (∀ r, v.ownBlock = some r → D r) ∧ Below n₀ w W ∧ n₀ ≤ W.heap.size
theorem GN.keep {n₀ B1 : Nat} {w W W' : World} {pre : List Int} {D : Nat → Prop} {v : Value} (h : GN n₀ B1 w pre D W v) (hk : KeepOn n₀ D W W') : GN n₀ B1 w pre D W' v := by
  obtain ⟨h1, h2, h3, h4, h5, h6⟩ := h
  exact ⟨boxed_keepOn h1 hk (.inr h3), ownsRow_keepOn h2 hk h4, h3, h4, h5.trans (hk.below h6), Nat.le_trans h6 hk.size⟩
theorem GN.alloc {n₀ B1 : Nat} {w W : World} {pre : List Int} {D : Nat → Prop} {v : Value} (h : GN n₀ B1 w pre D W v) (o : Obj) : GN n₀ B1 w pre D (W.alloc o) v := h.keep (KeepOn.alloc _ _ _ _)
theorem gn_put {n₀ B1 : Nat} {w W w1 : World} {M D : Nat → Prop} {v v' : Value} {pre pre' : List Int} (hB1 : n₀ ≤ B1) (h : GN n₀ B1 w pre D W v) (hDb : ∀ b, D b → b < W.heap.size) (hMD : ∀ b, M b → b < W.heap.size ∧ ¬ D b)
    (hown : ON w1 n₀ v' pre') (hgrow : W.grownBy w1 v.ownBlock) (hnew : ∀ r, v'.ownBlock = some r → v.ownBlock = some r ∨ r = W.heap.size) :
    ∃ D', (∀ b, D b → D' b) ∧ (∀ b, D' b → b < (w1.setCell ⟨B1, 0, none⟩ v').heap.size ∧ ¬ M b) ∧ KeepOn n₀ M W (w1.setCell ⟨B1, 0, none⟩ v') ∧ GN n₀ B1 w pre' D' (w1.setCell ⟨B1, 0, none⟩ v') v' := by
  obtain ⟨h1, h2, h3, h4, h5, h6⟩ := h
  have hM1 : ¬ M B1 := fun h => (hMD B1 h).2 h3
  have k1 : KeepOn n₀ M W w1 := KeepOn.of_grown hgrow (fun r hr => ⟨(World.ownsRow.lt h2 r hr).1, fun h => (hMD r h).2 (h4 r hr)⟩)
  have k2 : KeepOn n₀ M W (w1.setCell ⟨B1, 0, none⟩ v') := k1.trans (KeepOn.setCell w1 B1 v' hB1 hM1)
  have hbx1 : Boxed w1 B1 34 v := h1.kept hgrow (h1.not_row (by decide) h2)
  have hne : some B1 ≠ v'.ownBlock := hbx1.not_row (by decide) hown
  have hsz : (w1.setCell ⟨B1, 0, none⟩ v').heap.size = w1.heap.size := by simp [World.setCell]
  refine ⟨fun b => D b ∨ v'.ownBlock = some b, fun b hb => .inl hb, fun b hb => ?_, k2, hbx1.set v', ?_, .inl h3, fun r hr => .inr hr, h5.trans (k2.below h6), Nat.le_trans h6 k2.size⟩
  · rcases hb with hb | hb
    · exact ⟨Nat.lt_of_lt_of_le (hDb b hb) k2.size, fun hm => (hMD b hm).2 hb⟩
    · refine ⟨by rw [hsz]; exact (World.ownsRow.lt hown b hb).2, fun hm => ?_⟩
      rcases hnew b hb with h | h
      · exact (hMD b hm).2 (h4 b h)
      · have := (hMD b hm).1; omega
  · exact ownsRow_keepOn (n₀ := n₀) (D := fun b => b ≠ B1) hown (KeepOn.setCell w1 B1 v' hB1 (fun h => h rfl)) (fun r hr h => hne (by rw [← h]; exact hr.symm))
theorem take_foldM (zs : List Int) (k : Nat) (x : Int) (h : zs[k]? = some x) : (zs.take (k + 1)).foldl keepM [] = keepM ((zs.take k).foldl keepM []) x := by
  have hk : k < zs.length := (List.getElem?_eq_some_iff.1 h).1
  rw [List.getElem?_eq_getElem hk] at h
  cases h
  rw [List.take_succ_eq_append_getElem hk, List.foldl_append]
  rfl
theorem keepM_yes (pr : List Int) (x : Int) (h : pr = [] ∨ pr.getLastD 0 < x) : keepM pr x = pr ++ [x] := by unfold keepM; rw [if_pos h]
theorem keepM_no (pr : List Int) (x : Int) (h : ¬ (pr = [] ∨ pr.getLastD 0 < x)) : keepM pr x = pr := by unfold keepM; rw [if_neg h]
theorem wrap64_p (p : Nat) (h : p ≤ 1000000) : wrap64 (p : Int) = (p : Int) := IntWalk.wrap64_in _ (by omega)
theorem last_get (pr : List Int) (p : Nat) (h : p + 1 = pr.length) : pr[p]'(by omega) = pr.getLastD 0 := by
  have hne : pr ≠ [] := by intro e; subst e; simp at h
  rw [List.getLastD_eq_getLast?, List.getLast?_eq_getElem?, List.getElem?_eq_getElem (by omega)]
  simp only [Option.getD_some]
  congr 1
  omega
set_option maxRecDepth 100000 in
theorem merged_any (A : Option Addr) (n c : Nat) (w : World) : Calls Try.prog 63 #[.slice A n c] w fun e w' => e = .returned (.func (.func 91) #[] #[.pointer (some ⟨w.heap.size, 0, none⟩)]) ∧ w.alloc (.cells #[.slice A n c] 41) = w' := by
  go_enter Try.func63, Try.ntmps63
  go_wp2
  go_ret
  exact ⟨rfl, rfl⟩
set_option maxRecDepth 100000 in
set_option maxHeartbeats 8000000 in
/-- **Merge** -/
theorem merge_any (v : Value) (ls : LL) (w : World) (hls : ls.length ≤ 1000) (hll : ∀ l ∈ ls, l.length ≤ 100000) (hto : totF (startF ls) ≤ 100000) (h : SI w v ls) :
    Calls Try.prog 34 #[v] w fun e w' => ∃ u, e = .returned u ∧ ON w' w.heap.size u (srtI ls.flatten) ∧ Below w.heap.size w w' := by
  obtain ⟨A, c, rfl, -, -⟩ := id h
  obtain ⟨n, hn⟩ : ∃ n, ls.length = n := ⟨_, rfl⟩
  have hsq := fun BL w' hw hbw hBL hbox => merged1_seq w.heap.size BL A c n ls hn (by omega) hll w w' hw hbw hBL (by rw [← hn]; exact h) hbox
  have hzl := outM_len ls
  have hfin := outM_ok ls
  obtain ⟨zs, hzs⟩ : ∃ zs, outM ls = zs := ⟨_, rfl⟩
  obtain ⟨R, hR⟩ : ∃ R, srtI ls.flatten = R := ⟨_, rfl⟩
  rw [hzs] at hzl hfin
  rw [hR] at hfin ⊢
  simp only [hzs] at hsq
  rw [hn]
  have HSEQ := Lib.hid hsq
  have HZL : Hid (zs.length ≤ 100000) := by show _ ≤ _; omega
  have HFIN := Lib.hid hfin
  clear hsq hzl hfin hzs hR h hn hls hll hto
  refine (callsIn_wide (n := 0)).1 ?_
  refine callsIn_of_wp_marks Try.func34 rfl trivial ?_
  simp only [Try.ntmps34, List.size_toArray, List.length_cons, List.length_nil, Nat.reduceAdd, Nat.reduceSub, Array.replicate_succ, Array.replicate_zero, List.push_toArray, List.append_toArray, List.nil_append, List.cons_append]
  gi_wp2_with fail
  refine ⟨trivial, rfl, (callsIn_wide.2 (merged_any _ _ _ _)).mono ?_⟩
  rintro e w3 ⟨rfl, rfl⟩
  gi_wp2_with fail
  obtain ⟨n₀, hn₀⟩ : ∃ n, w.heap.size = n := ⟨_, rfl⟩
  obtain ⟨W0, hW0⟩ : ∃ W0, (w.alloc (.cells #[.slice none 0 0] 34)).alloc (.cells #[.slice A n c] 41) = W0 := ⟨_, rfl⟩
  have b1 : Below n₀ w (w.alloc (.cells #[.slice none 0 0] 34)) := (Below.refl _ w).alloc (by omega) _
  have b3 : Below n₀ w W0 := by rw [← hW0]; exact b1.alloc (by rw [alloc_size]; omega) _
  have hs0 : W0.heap.size = n₀ + 2 := by rw [← hW0, alloc_size, alloc_size, hn₀]
  have hbx1 : Boxed W0 n₀ 34 (.slice none 0 0) := by
    have := (Boxed.new w 34 (.slice none 0 0)).alloc (.cells #[.slice A n c] 41)
    rw [hW0, hn₀] at this
    exact this
  have hbx2 : Boxed W0 (n₀ + 1) 41 (.slice A n c) := by
    have := Boxed.new (w.alloc (.cells #[.slice none 0 0] 34)) 41 (.slice A n c)
    rw [hW0, alloc_size, hn₀] at this
    exact this
  have hseq := HSEQ.out (n₀ + 1) W0 trivial (by rw [hn₀]; exact b3) (by omega) hbx2
  rw [hn₀] at hseq
  simp only [alloc_size, hn₀]
  rw [hW0]
  have HSQ := Lib.hid hseq
  have hn1 : n₀ ≤ n₀ := Nat.le_refl _
  clear hseq HSEQ hW0 b1
  refine wpIn_rangeFunc_D (gf := 91) (lb := #[.pointer (some ⟨n₀ + 1, 0, none⟩)]) (n₀ := n₀) (Enc := EncI) (xs := zs) rfl (enters_of Try.func91 (by kernel_rfl) rfl)
    HSQ.out (fun x az _ _ h => by cases h; rfl)
    (fun x az M W lp dk r o ds h h1 h2 => h) (by rw [hs0]; omega) (Below.refl _ _)
    (fun b => b = n₀) (fun b h => by rw [hs0]; omega) (fun b h => by subst h; exact ⟨by omega, by rw [hs0]; omega, rfl⟩)
    (fun k D W => ∃ v, GN n₀ n₀ w ((zs.take k).foldl keepM []) D W v ∧ ((zs.take k).foldl keepM []).length ≤ k) (fun _ _ _ _ => False) (fun k D W W' ⟨v, h, h2⟩ hk => ⟨v, h.keep hk, h2⟩) (fun c k D W W' h _ => h)
    ⟨_, ⟨hbx1, ON.nil _ _, rfl, fun r hr => by simp [Value.ownBlock] at hr, b3, by rw [hs0]; omega⟩, by simp⟩
    (fun az => { tmps := #[.slice A n c, undef, .slice none 0 0, .pointer (some ⟨n₀, 0, none⟩), az[0]?.getD undef, undef, .slice A n c, .func (.func 91) #[] #[.pointer (some ⟨n₀ + 1, 0, none⟩)], az[0]?.getD undef, undef, undef, undef, undef, undef, undef, undef, undef, undef, undef, undef, undef, undef, undef, undef, undef, undef, undef], defers := [] }) ?assign ?body ?done ?stop
  case assign =>
    rintro lp x az M W K hE hK
    cases hE
    gi_wp2
    exact hK
  case body =>
    rintro lp k x az D M W hx hE ⟨v, hg, hpk⟩ hDb hMD
    cases hE
    have hkl : k < zs.length := (List.getElem?_eq_some_iff.1 hx).1
    have hsn := take_foldM zs k x hx
    obtain ⟨pr, hpr⟩ : ∃ pr, (zs.take k).foldl keepM [] = pr := ⟨_, rfl⟩
    rw [hpr] at hsn hg hpk
    have hpl : pr.length + [x].length ≤ 1000000 := by have := HZL.out; simp; omega
    obtain ⟨Av, cv, rfl, -, -⟩ := hg.2.1.reads
    have hat := hg.2.1.reads.at_ rfl
    obtain ⟨q, hq⟩ : ∃ q, pr.length = q := ⟨_, rfl⟩
    have hcB := hg.1.cell
    have hfB := hg.1.frozen
    rw [hq] at hg hcB
    have HSN := Lib.hid hsn
    have HPL := Lib.hid hpl
    have HPK := Lib.hid hpk
    have HDb := Lib.hid hDb
    have HM := Lib.hid hMD
    have HQ := Lib.hid hq
    clear hsn hpl hpk hDb hMD hpr hx
    by_cases h0 : q = 0
    · have HKE : Hid (pr = [] ∨ pr.getLastD 0 < x) := .inl (List.length_eq_zero_iff.1 (by rw [HQ.out]; exact h0))
      obtain rfl : q = 0 := h0
      clear hat hq
      have hg1 := hg.alloc (.cells #[eI x] 2)
      have hlt := NS_lit W x
      have hba : Below W.heap.size W (W.alloc (.cells #[eI x] 2)) := (Below.refl _ _).alloc (Nat.le_refl _) _
      have hfB1 := hg1.1.frozen
      have hcB1 := hg1.1.cell
      have HG1 := Lib.hid hg1
      have HLT := Lib.hid hlt
      have HBA := Lib.hid hba
      clear hg hg1 hlt hba
      gi_wp2_with (gi_at_builtin; refine wpNI_append rfl _ _ rfl n₀ (.slice Av 0 cv) _ pr [x] rfl HG1.out.2.1 rfl HLT.out (by simp) HPL.out HG1.out.2.2.2.2.2 ?_; intro v5 w5 hown5 hgrow5 hnew5; obtain ⟨pr2, hpr2⟩ : ∃ z, pr ++ [x] = z := ⟨_, rfl⟩; rw [hpr2] at hown5; have HPR2 := Lib.hid hpr2; obtain ⟨A5, c5, rfl, -, -⟩ := hown5.reads; have hv5 := HG1.out.1.kept hgrow5 (HG1.out.1.not_row (by decide) HG1.out.2.1); have hv5c := hv5.cell; have hv5f := hv5.frozen; obtain ⟨D5, hDa5, hDb5, hk5, hg5⟩ := gn_put (M := M) hn1 HG1.out (fun b hb => Nat.lt_of_lt_of_le (HDb.out b hb) HBA.out.size) (fun b hb => ⟨Nat.lt_of_lt_of_le (HM.out b hb).1 HBA.out.size, (HM.out b hb).2⟩) hown5 hgrow5 hnew5; have HK5 := Lib.hid ((KeepOn.of_below (n₀ := n₀) (D := M) HBA.out).trans hk5); have HG5 := Lib.hid hg5; have HD5 := Lib.hid hDb5; clear hown5 hgrow5 hnew5 hg5 hDa5 hDb5 hk5 hv5 hpr2)
      try clear w3
      exact ⟨D5, HD5.out, HK5.out, _, by rw [HSN.out, keepM_yes pr x HKE.out, HPR2.out]; exact HG5.out, by rw [HSN.out, keepM_yes pr x HKE.out]; have := HPK.out; simp; omega⟩
    · have z1 : ((q : Int) == 0) = false := by simp; omega
      have z2 : (q == 0) = false := by simp [h0]
      obtain ⟨p, hp⟩ : ∃ p, q - 1 = p := ⟨_, rfl⟩
      have hpp : p + 1 = pr.length := by omega
      obtain ⟨g, o, rfl, hc⟩ := hat p (by omega)
      have cl := hc p (by omega)
      rw [last_get pr p hpp] at cl
      obtain ⟨lx, hlx⟩ : ∃ lx, pr.getLastD 0 = lx := ⟨_, rfl⟩
      rw [hlx] at cl
      have w2 : (q : Int) - 1 = (p : Int) := by omega
      have hpb : p ≤ 1000000 := by have := HZL.out; have := HPK.out; have := HQ.out; omega
      have p0 : (0 : Int) ≤ (p : Int) := by omega
      have p1 : (p : Int) < (q : Int) := by omega
      have p2 : p < q := by omega
      have HLX := Lib.hid hlx
      have w3 : wrap64 (p : Int) = (p : Int) := wrap64_p p hpb
      clear hat hq hp hpp hc hlx
      by_cases hlt : lx < x
      · have HKE : Hid (pr = [] ∨ pr.getLastD 0 < x) := .inr (by rw [HLX.out]; exact hlt)
        have l1 : decide (lx < x) = true := decide_eq_true hlt
        have cl2 := fun o' => Lib.cell?_alloc_marked o' cl
        clear hlt
        have hg1 := hg.alloc (.cells #[eI x] 2)
        have hlt := NS_lit W x
        have hba : Below W.heap.size W (W.alloc (.cells #[eI x] 2)) := (Below.refl _ _).alloc (Nat.le_refl _) _
        have hfB1 := hg1.1.frozen
        have hcB1 := hg1.1.cell
        have HG1 := Lib.hid hg1
        have HLT := Lib.hid hlt
        have HBA := Lib.hid hba
        clear hg hg1 hlt hba
        gi_wp2_with (gi_at_builtin; refine wpNI_append rfl _ _ rfl n₀ (.slice (some ⟨g, o, none⟩) q cv) _ pr [x] rfl HG1.out.2.1 rfl HLT.out (by simp) HPL.out HG1.out.2.2.2.2.2 ?_; intro v5 w5 hown5 hgrow5 hnew5; obtain ⟨pr2, hpr2⟩ : ∃ z, pr ++ [x] = z := ⟨_, rfl⟩; rw [hpr2] at hown5; have HPR2 := Lib.hid hpr2; obtain ⟨A5, c5, rfl, -, -⟩ := hown5.reads; have hv5 := HG1.out.1.kept hgrow5 (HG1.out.1.not_row (by decide) HG1.out.2.1); have hv5c := hv5.cell; have hv5f := hv5.frozen; obtain ⟨D5, hDa5, hDb5, hk5, hg5⟩ := gn_put (M := M) hn1 HG1.out (fun b hb => Nat.lt_of_lt_of_le (HDb.out b hb) HBA.out.size) (fun b hb => ⟨Nat.lt_of_lt_of_le (HM.out b hb).1 HBA.out.size, (HM.out b hb).2⟩) hown5 hgrow5 hnew5; have HK5 := Lib.hid ((KeepOn.of_below (n₀ := n₀) (D := M) HBA.out).trans hk5); have HG5 := Lib.hid hg5; have HD5 := Lib.hid hDb5; clear hown5 hgrow5 hnew5 hg5 hDa5 hDb5 hk5 hv5 hpr2)
        try clear w3
        exact ⟨D5, HD5.out, HK5.out, _, by rw [HSN.out, keepM_yes pr x HKE.out, HPR2.out]; exact HG5.out, by rw [HSN.out, keepM_yes pr x HKE.out]; have := HPK.out; simp; omega⟩
      · have HKE : Hid (¬ (pr = [] ∨ pr.getLastD 0 < x)) := by
          rintro (e | e)
          · rw [e] at HQ; exact h0 HQ.out.symm
          · rw [HLX.out] at e; exact hlt e
        have l1 : decide (lx < x) = false := decide_eq_false hlt
        have HG := Lib.hid hg
        clear hlt hg
        gi_wp2
        clear w3
        exact ⟨D, fun b hb => ⟨HDb.out b hb, fun hm => (HM.out b hm).2 hb⟩, KeepOn.refl _ _ _, _, by rw [HSN.out, keepM_no pr x HKE.out]; exact HG.out, by rw [HSN.out, keepM_no pr x HKE.out]; have := HPK.out; omega⟩
  case done =>
    rintro dk D W hdk ⟨v, hg, -⟩ hK hDk
    rw [hs0] at hdk
    rw [List.take_length, HFIN.out] at hg
    have hcB := hg.1.cell
    have hfB := hg.1.frozen
    have HG := Lib.hid hg
    have HK := Lib.hid hK
    have HDK := Lib.hid hDk
    clear hg hK hDk
    gi_wp2
    refine ⟨by simp, .inl ⟨_, _, rfl, run_takeDeferred HK.out, ?_⟩⟩
    refine ⟨_, results_tmp rfl _ _ _, v, rfl, ?_, ?_⟩
    · rw [hn₀]
      refine ownsRow_keepOn (n₀ := n₀) (D := fun b => b ≠ dk) HG.out.2.1 (KeepOn.putObj W dk _ (by omega) (fun h => h rfl)) (fun r hr h => ?_)
      subst h
      exact HDK.out (HG.out.2.2.2.1 _ hr)
    · rw [hn₀]; exact belowK_bD HG.out.2.2.2.2.1 dk _ (by omega)
  case stop =>
    rintro dk c k D W _ h _ _
    exact h.elim
end Go.Proofs.Ytlgodokgebjjaaa
