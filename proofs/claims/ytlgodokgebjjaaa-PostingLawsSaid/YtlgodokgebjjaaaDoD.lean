/- Stuff. -/
import Derived.RangeFuncNested
import Derived.RangeFuncBound
import Derived.RangeFuncCalls
import Derived.RangeFuncLeaves
import Derived.Shelf.Abstract
import Derived.Shelf.RegionOpen
import Derived.WalkKit
import Derived.OwnWalkIn
import Derived.TacticsInMore
import Derived.LoopNIn
import Derived.LoopIn
import Derived.Outline
import Derived.Lib.Hide
import Derived.Lib.SliceRun
import Derived.IntWalk
import Derived.WalkLawsBesides
import Derived.WalkSpells
import Derived.Laws.BitsAllLaws
import Derived.Lib.ConvBytes
import Derived.Maps.AppendAt
import Derived.Lib.AppendStr
import Derived.Lib.SlBytesConst
import Derived.Laws.AppendOwnNone
import Derived.Laws.OwnMore
import Derived.Laws.BytesArg
import Derived.Deep.RegionHeld3
import Derived.BigQuiet
import Derived.Deep.RegionLaw
import Derived.Deep.QuietTactic
import Derived.Lib.OthersKept
import Derived.Test.YtlgodokgebjjaaaProg
import Derived.Deep.DeepFit
import Derived.Test.YtlgodokgebjjaaaDoC
set_option linter.unusedVariables false
set_option linter.unusedSimpArgs false
namespace Go.Proofs.Ytlgodokgebjjaaa
open Go Go.RowKit Go.Shelf
attribute [local go_sem] Oper.semAt_some

/-- append(own, bytes...) inside a fence -/
theorem wpBI_append {F : Fence} {n : Nat} {w : World} {ops : Array Oper} {rest : List Oper} {o : Oper} {a : Act} {Q : Exit → Act → World → Prop}
    (hg : o.guard = none) (s x : Operand) (hop : o.op = Op.call { callee := Callee.builtin Builtin.append, args := #[s, x], argTypes := #[22, 22] })
    (base : Nat) (v xv : Value) (l m : List UInt8) (hs : a.eval s = v) (hown : OB w base v l) (hx : a.eval x = xv) (hm : SB w xv m) (h0 : 0 < m.length) (hlen : l.length + m.length ≤ 140737488355328) (hbase : base ≤ w.heap.size)
    (hK : ∀ v' w', OB w' base v' (l ++ m) → w.grownBy w' v.ownBlock → (∀ r, v'.ownBlock = some r → v.ownBlock = some r ∨ r = w.heap.size) → wpListIn F n Try.prog ops Q rest (a.put o.dst v') w') :
    wpListIn F n Try.prog ops Q (o :: rest) a w := by
  obtain ⟨i0, hi, hz0, hz1, hz2⟩ := info_parts info5
  obtain ⟨A, c, rfl, h1, h2, h3⟩ := hm.form
  obtain ⟨g, o', rfl, hc⟩ := h3 h0
  refine wpListIn_append_lies w hg s x 22 hop base 5 i0 (.int .u8 0) 1 1 Try.underlying22 hi hz0 hz1 hz2 rfl (by decide) v l.length (enc8 l) hs hown ⟨g, o', none⟩ m.length c (enc8 m) hx (by simp [enc8]) (fun j u hj => ?_) (enc8_one m) h0 (by unfold maxLen; omega) (by omega) hbase ?_
  · have hj' : j < m.length := by have := (List.getElem?_eq_some_iff.1 hj).1; simpa [enc8] using this
    rw [enc8_get m j hj'] at hj
    cases hj
    rw [Lib.add_plain']
    exact hc j hj'
  · intro g' cap w' r1 r2 r3
    refine hK _ _ ?_ r2 (fun r hr => ?_)
    · unfold OB
      rw [enc8_append, List.length_append]
      exact r1
    · have : g' = r := by simpa [Value.ownBlock] using hr
      subst this
      exact r3
theorem wpBI_appendS {F : Fence} {n : Nat} {w : World} {ops : Array Oper} {rest : List Oper} {o : Oper} {a : Act} {Q : Exit → Act → World → Prop}
    (hg : o.guard = none) (s x : Operand) (hop : o.op = Op.call { callee := Callee.builtin Builtin.append, args := #[s, x], argTypes := #[22, 9] })
    (base : Nat) (v : Value) (l m : List UInt8) (str : ByteArray) (hs : a.eval s = v) (hown : OB w base v l) (hx : a.eval x = .string str) (hm : str.data.toList = m) (hlen : l.length + m.length ≤ 140737488355328) (hbase : base ≤ w.heap.size)
    (hK : ∀ v' w', OB w' base v' (l ++ m) → w.grownBy w' v.ownBlock → wpListIn F n Try.prog ops Q rest (a.put o.dst v') w') :
    wpListIn F n Try.prog ops Q (o :: rest) a w := by
  obtain ⟨i0, hi, hz0, hz1, hz2⟩ := info_parts info5
  have hsz : str.size = m.length := by rw [← hm, Array.length_toList]; rfl
  have hsc : Lib.strCells str = enc8 m := by rw [← hm]; rfl
  refine wpListIn_plain hg fun K hK' => ?_
  obtain ⟨v', w', hrun, r1, r2, _⟩ := Lib.run_append_own_string (P := Try.prog) w base 22 9 o.type 5 i0 Try.underlying22 Try.underlying9 hi hz0 hz1 hz2 v l.length (enc8 l) hown str (by unfold maxLen; omega) (by omega) hbase
  unfold Oper.wpIn
  refine ⟨?_, ?_⟩
  · simp [Oper.about, hop, resolve, Target.leads, Sem.run_pure]
  · rw [Oper.semAt_plain F _ _ (by rw [hop]; intro c hc'; cases hc')]
    simp [execOp, hop, resolve, invoke, builtin, hs, hx, hrun, Result.andThen]
    refine hK' _ _ (hK v' w' ?_ r2)
    unfold OB
    rw [enc8_append, List.length_append, ← hsc, ← hsz]
    exact r1
theorem ownsRow_keepOn {n₀ base : Nat} {D : Nat → Prop} {W W' : World} {e : TypeId} {size : Nat} {v : Value} {k : Nat} {xs : List Value} (h : W.ownsRow base e size v k xs) (hk : KeepOn n₀ D W W') (hd : ∀ r, v.ownBlock = some r → D r) : W'.ownsRow base e size v k xs := by
  obtain ⟨hl, h⟩ := h
  refine ⟨hl, ?_⟩
  rcases h with h | ⟨g, cap, cur, rfl, hb, hg, r⟩
  · exact .inl h
  · exact .inr ⟨g, cap, cur, rfl, hb, (hk.block g (Array.getElem?_eq_some_iff.1 hg).1 (.inr (hd g rfl))).trans hg, r⟩
/-- an own row whose variable lies in B1 -/
def Grown (n₀ B1 : Nat) (w : World) (pre : List UInt8) (D : Nat → Prop) (W : World) (v : Value) : Prop :=
  Boxed W B1 22 v ∧ OB W n₀ v pre ∧ D B1 ∧ (∀ r, v.ownBlock = some r → D r) ∧ Below n₀ w W ∧ n₀ ≤ W.heap.size
theorem Grown.keep {n₀ B1 : Nat} {w W W' : World} {pre : List UInt8} {D : Nat → Prop} {v : Value} (h : Grown n₀ B1 w pre D W v) (hk : KeepOn n₀ D W W') : Grown n₀ B1 w pre D W' v := by
  obtain ⟨h1, h2, h3, h4, h5, h6⟩ := h
  exact ⟨boxed_keepOn h1 hk (.inr h3), ownsRow_keepOn h2 hk h4, h3, h4, h5.trans (hk.below h6), Nat.le_trans h6 hk.size⟩
theorem grown_put {n₀ B1 : Nat} {w W w1 : World} {M D : Nat → Prop} {v v' : Value} {pre pre' : List UInt8} (hB1 : n₀ ≤ B1) (h : Grown n₀ B1 w pre D W v) (hDb : ∀ b, D b → b < W.heap.size) (hMD : ∀ b, M b → b < W.heap.size ∧ ¬ D b)
    (hown : OB w1 n₀ v' pre') (hgrow : W.grownBy w1 v.ownBlock) (hnew : ∀ r, v'.ownBlock = some r → v.ownBlock = some r ∨ r = W.heap.size) :
    ∃ D', (∀ b, D b → D' b) ∧ (∀ b, D' b → b < (w1.setCell ⟨B1, 0, none⟩ v').heap.size ∧ ¬ M b) ∧ KeepOn n₀ M W (w1.setCell ⟨B1, 0, none⟩ v') ∧ (∀ b, b < W.heap.size → b ≠ B1 → v.ownBlock ≠ some b → (w1.setCell ⟨B1, 0, none⟩ v').heap[b]? = W.heap[b]?) ∧ Grown n₀ B1 w pre' D' (w1.setCell ⟨B1, 0, none⟩ v') v' := by
  obtain ⟨h1, h2, h3, h4, h5, h6⟩ := h
  have hM1 : ¬ M B1 := fun h => (hMD B1 h).2 h3
  have k1 : KeepOn n₀ M W w1 := KeepOn.of_grown hgrow (fun r hr => ⟨(h2.lt r hr).1, fun h => (hMD r h).2 (h4 r hr)⟩)
  have k2 : KeepOn n₀ M W (w1.setCell ⟨B1, 0, none⟩ v') := k1.trans (KeepOn.setCell w1 B1 v' hB1 hM1)
  have hbx1 : Boxed w1 B1 22 v := h1.kept hgrow (h1.not_row (by decide) h2)
  have hne : some B1 ≠ v'.ownBlock := hbx1.not_row (by decide) hown
  have hsz : (w1.setCell ⟨B1, 0, none⟩ v').heap.size = w1.heap.size := by simp [World.setCell]
  refine ⟨fun b => D b ∨ v'.ownBlock = some b, fun b hb => .inl hb, fun b hb => ?_, k2, fun b hlt hb1 hb2 => ?_, hbx1.set v', ?_, .inl h3, fun r hr => .inr hr, h5.trans (k2.below h6), Nat.le_trans h6 k2.size⟩
  · rcases hb with hb | hb
    · exact ⟨Nat.lt_of_lt_of_le (hDb b hb) k2.size, fun hm => (hMD b hm).2 hb⟩
    · refine ⟨by rw [hsz]; exact (hown.lt b hb).2, fun hm => ?_⟩
      rcases hnew b hb with h | h
      · exact (hMD b hm).2 (h4 b h)
      · have := (hMD b hm).1; omega
  · rw [heap_setCell_other w1 ⟨B1, 0, none⟩ b _ hb1]
    exact hgrow.block b hlt (fun h => hb2 h.symm)
  · exact ownsRow_keepOn (n₀ := n₀) (D := fun b => b ≠ B1) hown (KeepOn.setCell w1 B1 v' hB1 (fun h => h rfl)) (fun r hr h => hne (by rw [← h]; exact hr.symm))

/-- what has been stuffed ahead of line k -/
def preS (l : List UInt8) (k : Nat) : List UInt8 := (((lns l).take k).map stuff1).flatten
theorem preS_snoc (l : List UInt8) (k : Nat) (x : List UInt8) (h : (lns l)[k]? = some x) : preS l (k + 1) = preS l k ++ stuff1 x := by
  have hk : k < (lns l).length := (List.getElem?_eq_some_iff.1 h).1
  rw [List.getElem?_eq_getElem hk] at h
  cases h
  unfold preS
  rw [List.take_succ_eq_append_getElem hk, List.map_append, List.flatten_append]
  simp only [List.map_cons, List.map_nil, List.flatten_cons, List.flatten_nil, List.append_nil]
theorem preS_all (l : List UInt8) : preS (closeL l) (lns (closeL l)).length ++ [46, 13, 10] = stuffL l := by
  unfold preS stuffL
  rw [List.take_length]
theorem stuff1_len (x : List UInt8) : (stuff1 x).length ≤ x.length + 1 := by unfold stuff1; split <;> simp
theorem flat_len : ∀ (ls : List (List UInt8)), (ls.map stuff1).flatten.length ≤ ls.flatten.length + ls.length
  | [] => by simp
  | x :: t => by
    have := flat_len t
    have := stuff1_len x
    simp only [List.map_cons, List.flatten_cons, List.length_append, List.length_cons]
    omega
theorem take_flat_len : ∀ (ls : List (List UInt8)) (k : Nat), (ls.take k).flatten.length ≤ ls.flatten.length
  | [], k => by simp
  | x :: t, 0 => by simp
  | x :: t, k + 1 => by
    have := take_flat_len t k
    simp only [List.take_succ_cons, List.flatten_cons, List.length_append]
    omega
theorem preS_len (l : List UInt8) (k : Nat) : (preS l k).length ≤ 2 * l.length := by
  have h1 := flat_len ((lns l).take k)
  have h2 := take_flat_len (lns l) k
  have h3 := lns_len l.length l (Nat.le_refl _)
  unfold preS
  rw [List.length_take] at h1
  omega
theorem closeL_len (l : List UInt8) : (closeL l).length ≤ l.length + 2 := by unfold closeL; split <;> simp
theorem line_len (l x : List UInt8) (k : Nat) (h : (lns l)[k]? = some x) : 2 ≤ x.length ∧ x.length ≤ l.length := by
  have hm := List.mem_of_getElem? h
  refine ⟨(lns_lines l.length l (Nat.le_refl _) x hm).len, ?_⟩
  have h3 := (lns_len l.length l (Nat.le_refl _)).2
  have : ∀ (ls : List (List UInt8)), x ∈ ls → x.length ≤ ls.flatten.length := by
    intro ls
    induction ls with
    | nil => simp
    | cons y t ih =>
      intro h
      rcases List.mem_cons.1 h with rfl | h
      · rw [List.flatten_cons, List.length_append]; omega
      · have := ih h; rw [List.flatten_cons, List.length_append]; omega
  have := this _ hm
  omega
theorem belowK_bD {n₀ : Nat} {w W : World} (h : Below n₀ w W) (dk : Nat) (o : Obj) (hn : n₀ ≤ dk) : Below n₀ w (W.putObj dk o) :=
  h.trans ⟨rfl, rfl, rfl, by simp [World.putObj], fun k hk => World.putObj_heap_other (by omega)⟩
set_option maxRecDepth 100000 in
set_option maxHeartbeats 4000000 in
/-- **Stuff** -/
theorem stuff_any (v : Value) (l : List UInt8) (w : World) (hlen : l.length ≤ 500000) (hml : ML w) (h : SB w v l) :
    Calls Try.prog 43 #[v] w fun e w' => ∃ u, e = .returned u ∧ OB w' w.heap.size u (stuffL l) ∧ Below w.heap.size w w' := by
  obtain ⟨A, c, rfl, -, -, -⟩ := h.form
  have hcl := fun w' hb => close_any _ l w' (by omega) (h.below (W' := w') hb)
  obtain ⟨L, hL⟩ : ∃ L, l.length = L := ⟨_, rfl⟩
  rw [hL] at hlen ⊢
  simp only [hL] at hcl
  have HCL := Lib.hid hcl
  have HL := Lib.hid hL
  clear h hcl hL
  refine (callsIn_wide (n := 0)).1 ?_
  refine callsIn_of_wp_marks Try.func43 rfl trivial ?_
  simp only [Try.ntmps43, List.size_toArray, List.length_cons, List.length_nil, Nat.reduceAdd, Nat.reduceSub, Array.replicate_succ, Array.replicate_zero, List.push_toArray, List.append_toArray, List.nil_append, List.cons_append]
  gi_wp2_with fail
  have hba : Below w.heap.size w (w.alloc (.cells #[.slice none 0 0] 22)) := (Below.refl _ w).alloc (Nat.le_refl _) _
  refine ⟨trivial, rfl, (callsIn_wide.2 (HCL.out _ hba)).mono ?_⟩
  rintro e w2 ⟨u, rfl, ho, hb2⟩
  obtain ⟨A', c', rfl, -, -, -⟩ := ho.reads.form
  gi_wp2_with fail
  refine ⟨trivial, rfl, (callsIn_wide.2 (lines_any _ _ _ _)).mono ?_⟩
  rintro e w3 ⟨rfl, rfl⟩
  gi_wp2_with fail
  obtain ⟨B1, hB1⟩ : ∃ B, w.heap.size = B := ⟨_, rfl⟩
  obtain ⟨B2, hB2⟩ : ∃ B, w2.heap.size = B := ⟨_, rfl⟩
  obtain ⟨W0, hW0⟩ : ∃ W0, w2.alloc (.cells #[.slice A' (closeL l).length c'] 22) = W0 := ⟨_, rfl⟩
  have hs1 : (w.alloc (.cells #[.slice none 0 0] 22)).heap.size = B1 + 1 := by rw [alloc_size, hB1]
  have hs2 : B1 + 1 ≤ B2 := by rw [← hB2, ← hs1]; exact hb2.size
  have hs0 : W0.heap.size = B2 + 1 := by rw [← hW0, alloc_size, hB2]
  have hbx0 : Boxed w2 B1 22 (.slice none 0 0) := by
    have := Boxed.new w 22 (.slice none 0 0)
    rw [hB1] at this
    exact (hb2.block B1 (by rw [hs1]; omega)).trans this
  have hbx0' : Boxed W0 B1 22 (.slice none 0 0) := by rw [← hW0]; exact hbx0.alloc _
  have hBW : Below B1 w W0 := by
    have h1 : Below B1 w w2 := by rw [← hB1]; exact hba.trans (hb2.mono hba.size)
    rw [← hW0]
    exact h1.alloc (by rw [hB2]; omega) _
  have hbx2 : Boxed W0 B2 22 (.slice A' (closeL l).length c') := by
    rw [← hW0, ← hB2]
    exact Boxed.new w2 22 _
  have hlt := fun g hg => ho.lt g hg
  have hsk : SBK B1 (Value.slice A' (closeL l).length c').ownBlock W0 (.slice A' (closeL l).length c') (closeL l) := by
    refine SBK.below (W := w2) ⟨ho.reads, fun h0 => ?_⟩ (by rw [← hW0]; exact (Below.refl _ _).alloc (Nat.le_refl _) _)
    obtain ⟨_, hh⟩ := ho
    rcases hh with ⟨_, hz⟩ | ⟨g, cap, cur, e, _⟩
    · omega
    · cases e
      exact ⟨g, rfl, .inr rfl⟩
  obtain ⟨G, hG⟩ : ∃ G, (Value.slice A' (closeL l).length c').ownBlock = G := ⟨_, rfl⟩
  rw [hG] at hsk hlt
  have hcll := closeL_len l
  have hll : (closeL l).length ≤ 500002 := by have := HL.out; omega
  rw [hW0]
  obtain ⟨cl, hcl⟩ : ∃ cl, closeL l = cl := ⟨_, rfl⟩
  have HCE := Lib.hid hcl
  rw [hcl] at hsk hbx2 hll ⊢
  rw [hs1] at hlt
  rw [hB1, hB2]
  clear hW0 hs1 hbx0 hba hb2 ho hG hcl hcll
  refine wpIn_rangeFunc_D (gf := 100) (lb := #[.pointer (some ⟨B2, 0, none⟩)]) (n₀ := B1) rfl (enters_of Try.func100 (by kernel_rfl) rfl)
    (lines1_seq B1 B2 G A' c' cl (by omega) w W0 hB1 hBW (by omega) hml hsk hbx2 (fun g hg => by have := (hlt g hg).2; rw [hB2] at this; omega)) (fun x az _ _ h => by obtain ⟨v, rfl, _⟩ := h; rfl)
    (fun x az M W lp dk r o ds h h1 h2 => EncL.loop B1 x az M W lp dk r o ds h h1 h2) (by rw [hs0]; omega) (Below.refl _ _)
    (fun b => b = B1) (fun b h => by subst h; rw [hs0]; omega) (fun b h => by
      rcases h with rfl | h
      · exact ⟨by omega, by rw [hs0]; omega, rfl⟩
      · have := hlt b h
        rw [hB2] at this
        exact ⟨by omega, by rw [hs0]; omega, rfl⟩)
    (fun k D W => ∃ v, Grown B1 B1 w (preS cl k) D W v) (fun _ _ _ _ => False) (fun k D W W' ⟨v, h⟩ hk => ⟨v, h.keep hk⟩) (fun c k D W W' h _ => h)
    ⟨_, hbx0', World.ownsRow_nil _ _ _ _, rfl, fun r hr => by simp [Value.ownBlock] at hr, hBW, by rw [hs0]; omega⟩
    (fun az => { tmps := #[.slice A L c, undef, .slice none 0 0, .pointer (some ⟨B1, 0, none⟩), az[0]?.getD undef, .slice A L c, .slice A' cl.length c', .func (.func 100) #[] #[.pointer (some ⟨B2, 0, none⟩)], az[0]?.getD undef, undef, undef, undef, undef, undef, undef, undef, undef, undef, undef, undef, undef], defers := [] }) ?assign ?body ?done ?stop
  case assign =>
    rintro lp x az M W K ⟨v, rfl, hv, -⟩ hK
    obtain ⟨A1, c1, rfl, -, -, -⟩ := hv.form
    gi_wp2
    exact hK
  case body =>
    rintro lp k x az D M W hx ⟨u, rfl, hu⟩ ⟨v, hg⟩ hDb hMD
    have hxl := line_len cl x k hx
    have hsn := preS_snoc cl k x hx
    have hpl := preS_len cl k
    obtain ⟨A1, c1, rfl, -, -, -⟩ := hu.1.form
    obtain ⟨g, o, rfl, hc0⟩ := hu.1.cellAt 0 (by omega)
    rw [Nat.add_zero] at hc0
    have p0 : (0 : Int) < (x.length : Int) := by omega
    have hcB := hg.1.cell
    have hfB := hg.1.frozen
    obtain ⟨pr, hpr⟩ : ∃ pr, preS cl k = pr := ⟨_, rfl⟩
    rw [hpr] at hsn hpl hg
    have HSN := Lib.hid hsn
    have HM := Lib.hid hMD
    have HDb := Lib.hid hDb
    have HU := Lib.hid hu
    have HG := Lib.hid hg
    have HPL := Lib.hid hpl
    have HXL := Lib.hid hxl
    clear hsn hpl hg hu hMD hDb hxl hpr hx
    by_cases hd : gb x 0 = 46
    · have q : ((gb x 0 : Int) == 46) = true := beq_iff_eq.2 (by omega)
      have hst : stuff1 x = 46 :: x := by unfold stuff1; rw [if_pos hd]
      have HST := Lib.hid hst
      clear hd hst
      have hba : Below W.heap.size W (W.alloc (.cells #[.int .u8 46] 5)) := (Below.refl _ _).alloc (Nat.le_refl _) _
      have hg1 : Grown B1 B1 w pr D (W.alloc (.cells #[.int .u8 46] 5)) v := HG.out.keep (KeepOn.of_below hba)
      have hlit := (OB_lit W #[.int .u8 46] [46] (by simp) rfl).reads
      have HG1 := Lib.hid hg1
      have HLIT := Lib.hid hlit
      have HBA := Lib.hid hba
      clear hba hg1 hlit
      gi_wp2_with (gi_at_builtin; first
        | (refine wpBI_append rfl _ _ rfl B1 _ _ pr [46] rfl HG1.out.2.1 rfl HLIT.out (by simp) (by have := HPL.out; simp; omega) HG1.out.2.2.2.2.2 ?_; intro v5 w5 hown5 hgrow5 hnew5; obtain ⟨pr2, hpr2⟩ : ∃ q, pr ++ [46] = q := ⟨_, rfl⟩; rw [hpr2] at hown5; have Hpr2 := Lib.hid hpr2; obtain ⟨A5, c5, rfl, -, -, -⟩ := hown5.reads.form; have hv5 := HG1.out.1.kept hgrow5 (HG1.out.1.not_row (by decide) HG1.out.2.1); have hv5c := hv5.cell; have hv5f := hv5.frozen; obtain ⟨D5, hDa5, hDb5, hk5, hs5, hg5⟩ := grown_put (M := M) (Nat.le_refl B1) HG1.out (fun b hb => Nat.lt_of_lt_of_le (HDb.out b hb) HBA.out.size) (fun b hb => ⟨Nat.lt_of_lt_of_le (HM.out b hb).1 HBA.out.size, (HM.out b hb).2⟩) hown5 hgrow5 hnew5; have hgc5 := hg5.1.cell; have hgf5 := hg5.1.frozen; have HK5 := Lib.hid ((KeepOn.of_below (n₀ := B1) (D := M) HBA.out).trans hk5); have HU5 := Lib.hid (HU.out.keep HK5.out); have HG5 := Lib.hid hg5; have HD5 := Lib.hid hDb5; have HMM5 : Hid (∀ b, M b → b < _ ∧ ¬ D5 b) := fun b hb => ⟨Nat.lt_of_lt_of_le (HM.out b hb).1 HK5.out.size, fun h => (hDb5 b h).2 hb⟩; clear hown5 hgrow5 hnew5 hg5 hDa5 hDb5 hk5 hs5 hv5 hpr2)
        | (refine wpBI_append rfl _ _ rfl B1 _ _ pr2 x rfl HG5.out.2.1 rfl HU5.out.1 (by have := HXL.out; omega) (by have := HPL.out; have := HXL.out; have := congrArg List.length Hpr2.out; simp at this; omega) HG5.out.2.2.2.2.2 ?_; intro v6 w6 hown6 hgrow6 hnew6; obtain ⟨pr3, hpr3⟩ : ∃ q, pr2 ++ x = q := ⟨_, rfl⟩; rw [hpr3] at hown6; have Hpr3 := Lib.hid hpr3; obtain ⟨A6, c6, rfl, -, -, -⟩ := hown6.reads.form; have hv6 := HG5.out.1.kept hgrow6 (HG5.out.1.not_row (by decide) HG5.out.2.1); have hv6c := hv6.cell; have hv6f := hv6.frozen; obtain ⟨D6, hDa6, hDb6, hk6, hs6, hg6⟩ := grown_put (M := M) (Nat.le_refl B1) HG5.out (fun b hb => (HD5.out b hb).1) HMM5.out hown6 hgrow6 hnew6; have hgc6 := hg6.1.cell; have hgf6 := hg6.1.frozen; have HK6 := Lib.hid ((HK5.out).trans hk6); have HU6 := Lib.hid (HU.out.keep HK6.out); have HG6 := Lib.hid hg6; have HD6 := Lib.hid hDb6; have HMM6 : Hid (∀ b, M b → b < _ ∧ ¬ D6 b) := fun b hb => ⟨Nat.lt_of_lt_of_le (HM.out b hb).1 HK6.out.size, fun h => (hDb6 b h).2 hb⟩; clear hown6 hgrow6 hnew6 hg6 hDa6 hDb6 hk6 hs6 hv6 hpr3))
      exact ⟨D6, HD6.out, HK6.out, .slice A6 pr3.length c6, by rw [HSN.out, HST.out, show pr ++ 46 :: x = pr3 by rw [← Hpr3.out, ← Hpr2.out]; simp]; exact HG6.out⟩
    · have q : ((gb x 0 : Int) == 46) = false := beq_eq_false_iff_ne.2 (by omega)
      have hst : stuff1 x = x := by unfold stuff1; rw [if_neg hd]
      have HST := Lib.hid hst
      clear hd hst
      gi_wp2_with (gi_at_builtin; (refine wpBI_append rfl _ _ rfl B1 _ _ pr x rfl HG.out.2.1 rfl HU.out.1 (by have := HXL.out; omega) (by have := HPL.out; have := HXL.out; omega) HG.out.2.2.2.2.2 ?_; intro v6 w6 hown6 hgrow6 hnew6; obtain ⟨pr3, hpr3⟩ : ∃ q, pr ++ x = q := ⟨_, rfl⟩; rw [hpr3] at hown6; have Hpr3 := Lib.hid hpr3; obtain ⟨A6, c6, rfl, -, -, -⟩ := hown6.reads.form; have hv6 := HG.out.1.kept hgrow6 (HG.out.1.not_row (by decide) HG.out.2.1); have hv6c := hv6.cell; have hv6f := hv6.frozen; obtain ⟨D6, hDa6, hDb6, hk6, hs6, hg6⟩ := grown_put (M := M) (Nat.le_refl B1) HG.out HDb.out HM.out hown6 hgrow6 hnew6; have hgc6 := hg6.1.cell; have hgf6 := hg6.1.frozen; have HK6 := Lib.hid ((KeepOn.refl B1 M W).trans hk6); have HU6 := Lib.hid (HU.out.keep HK6.out); have HG6 := Lib.hid hg6; have HD6 := Lib.hid hDb6; have HMM6 : Hid (∀ b, M b → b < _ ∧ ¬ D6 b) := fun b hb => ⟨Nat.lt_of_lt_of_le (HM.out b hb).1 HK6.out.size, fun h => (hDb6 b h).2 hb⟩; clear hown6 hgrow6 hnew6 hg6 hDa6 hDb6 hk6 hs6 hv6 hpr3))
      exact ⟨D6, HD6.out, HK6.out, .slice A6 pr3.length c6, by rw [HSN.out, HST.out, Hpr3.out]; exact HG6.out⟩
  case done =>
    rintro dk D W hdk ⟨v, hg⟩ hK hDk
    rw [hs0] at hdk
    have hfin := preS_all l
    rw [HCE.out] at hfin
    have hpl := preS_len cl (lns cl).length
    obtain ⟨pr, hpr⟩ : ∃ pr, preS cl (lns cl).length = pr := ⟨_, rfl⟩
    rw [hpr] at hfin hpl hg
    have hcB := hg.1.cell
    have hfB := hg.1.frozen
    have HG := Lib.hid hg
    have HFIN := Lib.hid hfin
    have HPL := Lib.hid hpl
    have HK := Lib.hid hK
    have HDK := Lib.hid hDk
    have hdk2 : B2 + 1 ≤ dk := by omega
    clear hg hfin hpl hpr hK hDk hdk
    gi_wp2_with (gi_at_builtin; refine wpBI_appendS rfl _ _ rfl B1 _ pr [46, 13, 10] ⟨#[46, 13, 10]⟩ rfl HG.out.2.1 rfl rfl (by have := HPL.out; simp; omega) HG.out.2.2.2.2.2 ?_; intro v1 w1 hown1 hgrow1)
    have hlt2 : dk < W.heap.size := (Array.getElem?_eq_some_iff.1 HK.out).1
    have hne : some dk ≠ v.ownBlock := fun h => HDK.out (HG.out.2.2.2.1 dk h.symm)
    have hK2 : w1.heap[dk]? = some (.deferred (some [])) := (hgrow1.block dk hlt2 hne).trans HK.out
    refine ⟨by simp, .inl ⟨_, _, rfl, run_takeDeferred hK2, ?_⟩⟩
    refine ⟨_, results_tmp rfl _ _ _, v1, rfl, ?_, ?_⟩
    · rw [HFIN.out] at hown1
      rw [hB1]
      refine ownsRow_keepOn (n₀ := B1) (D := fun b => b ≠ dk) hown1 (KeepOn.putObj w1 dk _ (by omega) (fun h => h rfl)) (fun r hr h => ?_)
      subst h
      obtain ⟨_, hh⟩ := hown1
      rcases hh with ⟨rfl, _⟩ | ⟨g, cap, cur, rfl, _, hgc, _⟩
      · simp [Value.ownBlock] at hr
      · have : g = r := by simpa [Value.ownBlock] using hr
        subst this
        rw [hgc] at hK2
        cases hK2
    · have hb : Below B1 w w1 := HG.out.2.2.2.2.1.grown hgrow1 HG.out.2.2.2.2.2 (fun r hr => (HG.out.2.1.lt r hr).1)
      rw [hB1]
      exact belowK_bD hb dk _ (by omega)
  case stop =>
    rintro dk c k D W _ h _ _
    exact h.elim
end Go.Proofs.Ytlgodokgebjjaaa
