/- the heap of lists: what is left, the first one cut, what a yield leaves. -/
import Derived.RangeFuncNested
import Derived.RangeFuncBound
import Derived.RangeFuncCalls
import Derived.RangeFuncLeaves
import Derived.Shelf.Abstract
import Derived.Shelf.RegionOpen
import Derived.WalkKit
import Derived.OwnWalkIn
import Derived.TacticsInMore
import Derived.LoopNIn
import Derived.LoopIn
import Derived.Outline
import Derived.Lib.Hide
import Derived.Lib.SliceRun
import Derived.IntWalk
import Derived.WalkLawsBesides
import Derived.WalkSpells
import Derived.Laws.BitsAllLaws
import Derived.Lib.ConvBytes
import Derived.Maps.AppendAt
import Derived.Lib.AppendStr
import Derived.Lib.SlBytesConst
import Derived.Laws.AppendOwnNone
import Derived.Laws.OwnMore
import Derived.Laws.BytesArg
import Derived.Deep.RegionHeld3
import Derived.BigQuiet
import Derived.Deep.RegionLaw
import Derived.Deep.QuietTactic
import Derived.Lib.OthersKept
import Derived.Test.YtlgodokgebjjaaaProg
import Derived.Deep.DeepFit
import Derived.Test.YtlgodokgebjjaaaPoL
import Derived.Test.YtlgodokgebjjaaaPoG
set_option linter.unusedVariables false
set_option linter.unusedSimpArgs false
namespace Go.Proofs.Ytlgodokgebjjaaa
open Go Go.RowKit Go.Shelf

/-- how many numbers the heap at B holds -/
def leftF (W : World) (B : Nat) : Nat := match W.cell? ⟨B, 0, none⟩ with
  | some (.slice (some ⟨g, _, _⟩) n _) => ((List.range n).map fun i => match W.cell? ⟨g, i, none⟩ with
    | some (.slice _ m _) => m
    | _ => 0).sum
  | _ => 0
theorem leftF_row {W : World} {B g n c : Nat} {es : List El} (hc : W.cell? ⟨B, 0, none⟩ = some (.slice (some ⟨g, 0, none⟩) n c)) (hn : n = es.length) (h : ∀ i (h : i < es.length), W.cell? ⟨g, i, none⟩ = some es[i].1) (hE : ∀ e ∈ es, ∃ A c, e.1 = .slice A e.2.length c) : leftF W B = totF (es.map (·.2)) := by
  unfold leftF totF
  rw [hc]
  simp only
  congr 1
  subst hn
  apply List.ext_getElem
  · simp
  · intro i h1 h2
    have hi : i < es.length := by simpa using h1
    obtain ⟨A, c, e⟩ := hE es[i] (List.getElem_mem hi)
    simp only [List.getElem_map, List.getElem_range]
    rw [h i hi, e]
theorem HF.left {W : World} {n₀ B : Nat} {K : KK} {xs : LL} (h : HF W n₀ B K xs) : leftF W B = totF xs := by
  obtain ⟨v, hbx, ⟨es, h1, rfl, h3⟩, -⟩ := h
  rcases h1.2 with ⟨rfl, h0⟩ | ⟨g', cap, cur, rfl, hb, hg, hc, hm, hs, ht⟩
  · have : es = [] := by simpa using h0
    subst this
    unfold leftF
    rw [hbx.cell]
    rfl
  · refine leftF_row (es := es) hbx.cell (by simp) (fun i hi => ?_) (fun e he => ?_)
    · obtain ⟨a1, -⟩ := h1.cells i (by simpa using hi)
      rw [a1]; simp
    · obtain ⟨A, c, e', -⟩ := (h3 e he).1
      exact ⟨A, c, e'⟩
/-- the first list, as it lies -/
theorem HF.first {W : World} {n₀ B : Nat} {K : KK} {x : List Int} {xs : LL} (h : HF W n₀ B K (x :: xs)) (hx : x ≠ []) (hB : n₀ ≤ B) :
    ∃ g c A1 c1, Boxed W B 110 (.slice (some ⟨g, 0, none⟩) (xs.length + 1) c) ∧ W.cell? ⟨g, 0, none⟩ = some (.slice A1 x.length c1) ∧ W.frozen? ⟨g, 0, none⟩ = false ∧ (∃ g1 o1, A1 = some ⟨g1, o1, none⟩ ∧ W.cell? ⟨g1, o1, none⟩ = some (.int .i64 (hdI x))) ∧ x.length ≤ c1 ∧ c1 ≤ 9223372036854775807 ∧ B ≠ g ∧
      HF (W.setCell ⟨g, 0, none⟩ (.slice (cutA A1 c1 1) (x.length - 1) (c1 - 1))) n₀ B K (x.tail :: xs) ∧ KeepOn n₀ K W (W.setCell ⟨g, 0, none⟩ (.slice (cutA A1 c1 1) (x.length - 1) (c1 - 1))) ∧
      Boxed (W.setCell ⟨g, 0, none⟩ (.slice (cutA A1 c1 1) (x.length - 1) (c1 - 1))) B 110 (.slice (some ⟨g, 0, none⟩) (xs.length + 1) c) ∧ (W.setCell ⟨g, 0, none⟩ (.slice (cutA A1 c1 1) (x.length - 1) (c1 - 1))).cell? ⟨g, 0, none⟩ = some (.slice (cutA A1 c1 1) (x.length - 1) (c1 - 1)) := by
  obtain ⟨v, hbx, hrow, hvK, hBK, hKs⟩ := h
  obtain ⟨g, c, rfl, hgb, hgl, hcap, hcap2⟩ := hrow.form (by simp)
  have hBg := boxF_row hbx hrow
  have hKg := hvK g rfl
  obtain ⟨es, h1, h2, h3⟩ := hrow
  obtain ⟨e0, es, rfl⟩ : ∃ e0 es', es = e0 :: es' := by cases es with | nil => simp at h2 | cons a b => exact ⟨a, b, rfl⟩
  simp only [List.map_cons, List.cons.injEq] at h2
  obtain ⟨rfl, rfl⟩ := h2
  obtain ⟨a1, -⟩ := h1.cells 0 (by simp)
  obtain ⟨g1, o1, c1, e1, hp, hle, hle2, hcell⟩ := (h3 e0 (by simp)).1.head hx
  simp only [List.map_cons, List.getElem_cons_zero] at a1
  rw [e1] at a1
  obtain ⟨s1, s2⟩ := h1.stored 0 (.slice (cutA (some ⟨g1, o1, none⟩) c1 1) (e0.2.length - 1) (c1 - 1))
  have hk : KeepOn n₀ K W (W.setCell ⟨g, 0, none⟩ (.slice (cutA (some ⟨g1, o1, none⟩) c1 1) (e0.2.length - 1) (c1 - 1))) := KeepOn.of_grown s2 (fun k e => by cases e; exact ⟨hgb, hKg⟩)
  have hbx2 : Boxed (W.setCell ⟨g, 0, none⟩ (.slice (cutA (some ⟨g1, o1, none⟩) c1 1) (e0.2.length - 1) (c1 - 1))) B 110 (.slice (some ⟨g, 0, none⟩) (e0.2 :: es.map (·.2)).length c) := Boxed.kept hbx s2 (by simpa using hBg)
  have hnd := h3 e0 (by simp)
  have hcut : ND n₀ K.el W (.slice (cutA (some ⟨g1, o1, none⟩) c1 1) (e0.2.length - 1) (c1 - 1)) e0.2.tail := by
    have hns := hnd.1
    rw [e1] at hns
    have := hns.drop 1 (e0.2.length - 1) (c1 - 1) hp rfl rfl
    refine ⟨by simpa using this, fun g' o' n' c' e hne => ?_⟩
    unfold cutA at e
    split at e
    · rename_i hcc
      cases e
      exact hnd.2 _ _ _ _ e1 hx
    · simp [Addr.add] at e
      obtain ⟨⟨rfl, rfl⟩, -⟩ := e
      exact hnd.2 g1 o1 _ _ e1 hx
  refine ⟨g, c, _, c1, by simpa using hbx, a1, h1.frozenAt 0, ⟨g1, o1, rfl, hcell⟩, hle, hle2, hBg, ⟨_, hbx2, ⟨(.slice (cutA (some ⟨g1, o1, none⟩) c1 1) (e0.2.length - 1) (c1 - 1), e0.2.tail) :: es, by simpa using s1, by simp, ?_⟩, hvK, hBK, fun b hb => Nat.lt_of_lt_of_le (hKs b hb) hk.size⟩, hk, by simpa using hbx2, ?_⟩
  · intro e he
    rcases List.mem_cons.1 he with rfl | he
    · exact hcut.keep hk K.sub
    · exact (h3 e (List.mem_cons_of_mem _ he)).keep hk K.sub
  · obtain ⟨b1, -⟩ := s1.cells 0 (by simp)
    simpa using b1
/-- what the iterator calls its own -/
def ownF (W : World) (B : Nat) (K : KK) (b : Nat) : Prop := b = B ∨ K.el b ∨ ∃ A n c, Boxed W B 110 (.slice A n c) ∧ (Value.slice A n c).ownBlock = some b
theorem HF.own {W : World} {n₀ B : Nat} {K : KK} {D : Nat → Prop} {xs : LL} (h : HF W n₀ B K xs) (hD : ∀ b, D b → K.all b) (hE : ∀ b, K.el b → ¬ D b) : ∀ b, ownF W B K b → b < W.heap.size ∧ ¬ D b := by
  obtain ⟨v, hbx, hrow, hvK, hBK, hKs⟩ := h
  rintro b (rfl | hb | ⟨A, n, c, hbx', hb⟩)
  · exact ⟨hbx.lt, fun h => hBK (hD _ h)⟩
  · exact ⟨hKs b (K.sub b hb), hE b hb⟩
  · have e : v = .slice A n c := by
      have h1 := hbx.cell
      rw [hbx'.cell] at h1
      cases h1
      rfl
    subst e
    obtain ⟨es, h1, -⟩ := hrow
    exact ⟨(World.ownsRow.lt h1 b hb).2, fun h => hvK b hb (hD b h)⟩
/-- behind a yield -/
theorem HF.yielded {W W' : World} {n₀ B : Nat} {K : KK} {D' : Nat → Prop} {xs : LL} (h : HF W n₀ B K xs) (hk : KeepOn n₀ (ownF W B K) W W') (hD' : ∀ b, D' b → b < W'.heap.size ∧ ¬ ownF W B K b) :
    HF W' n₀ B ⟨fun b => D' b ∨ K.el b, K.el, fun _ h => .inr h⟩ xs := by
  obtain ⟨v, hbx, hrow, hvK, hBK, hKs⟩ := h
  have hsz := hk.size
  have hbx' : Boxed W' B 110 v := (hk.block B hbx.lt (.inr (.inl rfl))).trans hbx
  obtain ⟨es, h1, rfl, h3⟩ := hrow
  refine ⟨v, hbx', ⟨es, ?_, rfl, fun e he => (h3 e he).keep hk (fun b hb => .inr (.inl hb))⟩, ?_, ?_, ?_⟩
  · obtain ⟨hl, h⟩ := id h1
    refine ⟨hl, ?_⟩
    rcases h with h | ⟨g, cap, cur, rfl, hb, hg, r⟩
    · exact .inl h
    · refine .inr ⟨g, cap, cur, rfl, hb, ?_, r⟩
      rw [hk.block g (Array.getElem?_eq_some_iff.1 hg).1 (.inr (.inr (.inr ⟨_, _, _, hbx, rfl⟩)))]
      exact hg
  · intro r hr
    rintro (h | h)
    · refine (hD' r h).2 (.inr (.inr ?_))
      rcases h1.2 with ⟨rfl, -⟩ | ⟨g, cap, cur, rfl, -⟩
      · cases hr
      · exact ⟨_, _, _, hbx, hr⟩
    · exact hvK r hr (K.sub r h)
  · rintro (h | h)
    · exact (hD' B h).2 (.inl rfl)
    · exact hBK (K.sub B h)
  · rintro b (h | h)
    · exact (hD' b h).1
    · exact Nat.lt_of_lt_of_le (hKs b (K.sub b h)) hsz
/-- the lists that the heap begins with -/
def startF (ls : LL) : LL := (ls.filter fun l => !l.isEmpty).map srtI
theorem startF_snoc (ls : LL) (k : Nat) (h : k < ls.length) : startF (ls.take (k + 1)) = startF (ls.take k) ++ (if ls[k].isEmpty then [] else [srtI ls[k]]) := by
  unfold startF
  rw [List.take_succ_eq_append_getElem h, List.filter_append, List.map_append]
  congr 1
  cases ls[k] with
  | nil => rfl
  | cons a b => rfl
theorem startF_good (ls : LL) : ∀ l ∈ startF ls, l ≠ [] ∧ UpI l := by
  intro l hl
  obtain ⟨q, hq, rfl⟩ := List.mem_map.1 hl
  refine ⟨fun e => ?_, srtI_up q⟩
  have h2 := (List.mem_filter.1 hq).2
  cases q with
  | nil => simp at h2
  | cons a b =>
    have := (mem_srtI (a :: b) a).2 (by simp)
    rw [e] at this
    simp at this
theorem startF_mem (ls : LL) (y : Int) : (∃ l ∈ startF ls, y ∈ l) ↔ y ∈ ls.flatten := by
  rw [List.mem_flatten]
  constructor
  · rintro ⟨l, hl, hy⟩
    obtain ⟨q, hq, rfl⟩ := List.mem_map.1 hl
    exact ⟨q, (List.mem_filter.1 hq).1, (mem_srtI q y).1 hy⟩
  · rintro ⟨q, hq, hy⟩
    refine ⟨srtI q, List.mem_map.2 ⟨q, List.mem_filter.2 ⟨hq, ?_⟩, rfl⟩, (mem_srtI q y).2 hy⟩
    cases q with
    | nil => simp at hy
    | cons a b => rfl
theorem startF_len (ls : LL) : (startF ls).length ≤ ls.length := by
  unfold startF
  rw [List.length_map]
  exact List.length_filter_le _ _
/-- what merged hands out -/
def outM (ls : LL) : List Int := mergeF (totF (startF ls)) (initF ((startF ls).length / 2) (startF ls))
theorem outM_ok (ls : LL) : (outM ls).foldl keepM [] = srtI ls.flatten := by
  obtain ⟨h1, h2⟩ := initF_all (startF ls)
  obtain ⟨r1, r2, -⟩ := mergeF_ok (totF (startF ls)) (initF ((startF ls).length / 2) (startF ls)) (by rw [totF_perm h2]; exact Nat.le_refl _) (by rw [h2.length_eq]; exact h1) (fun l hl => startF_good ls l (h2.mem_iff.1 hl))
  refine merge_srt _ _ r1 fun y => ?_
  show y ∈ mergeF _ _ ↔ _
  rw [r2, ← startF_mem]
  constructor
  · rintro ⟨l, hl, hy⟩; exact ⟨l, h2.mem_iff.1 hl, hy⟩
  · rintro ⟨l, hl, hy⟩; exact ⟨l, h2.mem_iff.2 hl, hy⟩
theorem outM_len (ls : LL) : (outM ls).length = totF (startF ls) := by
  obtain ⟨h1, h2⟩ := initF_all (startF ls)
  obtain ⟨-, -, r3⟩ := mergeF_ok (totF (startF ls)) (initF ((startF ls).length / 2) (startF ls)) (by rw [totF_perm h2]; exact Nat.le_refl _) (by rw [h2.length_eq]; exact h1) (fun l hl => startF_good ls l (h2.mem_iff.1 hl))
  show (mergeF _ _).length = _
  rw [r3, totF_perm h2]
theorem step_enter {P : Program} {ops : Array Oper} {o : Oper} {a : Act} {w w' : World} {K : Act → World → Prop} {Q : Exit → Act → World → Prop} {E : Prop} (hgd : o.guard = none) {f : FuncId} {args : Array Value} (hr : (execOp a.eval o).run P w = .ok (.enter f args) w')
    (hC : Calls P f args w' fun e w'' => ∃ v, e = .returned v ∧ K (a.put o.dst v) w'') : if Region.wanted o (yielded ops a.tmps) = true then Oper.wp P o a w K Q else E := by
  have hw : Region.wanted o (yielded ops a.tmps) = true := by simp [Region.wanted, hgd]
  rw [if_pos hw]
  unfold Oper.wp
  rw [hr]
  refine Calls.mono hC ?_
  rintro e w'' ⟨v, rfl, hK⟩
  exact hK
end Go.Proofs.Ytlgodokgebjjaaa
