/- Slices of pairs of sums; the pairs on the way. -/
import Derived.RangeFuncNested
import Derived.RangeFuncBound
import Derived.RangeFuncCalls
import Derived.RangeFuncLeaves
import Derived.Shelf.Abstract
import Derived.Shelf.RegionOpen
import Derived.WalkKit
import Derived.OwnWalkIn
import Derived.TacticsInMore
import Derived.LoopNIn
import Derived.LoopIn
import Derived.Outline
import Derived.Lib.Hide
import Derived.Lib.SliceRun
import Derived.IntWalk
import Derived.WalkLawsBesides
import Derived.WalkSpells
import Derived.Laws.BitsAllLaws
import Derived.Lib.ConvBytes
import Derived.Maps.AppendAt
import Derived.Lib.AppendStr
import Derived.Lib.SlBytesConst
import Derived.Laws.AppendOwnNone
import Derived.Laws.OwnMore
import Derived.Laws.BytesArg
import Derived.Deep.RegionHeld3
import Derived.BigQuiet
import Derived.Deep.RegionLaw
import Derived.Deep.QuietTactic
import Derived.Lib.OthersKept
import Derived.Test.YtkipnhhdlohnfaaProg
import Derived.Deep.DeepFit
import Derived.Test.YtkipnhhdlohnfaaMkQ
import Derived.Test.YtkipnhhdlohnfaaPaA
set_option linter.unusedVariables false
set_option linter.unusedSimpArgs false
namespace Go.Proofs.Ytkipnhhdlohnfaa
open Go Go.RowKit Go.Shelf

abbrev Pr := List UInt8 × List UInt8
def enc2 (p : Pr) : List Value := enc8 p.1 ++ enc8 p.2
def ok2 (p : Pr) : Prop := p.1.length = 32 ∧ p.2.length = 32
theorem enc2_len (p : Pr) (h : ok2 p) : (enc2 p).length = 64 := by unfold enc2; rw [List.length_append, enc8_len, enc8_len, h.1, h.2]
theorem enc2_one (p : Pr) : ∀ v ∈ enc2 p, v.oneCell' = true := fun v hv => by
  rcases List.mem_append.1 hv with h | h
  · exact enc8_one _ v h
  · exact enc8_one _ v h
def encP (l : List Pr) : List Value := l.flatMap enc2
theorem encP_append (a b : List Pr) : encP (a ++ b) = encP a ++ encP b := by simp [encP]
theorem encP_get : ∀ (ls : List Pr), (∀ x ∈ ls, ok2 x) → ∀ i j x, ls[i]? = some x → j < 64 → (encP ls)[i * 64 + j]? = (enc2 x)[j]?
  | [], _, i, j, x, hx, _ => by simp at hx
  | y :: r, h, i, j, x, hx, hj => by
    have hy : (enc2 y).length = 64 := enc2_len y (h y (by simp))
    have e : encP (y :: r) = enc2 y ++ encP r := by simp [encP]
    rw [e]
    cases i with
    | zero =>
      simp at hx
      subst hx
      rw [Nat.zero_mul, Nat.zero_add, List.getElem?_append_left (by omega)]
    | succ i =>
      rw [List.getElem?_append_right (by rw [hy, Nat.add_mul]; omega), hy, show (i + 1) * 64 + j - 64 = i * 64 + j by rw [Nat.add_mul]; omega]
      exact encP_get r (fun z hz => h z (List.mem_cons_of_mem _ hz)) i j x (by simpa using hx) hj
/-- A SLICE OF THE CALL's OWN THAT HOLDS THESE PAIRS -/
def OHP (W : World) (base : Nat) (v : Value) (ls : List Pr) : Prop := (∀ x ∈ ls, ok2 x) ∧ W.ownsRow base 49 64 v ls.length (encP ls)
theorem OHP_nil (W : World) (base : Nat) : OHP W base (.slice none 0 0) [] := ⟨by simp, World.ownsRow_nil _ _ _ _⟩
theorem OHP.form {W : World} {base : Nat} {v : Value} {ls : List Pr} (h : OHP W base v ls) : ∃ A c, v = .slice A ls.length c ∧ ls.length ≤ c ∧ c ≤ 9223372036854775807 ∧ ∀ i x, ls[i]? = some x → ∃ g, A = some ⟨g, 0, none⟩ ∧ base ≤ g ∧ W.rangeAt g (i * 64) (enc2 x) := by
  obtain ⟨h64, hl, h⟩ := h
  rcases h with ⟨rfl, h0⟩ | ⟨g, cap, cur, rfl, hb, hg, hc, hm, hs, ht⟩
  · exact ⟨none, 0, by rw [h0], by omega, by omega, fun i x hx => by have := (List.getElem?_eq_some_iff.1 hx).1; omega⟩
  · refine ⟨_, cap, rfl, hc, by unfold maxLen at hm; omega, fun i x hx => ⟨g, rfl, hb, fun j v hj => ?_⟩⟩
    have hi : i < ls.length := (List.getElem?_eq_some_iff.1 hx).1
    have hj64 : j < 64 := by
      have := (List.getElem?_eq_some_iff.1 hj).1
      rw [enc2_len x (h64 x (List.mem_of_getElem? hx))] at this
      exact this
    have e := encP_get ls h64 i j x hx hj64
    rw [hj, ← ht, List.getElem?_take_of_lt (by have : (i + 1) * 64 ≤ ls.length * 64 := Nat.mul_le_mul_right 64 hi; rw [Nat.add_mul] at this; omega)] at e
    simp only [World.cell?, hg]
    simpa using e
theorem OHP.mono {W : World} {B B' : Nat} {v : Value} {l : List Pr} (h : OHP W B v l) (hb : B' ≤ B) : OHP W B' v l := by
  obtain ⟨h0, h1, h2⟩ := h
  refine ⟨h0, h1, ?_⟩
  rcases h2 with h | ⟨g, cap, cur, e, hg, r⟩
  · exact .inl h
  · exact .inr ⟨g, cap, cur, e, by omega, r⟩
theorem OHP.below {W W' : World} {B : Nat} {v : Value} {l : List Pr} (h : OHP W B v l) (hb : Below W.heap.size W W') : OHP W' B v l :=
  ⟨h.1, h.2.kept (row := none) ⟨hb.os, hb.tape, hb.output, hb.size, fun k hk _ => hb.block k hk⟩ (by cases v.ownBlock <;> simp)⟩
theorem infoP : ∃ z i, Try.prog.info? 49 = some i ∧ i.zero = some (.agg z) ∧ i.size = 64 ∧ i.bytes = 64 ∧ z.size = 64 := by
  have h : (Try.prog.info? 49).map (fun i => (i.zero.isSome, i.size, i.bytes, match i.zero with | some (.agg z) => z.size | _ => 0)) = some (true, 64, 64, 64) := by kernel_rfl
  cases hi : Try.prog.info? 49 with
  | none => rw [hi] at h; cases h
  | some i =>
    rw [hi] at h
    simp only [Option.map_some, Option.some.injEq, Prod.mk.injEq] at h
    obtain ⟨h1, h2, h3, h4⟩ := h
    cases hz : i.zero with
    | none => rw [hz] at h1; cases h1
    | some z =>
      rw [hz] at h4
      cases z with
      | agg z => exact ⟨z, i, rfl, hz, h2, h3, h4⟩
      | _ => simp at h4
/-- append(own, one pair) -/
theorem runP_append {w : World} (ty : TypeId) (base : Nat) (v : Value) (ls : List Pr) (a : Addr) (c : Nat) (x : Pr) (hown : OHP w base v ls) (hx : ok2 x) (hm : ∀ j u, (enc2 x)[j]? = some u → w.cell? (a.add j) = some u) (hlen : ls.length + 1 ≤ 1000000) (hbase : base ≤ w.heap.size) :
    ∃ v' w', (Builtin.append_ #[47, 47] ty #[v, .slice (some a) 1 c]).run Try.prog w = .ok v' w' ∧ OHP w' base v' (ls ++ [x]) ∧ w.grownBy w' v.ownBlock ∧ Below base w w' := by
  obtain ⟨z, i0, hi, hz0, hz1, hz2, hzs⟩ := infoP
  obtain ⟨v', w', hr, hown', hgrow, _⟩ := run_append_own (P := Try.prog) w base 47 ty 49 i0 (.agg z) 64 64 Try.underlying47 hi hz0 hz1 hz2 (by simpa [Value.cells] using hzs) (by decide) v ls.length (encP ls) hown.2 a 1 c (enc2 x) (by rw [enc2_len x hx]) hm (enc2_one x) (by unfold maxLen; omega) (by omega) hbase
  refine ⟨v', w', hr, ⟨?_, ?_⟩, hgrow, (Below.refl base w).grown hgrow hbase (fun k hk => (hown.2.lt k hk).1)⟩
  · intro y hy
    rcases List.mem_append.1 hy with h | h
    · exact hown.1 y h
    · rw [List.mem_singleton.1 h]; exact hx
  · rw [encP_append, List.length_append, show encP [x] = enc2 x by simp [encP]]
    exact hown'
theorem wpP_append {w : World} {ops : Array Oper} {rest : List Oper} {o : Oper} {a : Act} {Q : Exit → Act → World → Prop} (hgd : o.guard = none) (s x : Operand)
    (ho : o.op = .call { callee := .builtin .append, args := #[s, x], argTypes := #[47, 47] })
    (base : Nat) (v : Value) (ls : List Pr) (g : Nat) (t : TypeId) (y : Pr) (c : Nat) (hs : a.eval s = v) (hown : OHP w base v ls) (hx : a.eval x = .slice (some ⟨g, 0, none⟩) 1 c) (hr : Row w g t (enc2 y)) (hy : ok2 y) (hlen : ls.length + 1 ≤ 1000000) (hbase : base ≤ w.heap.size)
    (h : ∀ v' w', OHP w' base v' (ls ++ [y]) → w.grownBy w' v.ownBlock → Below base w w' → wpList Try.prog ops Q rest (a.put o.dst v') w') : wpList Try.prog ops Q (o :: rest) a w := by
  refine wpList_plain hgd fun K hK => ?_
  obtain ⟨v', w', hrun, h1, h2, h3⟩ := runP_append o.type base v ls ⟨g, 0, none⟩ c y hown hy (fun j u hj => by
    have : (⟨g, 0, none⟩ : Addr).add j = ⟨g, j, none⟩ := by unfold Addr.add; split <;> simp_all
    rw [this, hr.cell j]; exact hj) hlen hbase
  unfold Oper.wp
  simp [execOp, ho, resolve, invoke, builtin, hs, hx, hrun, Result.andThen]
  exact hK _ _ (h v' w' h1 h2 h3)
theorem fill_pairs (vs : List (List Value)) (h : ∀ v ∈ vs, v.length = 64) (n : Nat) (hn : n = vs.length) (z : Array Value) : Instr.fill (fun i => some (i * 64, 64)) ((Array.range (n * 64)).map (z[· % z.size]!)) (((vs.map fun v => Value.agg v.toArray).zipIdx 0).map fun x => (x.2, x.1)) = some (vs.flatMap id).toArray := by
  subst hn
  rw [Great.fill_whole (s := 64) (by omega) _ _ (by intro v hv; obtain ⟨x, hx, rfl⟩ := List.mem_map.1 hv; simpa [Value.cells] using h x hx) (by simp)]
  congr 2
  rw [List.flatMap_map]
  simp [Value.cells]
theorem wpP_build {w : World} {ops : Array Oper} {rest : List Oper} {o : Oper} {a : Act} {Q : Exit → Act → World → Prop} (hw : Region.wanted o (yielded ops a.tmps) = true) (n : Nat) (parts : Array (Nat × Operand)) (ho : o.op = .buildSlice 47 n parts)
    (vs : List (List Value)) (h : ∀ v ∈ vs, v.length = 64) (hn : n = vs.length) (h0 : 0 < n) (h1 : n ≤ 1000)
    (hp : (parts.map fun (i, x) => (i, a.eval x)).toList = ((vs.map fun v => Value.agg v.toArray).zipIdx 0).map fun x => (x.2, x.1))
    (hk : wpList Try.prog ops Q rest (a.put o.dst (.slice (some ⟨w.heap.size, 0, none⟩) n n)) (w.alloc (.cells (vs.flatMap id).toArray 49))) : wpList Try.prog ops Q (o :: rest) a w :=
  wpList_wanted hw fun K hK => by
    obtain ⟨z, i0, hi, hz0, hz1, hz2, hzs⟩ := infoP
    refine wp_buildSlice 47 49 n parts ho _ i0 _ Try.underlying47 hi hz0 (by rw [hz1]; omega) (by rw [hz1]; omega) ?_ (hK _ _ hk)
    rw [hp, hz1]
    exact fill_pairs vs h n hn _
/-- the pair on step k of the way up -/
def pairAt (ts : List Bool) (ps : List (List UInt8)) (x : List UInt8) (k : Nat) : Pr :=
  if ts[k]?.getD false = true then (ps[k]?.getD [], clb ts ps x k) else (clb ts ps x k, ps[k]?.getD [])
theorem clb_pair (ts : List Bool) (ps : List (List UInt8)) (x : List UInt8) (k : Nat) : clb ts ps x (k + 1) = nodeL (pairAt ts ps x k).1 (pairAt ts ps x k).2 := by
  unfold pairAt
  rw [clb]
  split <;> rfl
def pairsL (ts : List Bool) (ps : List (List UInt8)) (x : List UInt8) (q : Nat) : List Pr := (List.range q).map (pairAt ts ps x)
theorem pairsL_snoc (ts : List Bool) (ps : List (List UInt8)) (x : List UInt8) (q : Nat) : pairsL ts ps x (q + 1) = pairsL ts ps x q ++ [pairAt ts ps x q] := by
  unfold pairsL
  rw [List.range_succ, List.map_append]
  rfl
theorem pairsL_len (ts : List Bool) (ps : List (List UInt8)) (x : List UInt8) (q : Nat) : (pairsL ts ps x q).length = q := by simp [pairsL]
theorem pairsL_get (ts : List Bool) (ps : List (List UInt8)) (x : List UInt8) (q k : Nat) (h : k < q) : (pairsL ts ps x q)[k]? = some (pairAt ts ps x k) := by
  unfold pairsL
  rw [List.getElem?_map, List.getElem?_range h]
  rfl
/-- two ways that begin unlike and end alike: somewhere two unlike pairs have one node -/
theorem pairs_meet (ts : List Bool) (ps qs : List (List UInt8)) (a b : List UInt8) : ∀ q, a ≠ b → clb ts ps a q = clb ts qs b q → ∃ k, k < q ∧ pairAt ts ps a k ≠ pairAt ts qs b k ∧ nodeL (pairAt ts ps a k).1 (pairAt ts ps a k).2 = nodeL (pairAt ts qs b k).1 (pairAt ts qs b k).2
  | 0, hne, h => absurd h hne
  | q + 1, hne, h => by
    by_cases hp : pairAt ts ps a q = pairAt ts qs b q
    · have hq : clb ts ps a q = clb ts qs b q := by
        unfold pairAt at hp
        split at hp
        · exact congrArg Prod.snd hp
        · exact congrArg Prod.fst hp
      obtain ⟨k, h1, h2⟩ := pairs_meet ts ps qs a b q hne hq
      exact ⟨k, by omega, h2⟩
    · rw [clb_pair, clb_pair] at h
      exact ⟨q, by omega, hp, h⟩
theorem pairAt_ok (ts : List Bool) (ps : List (List UInt8)) (x : List UInt8) (k : Nat) (hx : x.length = 32) (hp : ∀ y ∈ ps, y.length = 32) (hk : k < ps.length) : ok2 (pairAt ts ps x k) := by
  have h1 : (clb ts ps x k).length = 32 := by
    cases k with
    | zero => exact hx
    | succ k => rw [clb_pair]; exact nodeL_length _ _
  have h2 : (ps[k]?.getD []).length = 32 := by
    rw [List.getElem?_eq_getElem hk]
    exact hp _ (List.getElem_mem hk)
  unfold pairAt ok2
  split
  · exact ⟨h2, h1⟩
  · exact ⟨h1, h2⟩
end Go.Proofs.Ytkipnhhdlohnfaa
