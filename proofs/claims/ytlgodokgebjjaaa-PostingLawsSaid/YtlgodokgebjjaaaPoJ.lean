/- the heap of lists in memory: Less, Swap, down. -/
import Derived.RangeFuncNested
import Derived.RangeFuncBound
import Derived.RangeFuncCalls
import Derived.RangeFuncLeaves
import Derived.Shelf.Abstract
import Derived.Shelf.RegionOpen
import Derived.WalkKit
import Derived.OwnWalkIn
import Derived.TacticsInMore
import Derived.LoopNIn
import Derived.LoopIn
import Derived.Outline
import Derived.Lib.Hide
import Derived.Lib.SliceRun
import Derived.IntWalk
import Derived.WalkLawsBesides
import Derived.WalkSpells
import Derived.Laws.BitsAllLaws
import Derived.Lib.ConvBytes
import Derived.Maps.AppendAt
import Derived.Lib.AppendStr
import Derived.Lib.SlBytesConst
import Derived.Laws.AppendOwnNone
import Derived.Laws.OwnMore
import Derived.Laws.BytesArg
import Derived.Deep.RegionHeld3
import Derived.BigQuiet
import Derived.Deep.RegionLaw
import Derived.Deep.QuietTactic
import Derived.Lib.OthersKept
import Derived.Test.YtlgodokgebjjaaaProg
import Derived.Deep.DeepFit
import Derived.Deep.AppendLies
import Derived.Test.YtlgodokgebjjaaaRange
import Derived.Test.YtlgodokgebjjaaaPoF
import Derived.Test.YtlgodokgebjjaaaPoI
set_option linter.unusedVariables false
set_option linter.unusedSimpArgs false
namespace Go.Proofs.Ytlgodokgebjjaaa
open Go Go.RowKit Go.Shelf

/-- a row of lists of the call's own -/
def FR (W : World) (base : Nat) (v : Value) (vs : List Value) : Prop := W.ownsRow base 34 1 v vs.length vs
theorem FR.nil (W : World) (base : Nat) : FR W base (.slice none 0 0) [] := World.ownsRow_nil _ _ _ _
theorem FR.drewN {W : World} {base : Nat} {v : Value} {vs : List Value} (h : FR W base v vs) (n : Nat) : FR (W.drewN n) base v vs := h
theorem FR.cells {W : World} {base g n c : Nat} {vs : List Value} (h : FR W base (.slice (some ⟨g, 0, none⟩) n c) vs) (i : Nat) (hi : i < vs.length) : W.cell? ⟨g, i, none⟩ = some vs[i] ∧ n = vs.length := by
  obtain ⟨hl, h⟩ := h
  rcases h with ⟨e, h0⟩ | ⟨g', cap, cur, e, hb, hg, hc, hm, hs, ht⟩
  · omega
  · cases e
    have h1 : vs[i]? = some vs[i] := List.getElem?_eq_getElem hi
    have h2 : (cur.toList.take (vs.length * 1))[i]? = vs[i]? := by rw [ht]
    rw [h1, List.getElem?_take_of_lt (by omega)] at h2
    refine ⟨?_, rfl⟩
    simp only [World.cell?, hg]
    simpa using h2
theorem FR.len {W : World} {base g n c : Nat} {vs : List Value} (h : FR W base (.slice (some ⟨g, 0, none⟩) n c) vs) : n = vs.length := by
  obtain ⟨hl, h⟩ := h
  rcases h with ⟨e, h0⟩ | ⟨g', cap, cur, e, hb, hg, hc, hm, hs, ht⟩
  · cases e
  · cases e; rfl
theorem FR.frozenAt {W : World} {base g n c : Nat} {vs : List Value} (h : FR W base (.slice (some ⟨g, 0, none⟩) n c) vs) (i : Nat) : W.frozen? ⟨g, i, none⟩ = false := by
  obtain rfl := h.len
  exact World.ownsRow.frozenAt h i
theorem NS.head {W : World} {v : Value} {l : List Int} (h : NS W v l) (hne : l ≠ []) : ∃ g o c, v = .slice (some ⟨g, o, none⟩) l.length c ∧ 0 < l.length ∧ l.length ≤ c ∧ c ≤ 9223372036854775807 ∧ W.cell? ⟨g, o, none⟩ = some (.int .i64 (hdI l)) := by
  obtain ⟨A, c, rfl, h1, h2⟩ := h
  have h0 : 0 < l.length := List.length_pos_iff.2 hne
  obtain ⟨g, o, rfl, hc⟩ := h2 0 h0
  refine ⟨g, o, c, rfl, h0, h1.1, h1.2, ?_⟩
  rw [Nat.add_zero] at hc
  rw [hc]
  cases l with
  | nil => exact absurd rfl hne
  | cons x t => rfl
theorem NS.drewN {W : World} {v : Value} {l : List Int} (h : NS W v l) (n : Nat) : NS (W.drewN n) v l := h
/-- it lies where nothing changes it -/
def ND (base : Nat) (K : Nat → Prop) (W : World) (v : Value) (l : List Int) : Prop := NS W v l ∧ ∀ g o n c, v = .slice (some ⟨g, o, none⟩) n c → l ≠ [] → g < base ∨ K g
theorem ND.keep {base : Nat} {K M : Nat → Prop} {W W' : World} {v : Value} {l : List Int} (h : ND base K W v l) (hk : KeepOn base M W W') (hKM : ∀ b, K b → M b) : ND base K W' v l := by
  obtain ⟨⟨A, c, rfl, h1, h2⟩, h3⟩ := h
  refine ⟨⟨A, c, rfl, h1, fun i hi => ?_⟩, h3⟩
  obtain ⟨g, o, rfl, hc⟩ := h2 i hi
  refine ⟨g, o, rfl, ?_⟩
  have hb := hk.block g (World.block_lt_of_cell? W _ hc) ((h3 g o _ _ rfl (by intro e; subst e; simp at hi)).imp id (hKM g))
  simp only [World.cell?] at hc ⊢
  rw [hb]
  exact hc
theorem ND.mono {base : Nat} {K K' : Nat → Prop} {W : World} {v : Value} {l : List Int} (h : ND base K W v l) (hK : ∀ b, K b → K' b) : ND base K' W v l := ⟨h.1, fun g o n c e hne => (h.2 g o n c e hne).imp id (hK g)⟩
abbrev El := Value × List Int
def itE (es : List El) (i : Nat) : El := es[i]?.getD (.slice none 0 0, [])
def swapE (es : List El) (i j : Nat) : List El := (es.set i (itE es j)).set j (itE es i)
theorem swapE_len (es : List El) (i j : Nat) : (swapE es i j).length = es.length := by simp [swapE]
theorem itE_fst (es : List El) (i : Nat) (h : i < es.length) : (es.map (·.1))[i]'(by simpa using h) = (itE es i).1 := by simp [itE, h]
theorem itE_snd (es : List El) (i : Nat) (h : i < es.length) : itF (es.map (·.2)) i = (itE es i).2 := by simp [itF, itE, h]
theorem itE_mem (es : List El) (i : Nat) (h : i < es.length) : itE es i ∈ es := by
  have : itE es i = es[i] := by simp [itE, h]
  rw [this]; exact List.getElem_mem _
theorem swapE_snd (es : List El) (i j : Nat) (hi : i < es.length) (hj : j < es.length) : (swapE es i j).map (·.2) = swapF (es.map (·.2)) i j := by
  unfold swapE swapF
  rw [List.map_set, List.map_set, itE_snd es i hi, itE_snd es j hj]
theorem mem_swapE {es : List El} {i j : Nat} (hi : i < es.length) (hj : j < es.length) {e : El} (h : e ∈ swapE es i j) : e ∈ es := by
  unfold swapE at h
  rcases List.mem_or_eq_of_mem_set h with h | rfl
  · rcases List.mem_or_eq_of_mem_set h with h | rfl
    · exact h
    · exact itE_mem es j hj
  · exact itE_mem es i hi
set_option maxRecDepth 100000 in
set_option maxHeartbeats 1000000 in
/-- **Less** -/
theorem fless_at (base g c : Nat) (a b : Int) (i j n : Nat) (ea : a = i) (eb : b = j) (es : List El) (w : World) (hn : n = es.length) (h : FR w base (.slice (some ⟨g, 0, none⟩) n c) (es.map (·.1)))
    (hE : ∀ e ∈ es, NS w e.1 e.2) (hi : i < es.length) (hj : j < es.length) (ni : itF (es.map (·.2)) i ≠ []) (nj : itF (es.map (·.2)) j ≠ []) (hmax : es.length ≤ 1000000) :
    Calls Try.prog 173 #[.slice (some ⟨g, 0, none⟩) n c, .int .i64 a, .int .i64 b] w fun e w' => e = .returned (.bool (ltF (itF (es.map (·.2)) i) (itF (es.map (·.2)) j))) ∧ ∃ m, w' = w.drewN m := by
  subst ea eb
  obtain ⟨a1, -⟩ := h.cells i (by simpa using hi)
  obtain ⟨b1, -⟩ := h.cells j (by simpa using hj)
  rw [itE_fst es i hi] at a1
  rw [itE_fst es j hj] at b1
  rw [itE_snd es i hi] at ni ⊢
  rw [itE_snd es j hj] at nj ⊢
  obtain ⟨g1, o1, c1, e1, p1, -, -, k1⟩ := (hE _ (itE_mem es i hi)).head ni
  obtain ⟨g2, o2, c2, e2, p2, -, -, k2⟩ := (hE _ (itE_mem es j hj)).head nj
  rw [e1] at a1
  rw [e2] at b1
  obtain ⟨l1, hl1⟩ : ∃ l, (itE es i).2.length = l := ⟨_, rfl⟩
  obtain ⟨l2, hl2⟩ : ∃ l, (itE es j).2.length = l := ⟨_, rfl⟩
  rw [hl1] at a1 p1
  rw [hl2] at b1 p2
  obtain ⟨x, hx⟩ : ∃ x, hdI (itE es i).2 = x := ⟨_, rfl⟩
  obtain ⟨y, hy⟩ : ∃ x, hdI (itE es j).2 = x := ⟨_, rfl⟩
  rw [hx] at k1
  rw [hy] at k2
  have Hl : ltF (itE es i).2 (itE es j).2 = decide (x < y) := by unfold ltF; rw [hx, hy]
  rw [Hl]
  have i0 : (0 : Int) ≤ (i : Int) := by omega
  have i1 : (i : Int) < (n : Int) := by omega
  have i2 : i < n := by omega
  have j0 : (0 : Int) ≤ (j : Int) := by omega
  have j1 : (j : Int) < (n : Int) := by omega
  have j2 : j < n := by omega
  have p1' : (0 : Int) < (l1 : Int) := by omega
  have p2' : (0 : Int) < (l2 : Int) := by omega
  clear h hE e1 e2 hl1 hl2 hx hy Hl ni nj hn
  go_enter Try.func173, Try.ntmps173
  go_wp2
  go_quiet (fail)
  go_wp2
  go_ret
  exact ⟨rfl, _, rfl⟩
theorem grownBy_trans2 {a b c : World} {r : Option Nat} (h : a.grownBy b r) (k : b.grownBy c r) : a.grownBy c r :=
  ⟨k.os.trans h.os, k.tape.trans h.tape, k.output.trans h.output, Nat.le_trans h.size k.size, fun i hi hn => (k.block i (Nat.lt_of_lt_of_le hi h.size) hn).trans (h.block i hi hn)⟩
theorem FR.stored {W : World} {base g n c : Nat} {vs : List Value} (h : FR W base (.slice (some ⟨g, 0, none⟩) n c) vs) (i : Nat) (x : Value) :
    FR (W.setCell ⟨g, i, none⟩ x) base (.slice (some ⟨g, 0, none⟩) n c) (vs.set i x) ∧ W.grownBy (W.setCell ⟨g, i, none⟩ x) (some g) := by
  obtain rfl := h.len
  obtain ⟨h1, g1⟩ := World.ownsRow.stored h i x
  refine ⟨?_, g1⟩
  unfold FR
  rw [List.length_set]
  exact h1
set_option maxRecDepth 100000 in
set_option maxHeartbeats 1000000 in
/-- **Swap** -/
theorem fswap_ne (base g c i j n : Nat) (es : List El) (w : World) (hn : n = es.length) (h : FR w base (.slice (some ⟨g, 0, none⟩) n c) (es.map (·.1))) (hE : ∀ e ∈ es, NS w e.1 e.2) (hi : i < es.length) (hj : j < es.length) (hij : i ≠ j) (hmax : es.length ≤ 1000000) :
    Calls Try.prog 174 #[.slice (some ⟨g, 0, none⟩) n c, .int .i64 (i : Int), .int .i64 (j : Int)] w fun e w' => e = .returned (.tuple #[]) ∧ FR w' base (.slice (some ⟨g, 0, none⟩) n c) ((swapE es i j).map (·.1)) ∧ w.grownBy w' (some g) := by
  obtain ⟨a1, -⟩ := h.cells i (by simpa using hi)
  obtain ⟨b1, -⟩ := h.cells j (by simpa using hj)
  rw [itE_fst es i hi] at a1
  rw [itE_fst es j hj] at b1
  have i0 : (0 : Int) ≤ (i : Int) := by omega
  have i1 : (i : Int) < (n : Int) := by omega
  have i2 : i < n := by omega
  have j0 : (0 : Int) ≤ (j : Int) := by omega
  have j1 : (j : Int) < (n : Int) := by omega
  have j2 : j < n := by omega
  have f1 := h.frozenAt i
  have f3 := h.frozenAt j
  have H := Lib.hid h
  have HS : Hid ((swapE es i j).map (·.1) = ((es.map (·.1)).set i (itE es j).1).set j (itE es i).1) := by
    show _ = _
    unfold swapE
    rw [List.map_set, List.map_set]
  obtain ⟨A1, c1, hx, -⟩ := hE _ (itE_mem es i hi)
  obtain ⟨A2, c2, hy, -⟩ := hE _ (itE_mem es j hj)
  obtain ⟨l1, hl1⟩ : ∃ l, (itE es i).2.length = l := ⟨_, rfl⟩
  obtain ⟨l2, hl2⟩ : ∃ l, (itE es j).2.length = l := ⟨_, rfl⟩
  rw [hl1] at hx
  rw [hl2] at hy
  rw [hx, hy] at HS
  rw [hx] at a1
  rw [hy] at b1
  clear h hx hy hn hE hl1 hl2
  go_enter Try.func174, Try.ntmps174
  go_wp2
  go_region
  go_end0
  obtain ⟨h1, g1⟩ := H.out.stored i (.slice A2 l2 c2)
  obtain ⟨h2, g2⟩ := h1.stored j (.slice A1 l1 c1)
  exact ⟨rfl, by rw [HS.out]; exact h2, grownBy_trans2 (grownBy_trans2 g1 g2) ⟨rfl, rfl, rfl, Nat.le_refl _, fun _ _ _ => rfl⟩⟩
set_option maxRecDepth 100000 in
set_option maxHeartbeats 1000000 in
theorem fswap_eq (base g c i n : Nat) (es : List El) (w : World) (hn : n = es.length) (h : FR w base (.slice (some ⟨g, 0, none⟩) n c) (es.map (·.1))) (hE : ∀ e ∈ es, NS w e.1 e.2) (hi : i < es.length) (hmax : es.length ≤ 1000000) :
    Calls Try.prog 174 #[.slice (some ⟨g, 0, none⟩) n c, .int .i64 (i : Int), .int .i64 (i : Int)] w fun e w' => e = .returned (.tuple #[]) ∧ FR w' base (.slice (some ⟨g, 0, none⟩) n c) ((swapE es i i).map (·.1)) ∧ w.grownBy w' (some g) := by
  obtain ⟨a1, -⟩ := h.cells i (by simpa using hi)
  rw [itE_fst es i hi] at a1
  have i0 : (0 : Int) ≤ (i : Int) := by omega
  have i1 : (i : Int) < (n : Int) := by omega
  have i2 : i < n := by omega
  have f1 := h.frozenAt i
  have H := Lib.hid h
  have HS : Hid ((swapE es i i).map (·.1) = ((es.map (·.1)).set i (itE es i).1).set i (itE es i).1) := by
    show _ = _
    unfold swapE
    rw [List.map_set, List.map_set]
  obtain ⟨A1, c1, hx, -⟩ := hE _ (itE_mem es i hi)
  obtain ⟨l1, hl1⟩ : ∃ l, (itE es i).2.length = l := ⟨_, rfl⟩
  rw [hl1] at hx
  rw [hx] at HS a1
  clear h hx hn hE hl1
  go_enter Try.func174, Try.ntmps174
  go_wp2
  go_region
  go_end0
  obtain ⟨h1, g1⟩ := H.out.stored i (.slice A1 l1 c1)
  obtain ⟨h2, g2⟩ := h1.stored i (.slice A1 l1 c1)
  exact ⟨rfl, by rw [HS.out]; exact h2, grownBy_trans2 (grownBy_trans2 g1 g2) ⟨rfl, rfl, rfl, Nat.le_refl _, fun _ _ _ => rfl⟩⟩
theorem fswap_at (base g c : Nat) (a b : Int) (i j n : Nat) (ea : a = i) (eb : b = j) (es : List El) (w : World) (hn : n = es.length) (h : FR w base (.slice (some ⟨g, 0, none⟩) n c) (es.map (·.1))) (hE : ∀ e ∈ es, NS w e.1 e.2) (hi : i < es.length) (hj : j < es.length) (hmax : es.length ≤ 1000000) :
    Calls Try.prog 174 #[.slice (some ⟨g, 0, none⟩) n c, .int .i64 a, .int .i64 b] w fun e w' => e = .returned (.tuple #[]) ∧ FR w' base (.slice (some ⟨g, 0, none⟩) n c) ((swapE es i j).map (·.1)) ∧ w.grownBy w' (some g) := by
  subst ea eb
  by_cases hij : i = j
  · subst hij; exact fswap_eq base g c i n es w hn h hE hi hmax
  · exact fswap_ne base g c i j n es w hn h hE hi hj hij hmax
theorem run_chkF {P : Program} {w : World} (xt : TypeId) (a : Addr) (s : String) : (Builtin.ssaWrapNilChk_ #[xt] xt #[.pointer (some a), strVal "", strVal s]).run P w = .ok (.pointer (some a)) w := rfl
theorem run_methodF_val {P : Program} {w : World} {t elem : TypeId} {f : FuncId} {i : TypeInfo} {m : Method} {name : String} {n : Nat} (hi : P.info? t = some i) (hm : i.methods.find? (·.name == name) = some m) (hp : m.path = #[]) (hf : m.func = some (f, false))
    (hu : P.underlying t = some (.pointer elem)) (a : Addr) (v : Value) (hl : (loadVar elem a).run P w = .ok v w) :
    (method (n + 1) t (.pointer (some a)) name).run P w = .ok (f, v) w := by
  simp only [method, Sem.run_bind, typeInfo]
  simp [hi, hm, hp, hf, follow, receiverAt, run_underlying hu, Place.get, run_chkF, asAddr, hl, Result.andThen, Sem.run_bind]
theorem run_methodF_ptr {P : Program} {w : World} {t elem : TypeId} {f : FuncId} {i : TypeInfo} {m : Method} {name : String} {n : Nat} (hi : P.info? t = some i) (hm : i.methods.find? (·.name == name) = some m) (hp : m.path = #[]) (hf : m.func = some (f, true))
    (hu : P.underlying t = some (.pointer elem)) (a : Addr) :
    (method (n + 1) t (.pointer (some a)) name).run P w = .ok (f, .pointer (some a)) w := by
  simp only [method, Sem.run_bind, typeInfo]
  simp [hi, hm, hp, hf, follow, receiverAt, run_underlying hu, Place.get, asAddr, Result.andThen, Sem.run_bind]
theorem m112 (name : String) (f : FuncId) (b : Bool) (h : (Try.prog.info? 112).bind (fun i => (i.methods.find? (·.name == name)).map fun m => (m.path, m.func)) = some (#[], some (f, b))) :
    ∃ i m, Try.prog.info? 112 = some i ∧ i.methods.find? (·.name == name) = some m ∧ m.path = #[] ∧ m.func = some (f, b) := by
  obtain ⟨i, hi, h⟩ := Option.bind_eq_some_iff.1 h
  obtain ⟨m, hm, h⟩ := Option.map_eq_some_iff.1 h
  simp only [Prod.mk.injEq] at h
  exact ⟨i, m, hi, hm, h.1, h.2⟩
theorem loadvar110 (B : Nat) (v : Value) (w : World) (hc : w.cell? ⟨B, 0, none⟩ = some v) : (loadVar 110 ⟨B, 0, none⟩).run Try.prog w = .ok v w := by
  simp [loadVar, go_sem, hc]
theorem methF_less (B : Nat) (v : Value) (w : World) (hc : w.cell? ⟨B, 0, none⟩ = some v) : (method 279 112 (.pointer (some ⟨B, 0, none⟩)) "Less").run Try.prog w = .ok (173, v) w := by
  obtain ⟨i, m, hi, hm, hp, hf⟩ := m112 "Less" 173 false (by kernel_rfl)
  exact run_methodF_val hi hm hp hf Try.underlying112 _ _ (loadvar110 B v w hc)
theorem methF_swap (B : Nat) (v : Value) (w : World) (hc : w.cell? ⟨B, 0, none⟩ = some v) : (method 279 112 (.pointer (some ⟨B, 0, none⟩)) "Swap").run Try.prog w = .ok (174, v) w := by
  obtain ⟨i, m, hi, hm, hp, hf⟩ := m112 "Swap" 174 false (by kernel_rfl)
  exact run_methodF_val hi hm hp hf Try.underlying112 _ _ (loadvar110 B v w hc)
theorem methF_len (B : Nat) (v : Value) (w : World) (hc : w.cell? ⟨B, 0, none⟩ = some v) : (method 279 112 (.pointer (some ⟨B, 0, none⟩)) "Len").run Try.prog w = .ok (172, v) w := by
  obtain ⟨i, m, hi, hm, hp, hf⟩ := m112 "Len" 172 false (by kernel_rfl)
  exact run_methodF_val hi hm hp hf Try.underlying112 _ _ (loadvar110 B v w hc)
theorem methF_pop (B : Nat) (w : World) : (method 279 112 (.pointer (some ⟨B, 0, none⟩)) "Pop").run Try.prog w = .ok (175, .pointer (some ⟨B, 0, none⟩)) w := by
  obtain ⟨i, m, hi, hm, hp, hf⟩ := m112 "Pop" 175 true (by kernel_rfl)
  exact run_methodF_ptr hi hm hp hf Try.underlying112 _
set_option maxRecDepth 100000 in
set_option maxHeartbeats 400000 in
theorem flen_any (A : Option Addr) (n c : Nat) (w : World) : Calls Try.prog 172 #[.slice A n c] w fun e w' => e = .returned (.int .i64 (n : Int)) ∧ w = w' := by
  go_enter Try.func172, Try.ntmps172
  go_wp2
  go_ret
  exact ⟨rfl, rfl⟩
end Go.Proofs.Ytlgodokgebjjaaa
