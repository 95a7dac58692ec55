/- A range over a function whose iterator reads what the caller's rounds may turn: Rd is what it relies on. Over any program. -/
import Derived.Test.YtbcnalabalegfaaRange
namespace Go.Proofs.Ytbcnalabalegfaa
open Go Go.RowKit

/-- AN ITERATOR's CONTRACT: it hands out xs in order ('Enc x as M W': the arguments 'as' tell x in W, and lie in no block that M names); 'own' are the blocks of its own state when it begins, M those when it calls yield; below n₀ nobody writes.
The caller relies on the blocks that D names: the iterator turns none of them; a round turns none that M names. -/
def SeqR {α : Type} (P : Program) (n₀ : Nat) (g : Nat) (lb : Array Value) (Enc : α → Array Value → (Nat → Prop) → World → Prop) (xs : List α) (own : Nat → Prop) (w : World) (Rd : World → Prop) : Prop :=
  ∀ (l : Nat) (J Jx : Nat → (Nat → Prop) → World → Prop) (W : World) (D : Nat → Prop),
    (∀ b, D b → b < W.heap.size) → (∀ b, own b → ¬ D b ∧ b < W.heap.size ∧ W.heap[b]? = w.heap[b]?) → Below n₀ w W → n₀ ≤ W.heap.size →
    StableD n₀ J → StableD n₀ Jx → (∀ k D W, J k D W → Rd W) →
    (∀ k x as D M W, xs[k]? = some x → Enc x as M W → J k D W → (∀ b, D b → b < W.heap.size) → (∀ b, M b → b < W.heap.size ∧ ¬ D b) → YieldAt Fence.wide 0 P l as W fun e W' =>
      ∃ D', (∀ b, D' b → b < W'.heap.size ∧ ¬ M b) ∧ KeepOn n₀ M W W' ∧ ((e = .returned (.bool true) ∧ J (k + 1) D' W') ∨ (e = .returned (.bool false) ∧ Jx (k + 1) D' W'))) →
    J 0 D W →
    CallsIn Fence.wide 0 P g (#[.func (.yield l) #[] #[]] ++ lb) W fun e W' => (∃ v, e = .returned v) ∧ ∃ D', (J xs.length D' W' ∨ ∃ k, Jx k D' W')


variable {P : Program}
theorem wpIn_rangeFunc_R {α : Type} {g : Operand} {ps : Array Tmp} {assign body : Code} {Q : Exit → Act → World → Prop} {a : Act} {w : World} {gf : Nat} {lb : Array Value}
    (hg : a.eval g = .func (.func gf) #[] lb) (eg : ∀ args w, (callFunc gf args).run P w = .ok (.enter gf args) w)
    {n₀ : Nat} {Enc : α → Array Value → (Nat → Prop) → World → Prop} {xs : List α} {own : Nat → Prop} {w0 : World} {Rd : World → Prop} (hseq : SeqR P n₀ gf lb Enc xs own w0 Rd) (hps : ∀ x as M W, Enc x as M W → as.size = ps.size)
    (hEnc : ∀ x as M W l dk r o ds, Enc x as M W → W.heap[l]? = some (.loop r) → W.heap[dk]? = some (.deferred ds) → Enc x as (fun b => M b ∨ b = l ∨ b = dk) (W.putObj l o)) (hn₀ : n₀ ≤ w.heap.size)
    (hw0 : Below n₀ w0 w) (D : Nat → Prop) (hD : ∀ b, D b → b < w.heap.size) (hown : ∀ b, own b → ¬ D b ∧ b < w.heap.size ∧ w.heap[b]? = w0.heap[b]?)
    (I : Nat → (Nat → Prop) → World → Prop) (Ix : Code → Nat → (Nat → Prop) → World → Prop) (hI : StableD n₀ I) (hRd : ∀ k D W, I k D W → Rd W) (hIx : ∀ c, StableD n₀ (Ix c)) (h0 : I 0 D w)
    (a₁ : Array Value → Act)
    (hassign : ∀ (l : Nat) (x : α) (as : Array Value) (M : Nat → Prop) (W : World) (K : Act → World → Prop), Enc x as M W → K (a₁ as) W →
      assign.wpIn (Fence.wide.inRound l) 0 P (Exit.then K (fun _ _ _ => False)) { tmps := (ps.zip as).foldl (fun t (p, v) => t.setIfInBounds p v) a.tmps, defers := [] } W)
    (hbody : ∀ (l k : Nat) (x : α) (as : Array Value) (D M : Nat → Prop) (W : World), xs[k]? = some x → Enc x as M W → I k D W → (∀ b, D b → b < W.heap.size) → (∀ b, M b → b < W.heap.size ∧ ¬ D b) → body.wpIn (Fence.wide.inRound l) 0 P (postD n₀ I Ix (k + 1) M W) (a₁ as) W)
    (hdone : ∀ (dk : Nat) (D : Nat → Prop) (W : World), w.heap.size ≤ dk → I xs.length D W → W.heap[dk]? = some (.deferred (some [])) → ¬ D dk → Q .normal { a with defers := { target := .collected dk, args := #[] } :: a.defers } W)
    (hstop : ∀ (dk : Nat) (c : Code) (k : Nat) (D : Nat → Prop) (W : World), w.heap.size ≤ dk → Ix c k D W → W.heap[dk]? = some (.deferred (some [])) → ¬ D dk → c.wpIn Fence.wide 0 P Q { a with defers := { target := .collected dk, args := #[] } :: a.defers } W) :
    (Code.rangeFunc g ps assign body).wpIn Fence.wide 0 P Q a w := by
  refine wpIn_rangeFunc ?_
  intro fn hfn
  obtain ⟨rec, hrec⟩ : ∃ rec : LoopState → Option Code → Loop, rec = fun st pe => { state := st, pending := pe, fn, tmps := a.tmps, params := ps, assign, body, defers := w.heap.size } := ⟨_, rfl⟩
  obtain ⟨W1, hW1⟩ : ∃ W1, (w.alloc (.deferred (some []))).alloc (.loop (rec .ready none)) = W1 := ⟨_, rfl⟩
  have hs1 : W1.heap.size = w.heap.size + 2 := by rw [← hW1]; simp
  have hL1 : W1.heap[w.heap.size + 1]? = some (.loop (rec .ready none)) := by
    rw [← hW1]; have := World.alloc_heap_new (w.alloc (.deferred (some []))) (.loop (rec .ready none)); rwa [World.size_alloc] at this
  have hK1 : W1.heap[w.heap.size]? = some (.deferred (some [])) := by
    rw [← hW1]; exact (Below.heap_alloc _ _ _ (by simp)).trans (World.alloc_heap_new w _)
  have hbW : Below w.heap.size w W1 := by rw [← hW1]; exact ((Below.refl _ w).alloc (Nat.le_refl _) _).alloc (by simp) _
  obtain ⟨dk, hdk⟩ : ∃ dk, dk = w.heap.size := ⟨_, rfl⟩
  obtain ⟨l, hl⟩ : ∃ l, l = w.heap.size + 1 := ⟨_, rfl⟩
  rw [← hdk] at hK1
  rw [← hl] at hL1
  let J (Y : Nat → (Nat → Prop) → World → Prop) (st : LoopState) (pe : Option Code) : Nat → (Nat → Prop) → World → Prop := fun k D' W =>
    ∃ D : Nat → Prop, D' = (fun b => D b ∨ b = l ∨ b = dk) ∧ Y k D W ∧ (∀ b, D b → b < W.heap.size ∧ b ≠ l ∧ b ≠ dk) ∧ W.heap[l]? = some (.loop (rec st pe)) ∧ W.heap[dk]? = some (.deferred (some []))
  have hJs : ∀ Y st pe, StableD n₀ Y → StableD n₀ (J Y st pe) := by
    rintro Y st pe hY k D' W W' ⟨D, rfl, hy, hb, h1, h2⟩ hk
    have l1 := (Array.getElem?_eq_some_iff.1 h1).1
    have l2 := (Array.getElem?_eq_some_iff.1 h2).1
    exact ⟨D, rfl, hY k D W W' hy (hk.weak fun _ _ h => .inl h), fun b hd => ⟨Nat.lt_of_lt_of_le (hb b hd).1 hk.size, (hb b hd).2⟩,
      (hk.block l l1 (.inr (.inr (.inl rfl)))).trans h1, (hk.block dk l2 (.inr (.inr (.inr rfl)))).trans h2⟩
  refine ⟨w.heap.size + 1, [{ target := .collected w.heap.size, args := #[] }], W1, { target := .fn (.func gf) lb, args := #[.func (.yield (w.heap.size + 1)) #[] #[]] }, W1, gf,
    #[.func (.yield (w.heap.size + 1)) #[] #[]] ++ lb, W1, ?_, ?_, ?_, ?_, fun h => by simp [Fence.wide] at h, ?_⟩
  · rw [← hW1, hrec]; exact run_enterLoop_outer _ _ _ _ _
  · simp only [resolve, hg]
    simp [go_sem]
  · intro f' hf'; exact trivial
  · simp [invoke, go_sem, eg]
  · rw [← hl, ← hdk]
    refine (hseq l (J I .ready none) (fun k D W => ∃ c, J (Ix c) .done (some c) k D W) W1 (fun b => D b ∨ b = l ∨ b = dk) ?_ ?_ ?_ (by omega) (hJs _ _ _ hI) ?_ (by rintro k D' W ⟨D, -, hi, -⟩; exact hRd k D W hi) ?_ ?_).mono ?_
    · rintro b (hb | rfl | rfl)
      · have := hD b hb; omega
      · omega
      · omega
    · intro b hb
      obtain ⟨h1, h2, h3⟩ := hown b hb
      refine ⟨?_, by omega, (hbW.block b h2).trans h3⟩
      rintro (h | rfl | rfl)
      · exact h1 h
      · omega
      · omega
    · exact hw0.trans (hbW.mono hn₀)
    · rintro k D' W W' ⟨c, hc⟩ hk
      exact ⟨c, hJs _ _ _ (hIx c) k D' W W' hc hk⟩
    · -- ONE ROUND
      rintro k x as D' M W hx hEx ⟨D, rfl, hi, hb, hrl, hrk⟩ _ hMD
      have l1 := (Array.getElem?_eq_some_iff.1 hrl).1
      have l2 := (Array.getElem?_eq_some_iff.1 hrk).1
      have hy := run_yield (P := P) (args := as) hrl (by rw [hrec]; exact hps x as M W hEx)
      rw [hrec] at hy
      refine ⟨fn, _, assign, body, hy, roundIn_of_wpIn hfn (hassign _ x as M W _ hEx ?_)⟩
      clear hy
      refine ⟨_, run_beginRound hrl (by rw [hrec]), ?_⟩
      obtain ⟨W2, hW2⟩ : ∃ W2, W.putObj l (.loop { rec .ready none with state := .busy }) = W2 := ⟨_, rfl⟩
      have hE2 : Enc x as (fun b => M b ∨ b = l ∨ b = dk) W2 := by rw [← hW2]; exact hEnc x as M W l dk _ _ _ hEx hrl hrk
      have hl2 : W2.heap[l]? = some (.loop { rec .ready none with state := .busy }) := by rw [← hW2]; exact World.putObj_heap_same l1
      have hk2 : W2.heap[dk]? = some (.deferred (some [])) := by rw [← hW2]; exact (World.putObj_heap_other (by omega)).trans hrk
      have hs2 : W2.heap.size = W.heap.size := by rw [← hW2]; simp
      have hDl : ¬ D l := fun h => (hb l h).2.1 rfl
      have hDk : ¬ D dk := fun h => (hb dk h).2.2 rfl
      have hMl : ¬ M l := fun h => (hMD l h).2 (.inr (.inl rfl))
      have hMk : ¬ M dk := fun h => (hMD dk h).2 (.inr (.inr rfl))
      have hkeep2 : ∀ D'' : Nat → Prop, ¬ D'' l → KeepOn n₀ D'' W W2 := fun D'' h => by rw [← hW2]; exact KeepOn.putObj W l _ (by omega) h
      rw [hW2]
      refine wpIn_mono (hbody _ k x as D (fun b => M b ∨ b = l ∨ b = dk) W2 hx hE2 (hI _ _ _ _ hi (hkeep2 D hDl)) (fun b h => by rw [hs2]; exact (hb b h).1) ?_) ?_
      · rw [hs2]
        rintro b (h | rfl | rfl)
        · exact ⟨(hMD b h).1, fun hd => (hMD b h).2 (.inl hd)⟩
        · exact ⟨l1, hDl⟩
        · exact ⟨l2, hDk⟩
      have fin : ∀ (Y : Nat → (Nat → Prop) → World → Prop) (hY : StableD n₀ Y) (jump : Option Code) (W3 : World) (D3 : Nat → Prop), (∀ b, D3 b → b < W3.heap.size ∧ ¬ (M b ∨ b = l ∨ b = dk)) → KeepOn n₀ (fun b => M b ∨ b = l ∨ b = dk) W2 W3 → Y (k + 1) D3 W3 →
          (Instr.endRound l jump).run P W3 = .ok (.bool jump.isNone) (W3.putObj l (.loop (rec (if jump.isNone then .ready else .done) jump))) ∧
          KeepOn n₀ M W (W3.putObj l (.loop (rec (if jump.isNone then .ready else .done) jump))) ∧
          (∀ b, (D3 b ∨ b = l ∨ b = dk) → b < (W3.putObj l (.loop (rec (if jump.isNone then .ready else .done) jump))).heap.size ∧ ¬ M b) ∧
          J Y (if jump.isNone then .ready else .done) jump (k + 1) (fun b => D3 b ∨ b = l ∨ b = dk) (W3.putObj l (.loop (rec (if jump.isNone then .ready else .done) jump))) := by
        intro Y hY jump W3 D3 hD3 hk3 hi3
        have hl3 : W3.heap[l]? = some (.loop { rec .ready none with state := .busy }) := (hk3.block l (by omega) (.inr (.inr (.inl rfl)))).trans hl2
        have hd3 : W3.heap[dk]? = some (.deferred (some [])) := (hk3.block dk (by omega) (.inr (.inr (.inr rfl)))).trans hk2
        have hend := run_endRound (P := P) jump hl3
        have h3l : l < W3.heap.size := (Array.getElem?_eq_some_iff.1 hl3).1
        have h3k : dk < W3.heap.size := (Array.getElem?_eq_some_iff.1 hd3).1
        obtain ⟨W4, hW4⟩ : ∃ W4, W3.putObj l (.loop (rec (if jump.isNone then .ready else .done) jump)) = W4 := ⟨_, rfl⟩
        have hs4 : W4.heap.size = W3.heap.size := by rw [← hW4]; simp
        have hg : ¬ D3 l := fun h => (hD3 l h).2 (.inr (.inl rfl))
        refine ⟨by rw [hrec] at hend ⊢; exact hend, ?_, ?_, ?_⟩
        · rw [hW4]
          refine KeepOn.trans (hkeep2 _ hMl) (KeepOn.trans (hk3.weak fun b _ h => .inl h) ?_)
          rw [← hW4]
          exact KeepOn.putObj W3 l _ (by omega) hMl
        · rw [hW4, hs4]
          rintro b (h | rfl | rfl)
          · exact ⟨(hD3 b h).1, fun hm => (hD3 b h).2 (.inl hm)⟩
          · exact ⟨h3l, hMl⟩
          · exact ⟨h3k, hMk⟩
        · rw [hW4]
          refine ⟨D3, rfl, hY _ _ W3 W4 hi3 (by rw [← hW4]; exact KeepOn.putObj W3 l _ (by omega) hg), ?_, ?_, ?_⟩
          · intro b h
            have h1 := hD3 b h
            exact ⟨by omega, fun e => h1.2 (.inr (.inl e)), fun e => h1.2 (.inr (.inr e))⟩
          · rw [← hW4]; exact World.putObj_heap_same h3l
          · rw [← hW4]; exact (World.putObj_heap_other (by omega)).trans hd3
      rintro e a3 W3 hp
      cases e with
      | normal =>
        obtain ⟨D3, hD3, hp1, hp2⟩ := hp
        obtain ⟨hr, hk4, hd4, hj⟩ := fin I hI none W3 D3 hD3 hp1 hp2
        exact ⟨_, _, hr, _, hd4, hk4, .inl ⟨rfl, hj⟩⟩
      | ret =>
        obtain ⟨D3, hD3, hp1, hp2⟩ := hp
        obtain ⟨hr, hk4, hd4, hj⟩ := fin (Ix .ret) (hIx _) (some .ret) W3 D3 hD3 hp1 hp2
        exact ⟨_, _, hr, _, hd4, hk4, .inr ⟨rfl, .ret, hj⟩⟩
      | exit id =>
        obtain ⟨D3, hD3, hp1, hp2⟩ := hp
        obtain ⟨hr, hk4, hd4, hj⟩ := fin (Ix (.exit id)) (hIx _) (some (.exit id)) W3 D3 hD3 hp1 hp2
        exact ⟨_, _, hr, _, hd4, hk4, .inr ⟨rfl, .exit id, hj⟩⟩
      | goto t =>
        obtain ⟨D3, hD3, hp1, hp2⟩ := hp
        obtain ⟨hr, hk4, hd4, hj⟩ := fin (Ix (.goto t)) (hIx _) (some (.goto t)) W3 D3 hD3 hp1 hp2
        exact ⟨_, _, hr, _, hd4, hk4, .inr ⟨rfl, .goto t, hj⟩⟩
      | panic ch => exact hp.elim
      | outgrown => exact hp.elim
    · exact ⟨D, rfl, hI _ _ _ _ h0 (KeepOn.of_below hbW), fun b h => by have := hD b h; omega, hL1, hK1⟩
    · -- BEHIND THE ITERATOR
      rintro e W2 ⟨⟨v, rfl⟩, D', (⟨D2, rfl, hi, hb, hrl, hrk⟩ | ⟨k, c, D2, rfl, hi, hb, hrl, hrk⟩)⟩
      · have hDl : ¬ D2 l := fun h => (hb l h).2.1 rfl
        have hDk : ¬ D2 dk := fun h => (hb dk h).2.2 rfl
        exact ⟨none, _, by have := run_endLoop (P := P) hrl (by rw [hrec]; simp); rw [hrec] at this; exact this, hdone dk D2 _ (by omega) (hI _ _ _ _ hi (KeepOn.putObj W2 l _ (by omega) hDl)) ((World.putObj_heap_other (by omega)).trans hrk) hDk⟩
      · have hDl : ¬ D2 l := fun h => (hb l h).2.1 rfl
        have hDk : ¬ D2 dk := fun h => (hb dk h).2.2 rfl
        exact ⟨some c, _, by have := run_endLoop (P := P) hrl (by rw [hrec]; simp); rw [hrec] at this; exact this, hstop dk c k D2 _ (by omega) (hIx c _ _ _ _ hi (KeepOn.putObj W2 l _ (by omega) hDl)) ((World.putObj_heap_other (by omega)).trans hrk) hDk⟩
end Go.Proofs.Ytbcnalabalegfaa
