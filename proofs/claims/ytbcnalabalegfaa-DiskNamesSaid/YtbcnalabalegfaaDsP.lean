/- Start, walked. -/
import Derived.RangeFuncNested
import Derived.RangeFuncBound
import Derived.RangeFuncCalls
import Derived.RangeFuncLeaves
import Derived.Shelf.Abstract
import Derived.Shelf.RegionOpen
import Derived.WalkKit
import Derived.OwnWalkIn
import Derived.TacticsInMore
import Derived.LoopNIn
import Derived.LoopIn
import Derived.Outline
import Derived.Lib.Hide
import Derived.Lib.SliceRun
import Derived.IntWalk
import Derived.WalkLawsBesides
import Derived.WalkSpells
import Derived.Laws.BitsAllLaws
import Derived.Lib.ConvBytes
import Derived.Maps.AppendAt
import Derived.Lib.AppendStr
import Derived.Lib.SlBytesConst
import Derived.Laws.AppendOwnNone
import Derived.Laws.OwnMore
import Derived.Laws.BytesArg
import Derived.Deep.RegionHeld3
import Derived.BigQuiet
import Derived.Deep.RegionLaw
import Derived.Deep.QuietTactic
import Derived.Lib.OthersKept
import Derived.Test.YtbcnalabalegfaaProg
import Derived.Deep.DeepFit
import Derived.Test.YtbcnalabalegfaaDsO
import Derived.Test.YtbcnalabalegfaaRndQ
set_option linter.unusedVariables false
set_option linter.unusedSimpArgs false
namespace Go.Proofs.Ytbcnalabalegfaa
open Go Go.RowKit Go.Shelf
open Go.Proofs (encStr)
attribute [local go_sem] Oper.semAt_some
variable {W W' : World} {B m n : Nat} {g : List UInt8 → Option Nat} {sl : List UInt8 → Value} {d : Dsk} {S : Nat → Prop}

theorem KI.heap {W W' : World} {v : Value} {l : List Int} (h : KI W v l) (hb : ∀ b, 0 < l.length → blockOf v = some b → W'.heap[b]? = W.heap[b]?) : KI W' v l := by
  obtain ⟨A, c, rfl, h1, h2⟩ := h
  refine ⟨A, c, rfl, h1, fun i hi => ?_⟩
  obtain ⟨gg, o, rfl, hc⟩ := h2 i hi
  refine ⟨gg, o, rfl, ?_⟩
  have := hb gg (by omega) rfl
  rw [← hc]
  simp [World.cell?, this]
theorem Chg.putNew {S : Nat → Prop} {a b : World} (h : Chg S a b) (k : Nat) (o : Obj) (hk : a.heap.size ≤ k) : Chg S a (b.putObj k o) :=
  ⟨h.os, h.tape, h.output, by have := h.size; simpa [World.putObj] using this, fun i hi hn => (World.putObj_heap_other (by omega)).trans (h.block i hi hn)⟩
theorem KI.lt {W : World} {v : Value} {l : List Int} (h : KI W v l) (h0 : 0 < l.length) {b : Nat} (hb : blockOf v = some b) : b < W.heap.size := by
  obtain ⟨A, c, rfl, h1, h2⟩ := h
  obtain ⟨gg, o, rfl, hc⟩ := h2 0 h0
  obtain rfl : gg = b := by simpa [blockOf] using hb
  exact World.block_lt_of_cell? W _ hc
/-- what holds as the files are gone through: W0: when the loop began; N: its size; PE: the iterator's block; P2, P3, P4: the variables -/
def StI (W0 : World) (N PE B m n P2 P3 P4 : Nat) (g : List UInt8 → Option Nat) (d0 : Dsk) (S : Nat → Prop) (kv : Value) (keep : List Int) (ns : List (List UInt8)) (k : Nat) (D : Nat → Prop) (W : World) : Prop :=
  ∃ sl d kk, (d, kk) = (ns.take k).foldl (stS keep) (d0, 0) ∧ kk ≤ k ∧ (-1000000000000 - 1000000000 * (k : Int) ≤ d.used ∧ d.used ≤ 1000000000000) ∧ DKat W B m n g sl d S ∧ Boxed W P2 24 (.pointer (some ⟨B, 0, none⟩)) ∧ Boxed W P3 32 kv ∧ Boxed W P4 3 (.int .i64 (kk : Int)) ∧ KI W kv keep ∧
    Chg S W0 W ∧ (∀ b, b < N → b ≠ PE → D b) ∧ N ≤ W.heap.size
theorem StI.stable {W0 : World} {N PE B m n P2 P3 P4 : Nat} {g : List UInt8 → Option Nat} {d0 : Dsk} {S : Nat → Prop} {kv : Value} {keep : List Int} {ns : List (List UInt8)} (hS : ∀ b, S b → b < N ∧ b ≠ PE) (h2 : P2 < N ∧ P2 ≠ PE) (h3 : P3 < N ∧ P3 ≠ PE) (h4 : P4 < N ∧ P4 ≠ PE)
    (hkv : ∀ b, 0 < keep.length → blockOf kv = some b → b < N ∧ b ≠ PE) (hN : W0.heap.size ≤ N) (hE : W0.heap.size ≤ PE) : StableD 0 (StI W0 N PE B m n P2 P3 P4 g d0 S kv keep ns) := by
  rintro k D W W' ⟨sl, d, kk, q1, q2, q3, q4, q5, q6, q7, q8, q9, q10, q11⟩ hk
  have hb : ∀ b, b < N → b ≠ PE → W'.heap[b]? = W.heap[b]? := fun b h1 h2 => hk.block b (by omega) (.inr (q10 b h1 h2))
  exact ⟨sl, d, kk, q1, q2, q3, q4.keep (fun b hb' => hb b (hS b hb').1 (hS b hb').2) hk.size, boxed_of q5 (hb P2 h2.1 h2.2), boxed_of q6 (hb P3 h3.1 h3.2), boxed_of q7 (hb P4 h4.1 h4.2), q8.heap (fun b h0 hb' => hb b (hkv b h0 hb').1 (hkv b h0 hb').2),
    ⟨hk.os.trans q9.os, hk.tape.trans q9.tape, hk.output.trans q9.output, Nat.le_trans q9.size hk.size, fun b hb1 hb2 => (hb b (by omega) (by omega)).trans (q9.block b hb1 hb2)⟩, q10, Nat.le_trans q11 hk.size⟩
set_option maxRecDepth 100000 in
set_option maxHeartbeats 8000000 in
/-- **Start**, the power being off -/
theorem dstart_any (w : World) (h : DKat w B m n g sl d S) (hdn : d.down = true) (hsm : d.small) (hn : n ≤ 1000000) (kv : Value) (keep : List Int) (hkv : KIn w kv keep S) (hkl : keep.length ≤ 1000000) (ns : List (List UInt8)) (hup : Up ns) (hmem : ∀ x, x ∈ ns ↔ (d.f x).isSome = true) (hxl : ∀ x ∈ ns, x.length ≤ 1000000) (hnl : ns.length ≤ 100000) :
    Calls Try.prog 12 #[.pointer (some ⟨B, 0, none⟩), kv] w fun e w' => e = .returned (.tuple #[]) ∧ DPost w B n (startD d keep ns) S w' := by
  obtain ⟨n₀, hn₀⟩ : ∃ q, w.heap.size = q := ⟨_, rfl⟩
  have hmem' : ∀ x, x ∈ ns ↔ (g x).isSome = true := fun x => by rw [hmem, h.dom]
  obtain ⟨hki, hkout⟩ := id hkv
  obtain ⟨kA, kc, rfl, ⟨hkc1, hkc2⟩, -⟩ := id hki
  obtain ⟨W1, hW1⟩ : ∃ q, (w.alloc (.cells #[.pointer (some ⟨B, 0, none⟩)] 24)).alloc (.cells #[.slice kA keep.length kc] 32) = q := ⟨_, rfl⟩
  have hs1 : W1.heap.size = n₀ + 2 := by rw [← hW1, alloc_size, alloc_size, hn₀]
  have hb1 : Below n₀ w W1 := by rw [← hW1]; exact ((Below.refl _ w).alloc (by omega) _).alloc (by rw [alloc_size]; omega) _
  have hbx2 : Boxed W1 n₀ 24 (.pointer (some ⟨B, 0, none⟩)) := by
    have := Boxed.new w 24 (.pointer (some ⟨B, 0, none⟩))
    rw [hn₀] at this
    rw [← hW1]; exact this.alloc _
  have hbx3 : Boxed W1 (n₀ + 1) 32 (.slice kA keep.length kc) := by
    have := Boxed.new (w.alloc (.cells #[.pointer (some ⟨B, 0, none⟩)] 24)) 32 (.slice kA keep.length kc)
    rw [alloc_size, hn₀] at this
    rw [← hW1]; exact this
  have hk1 := h.below (by rw [hn₀]; exact hb1)
  obtain ⟨c0, -, -, -, c4⟩ := hk1.cells.cell
  rw [hdn] at c4
  have qT := fun w => run_eql_map_nil (P := Try.prog) w 35 9 39 (some m) Try.underlying35
  have e2 := hbx2.cell
  have e3 := hbx3.cell
  have HHs := Lib.hid h
  obtain ⟨kl, hkle⟩ : ∃ q, keep.length = q := ⟨_, rfl⟩
  rw [hkle] at hW1 hbx3 e3 hkc1 hkl ⊢
  have HKL := Lib.hid hkle
  have HKV := Lib.hid hkv
  clear hkle hkv hki hkout
  refine (callsIn_wide (n := 0)).1 ?_
  refine callsIn_of_wp_marks Try.func12 rfl trivial ?_
  simp only [Try.ntmps12, List.size_toArray, List.length_cons, List.length_nil, Nat.reduceAdd, Nat.reduceSub, Array.replicate_succ, Array.replicate_zero, List.push_toArray, List.append_toArray, List.nil_append, List.cons_append]
  gi_wp2_with fail
  obtain ⟨W2, hW2⟩ : ∃ q, W1.alloc (.cells #[.int .i64 0] 3) = q := ⟨_, rfl⟩
  have hs2 : W2.heap.size = n₀ + 3 := by rw [← hW2, alloc_size, hs1]
  have hea := deach_any W2 B
  rw [hs2] at hea
  rw [hW2]
  refine ⟨trivial, rfl, (callsIn_wide.2 hea).mono ?_⟩
  rintro e w2 ⟨rfl, hw⟩
  obtain ⟨W0, hW0⟩ : ∃ q, W2.alloc (.cells #[.pointer (some ⟨B, 0, none⟩)] 24) = q := ⟨_, rfl⟩
  rw [hw, hW0]
  have hs0 : W0.heap.size = n₀ + 4 := by rw [← hW0, alloc_size, hs2]
  have hb10 : Below W1.heap.size W1 W0 := by rw [← hW0, ← hW2]; exact ((Below.refl _ W1).alloc (Nat.le_refl _) _).alloc (by rw [alloc_size]; omega) _
  have hb0 : Below n₀ w W0 := hb1.trans (hb10.mono (by omega))
  have y2 : Boxed W0 n₀ 24 (.pointer (some ⟨B, 0, none⟩)) := boxed_of hbx2 (hb10.block n₀ (by omega))
  have y3 : Boxed W0 (n₀ + 1) 32 (.slice kA kl kc) := boxed_of hbx3 (hb10.block (n₀ + 1) (by omega))
  have y4 : Boxed W0 (n₀ + 2) 3 (.int .i64 0) := by
    have := Boxed.new W1 3 (.int .i64 0)
    rw [hs1, hW2] at this
    rw [← hW0]; exact this.alloc _
  have y5 : Boxed W0 (n₀ + 3) 24 (.pointer (some ⟨B, 0, none⟩)) := by
    have := Boxed.new W2 24 (.pointer (some ⟨B, 0, none⟩))
    rw [hs2] at this
    rw [← hW0]; exact this
  have hk0 := h.below (by rw [hn₀]; exact hb0)
  have hSn : ∀ b, S b → b < n₀ := fun b hb => by have := h.lt b hb; omega
  have hseq := deach1_seq 0 (n₀ + 3) B m n g ns hup hmem' hn hxl W0 y5
  have hkv0 : KI W0 (.slice kA kl kc) keep := by
    have := HKV.out.1
    rw [HKL.out] at this
    exact this.heap (fun b h0 hb => hb0.block b (by have := this.lt h0 hb; omega))
  have hkb : ∀ b, 0 < keep.length → blockOf (.slice kA kl kc) = some b → b < n₀ ∧ ¬ S b := fun b h0 hb => by
    obtain ⟨h1, h2⟩ := HKV.out
    rw [HKL.out] at h1 h2
    obtain ⟨b', h3, h4⟩ := h2 (by rw [← HKL.out]; exact h0)
    rw [hb] at h3
    cases h3
    exact ⟨by have := h1.lt h0 hb; omega, h4⟩
  obtain ⟨sm1, sm2, sm3, sm4, sm5, sm6⟩ := hsm
  have hI0 : StI w (n₀ + 4) (n₀ + 3) B m n n₀ (n₀ + 1) (n₀ + 2) g d S (.slice kA kl kc) keep ns 0 (fun b => b < n₀ + 4 ∧ b ≠ n₀ + 3) W0 :=
    ⟨sl, d, 0, rfl, Nat.le_refl _, ⟨by omega, by omega⟩, hk0, y2, y3, y4, hkv0, Chg.of_below (by rw [hn₀]; exact hb0), fun b h1 h2 => ⟨h1, h2⟩, by rw [hs0]; exact Nat.le_refl _⟩
  have hst : StableD 0 (StI w (n₀ + 4) (n₀ + 3) B m n n₀ (n₀ + 1) (n₀ + 2) g d S (.slice kA kl kc) keep ns) :=
    StI.stable (fun b hb => by have := hSn b hb; omega) (by omega) (by omega) (by omega) (fun b h0 hb => by have := (hkb b h0 hb).1; omega) (by omega) (by omega)
  have HSEQ := Lib.hid hseq
  have HI0 := Lib.hid hI0
  have HST := Lib.hid hst
  have HKB := Lib.hid hkb
  have HSN := Lib.hid hSn
  have HXL := Lib.hid hxl
  have HMEM := Lib.hid hmem'
  have HNL := Lib.hid hnl
  have HSM := Lib.hid (show -1000000000000 ≤ d.used ∧ d.used ≤ 1000000000000 from ⟨sm1, sm2⟩)
  clear hseq hI0 hst hkb hSn hxl hmem hmem' hnl sm1 sm2 sm3 sm4 sm5 sm6 hkv0 hk0 y2 y3 y4 y5 hb0 hb10 hw hea hup h hk1 hbx2 hbx3 c0 c4 qT e2 e3 hW0 hW2 hW1 hb1
  gi_wp2_with fail
  refine wpIn_rangeFunc_R (gf := 22) (lb := #[.pointer (some ⟨n₀ + 3, 0, none⟩)]) (n₀ := 0) (Enc := EncF) (xs := byName g ns) rfl (enters_of Try.func22 (by kernel_rfl) rfl)
    HSEQ.out (fun x az _ _ h => by cases h; rfl)
    (fun x az M W lp dk r o ds h h1 h2 => h) (Nat.zero_le _) (Below.refl _ _)
    (fun b => b < n₀ + 4 ∧ b ≠ n₀ + 3) (fun b h => by rw [hs0]; exact h.1) (fun b h => by subst h; exact ⟨fun h => h.2 rfl, by rw [hs0]; omega, rfl⟩)
    (StI w (n₀ + 4) (n₀ + 3) B m n n₀ (n₀ + 1) (n₀ + 2) g d S (.slice kA kl kc) keep ns) (fun _ _ _ _ => False) HST.out (fun k D W ⟨sl, d, kk, q1, q2, q3, q4, _⟩ => q4.rd) (fun c k D W W' h _ => h)
    HI0.out
    (fun az => { tmps := #[.pointer (some ⟨B, 0, none⟩), .slice kA kl kc, .pointer (some ⟨n₀, 0, none⟩), .pointer (some ⟨n₀ + 1, 0, none⟩), .pointer (some ⟨n₀ + 2, 0, none⟩), undef, az[1]?.getD undef, undef, undef, .pointer (some ⟨B, 0, none⟩), .bool false, .bool false, .pointer (some ⟨B, 0, none⟩), .pointer (some ⟨B, 0, none⟩), .pointer (some ⟨B, 0, none⟩), .map (some m), .bool false, .bool false, .bool false, .pointer (some ⟨B, 0, none⟩), .pointer (some ⟨B, 0, none⟩), .pointer (some ⟨B, 4, none⟩), .bool true, .bool false, .bool false, .pointer (some ⟨B, 0, none⟩), .func (.func 22) #[] #[.pointer (some ⟨n₀ + 3, 0, none⟩)], az[0]?.getD undef, az[1]?.getD undef, undef, undef, undef, undef, undef, undef, undef, undef, undef, undef, undef, undef, undef, undef, undef, undef, undef, undef, undef, undef, undef, undef, undef, undef, undef, undef, undef, undef, undef, undef, undef, undef, undef, undef, undef, undef, undef, undef, undef, undef, undef, undef, undef, undef, undef, undef, undef, undef, undef, undef, undef, undef, undef, undef, undef, undef, undef, undef, undef, undef, undef, undef, undef], defers := [] }) ?assign ?body ?done ?stop
  case assign =>
    rintro lp x az M W K hE hK
    cases hE
    obtain ⟨x1, x2⟩ := x
    cases x2 with
    | none => gi_wp2; exact hK
    | some F => gi_wp2; exact hK
  case body =>
    rintro lp k x az D M W hx hE ⟨sl', d', kk, q1, q2, q3, q4, q5, q6, q7, q8, q9, q10, q11⟩ hDb hMD
    cases hE
    obtain ⟨hx1, hx2⟩ := byName_get hx
    have hkl' : k < ns.length := (List.getElem?_eq_some_iff.1 hx1).1
    have hkn : k < 100000 := by have := HNL.out; omega
    have hsn := take_snoc ns k _ hx1
    obtain ⟨nm, hnm⟩ : ∃ q, x.1 = q := ⟨_, rfl⟩
    obtain ⟨o, ho⟩ : ∃ q, x.2 = q := ⟨_, rfl⟩
    rw [hnm] at hx1 hx2 hsn ⊢
    rw [ho] at hx2 ⊢
    have hsome : (g nm).isSome = true := (HMEM.out nm).1 (List.mem_of_getElem? hx1)
    obtain ⟨F, hF⟩ := Option.isSome_iff_exists.1 hsome
    rw [hF] at hx2
    subst hx2
    rw [show ptrV (some F) = .pointer (some ⟨F, 0, none⟩) from rfl]
    clear hnm ho hx hx1 hsome
    obtain ⟨b, s, p1, p2, p2', p3, p4, p5, p6⟩ := q4.file nm F hF
    obtain ⟨A, cp, hslv, hcp1, hcp2, -⟩ := p4.reads.form
    rw [hslv] at p3
    obtain ⟨L, hL⟩ : ∃ q, b.length = q := ⟨_, rfl⟩
    rw [hL] at hslv p3 hcp1 p2 p2'
    obtain ⟨f0, f1⟩ := p3.cell
    obtain ⟨c0, c1, c2, c3, c4⟩ := q4.cells.cell
    have e2 := q5.cell
    have e3 := q6.cell
    have e4 := q7.cell
    have g4 := q7.frozen
    have g0 := p3.frozen 0
    have g1 := p3.frozen 1
    have g2 := q4.cells.frozen 2
    have nFB := (q4.neB hF).1
    have nF4 : F ≠ n₀ + 2 := by have := HSN.out F p5; omega
    have nB4 : B ≠ n₀ + 2 := by have := HSN.out B q4.inB; omega
    obtain ⟨used, hue⟩ : ∃ q, d'.used = q := ⟨_, rfl⟩
    rw [hue] at c2 q3
    have hS0 : ∀ b, M b → ¬ (b < n₀ + 4 ∧ b ≠ n₀ + 3) := fun b hb h => (hMD b hb).2 (q10 b h.1 h.2)
    have nMF : ¬ M F := fun h => hS0 F h (by have := HSN.out F p5; omega)
    have nMB : ¬ M B := fun h => hS0 B h (by have := HSN.out B q4.inB; omega)
    have nM4 : ¬ M (n₀ + 2) := fun h => hS0 _ h (by omega)
    have nFk : ∀ (b : Nat), 0 < keep.length → blockOf (.slice kA kl kc) = some b → b ≠ F ∧ b ≠ B ∧ b ≠ n₀ + 2 := fun b h0 hb => by
      obtain ⟨h1, h2⟩ := HKB.out b h0 hb
      exact ⟨fun e => h2 (by rw [e]; exact p5), fun e => h2 (by rw [e]; exact q4.inB), by omega⟩
    have hNle : n₀ + 4 ≤ W.heap.size := q11
    have fin : ∀ (W4 : World) (sl4 : List UInt8 → Value) (d4 : Dsk) (kk4 : Nat) (ac : Act), W4.os = W.os → W4.tape = W.tape → W4.output = W.output → W.heap.size ≤ W4.heap.size → (∀ b, b < W.heap.size → b ≠ F → b ≠ B → b ≠ n₀ + 2 → W4.heap[b]? = W.heap[b]?) →
        DKat W4 B m n g sl4 d4 S → Boxed W4 (n₀ + 2) 3 (.int .i64 (kk4 : Int)) → stS keep (d', kk) nm = (d4, kk4) → kk4 ≤ k + 1 → (-1000000000000 - 1000000000 * ((k + 1 : Nat) : Int) ≤ d4.used ∧ d4.used ≤ 1000000000000) →
        postD 0 (StI w (n₀ + 4) (n₀ + 3) B m n n₀ (n₀ + 1) (n₀ + 2) g d S (.slice kA kl kc) keep ns) (fun _ _ _ _ => False) (k + 1) M W Exit.normal ac W4 := by
      intro W4 sl4 d4 kk4 ac z1 z2 z3 z4 z5 z6 z7 z8 z9 z10
      have hb : ∀ b, b < n₀ → ¬ S b → W4.heap[b]? = W.heap[b]? := fun b h1 h2 => z5 b (by omega) (fun e => h2 (by rw [e]; exact p5)) (fun e => h2 (by rw [e]; exact q4.inB)) (by omega)
      refine ⟨D, fun b hb => ⟨Nat.lt_of_lt_of_le (hDb b hb) z4, fun hm => (hMD b hm).2 hb⟩, ⟨z1, z2, z3, z4, fun b h1 h2 => ?_⟩, sl4, d4, kk4, ?_, z9, z10, z6, boxed_of q5 (z5 n₀ (by omega) (by have := HSN.out F p5; omega) (by have := HSN.out B q4.inB; omega) (by omega)), boxed_of q6 (z5 (n₀ + 1) (by omega) (by have := HSN.out F p5; omega) (by have := HSN.out B q4.inB; omega) (by omega)), z7,
        q8.heap (fun b h0 hb' => z5 b (by have := (HKB.out b h0 hb').1; omega) (nFk b h0 hb').1 (nFk b h0 hb').2.1 (nFk b h0 hb').2.2), ⟨z1.trans q9.os, z2.trans q9.tape, z3.trans q9.output, Nat.le_trans q9.size z4, fun b h1 h2 => (hb b (by omega) h2).trans (q9.block b h1 h2)⟩, q10, Nat.le_trans q11 z4⟩
      · have hM : M b := by rcases h2 with h2 | h2; omega; exact h2
        exact z5 b h1 (fun e => nMF (by rw [← e]; exact hM)) (fun e => nMB (by rw [← e]; exact hM)) (fun e => nM4 (by rw [← e]; exact hM))
      · rw [hsn, List.foldl_append, ← q1]
        exact z8.symm
    have FIN := Lib.hid fin
    have HKI := Lib.hid q8
    have HP1 := Lib.hid p1
    have Q4 := Lib.hid q4
    have Q7 := Lib.hid q7
    have HLL := Lib.hid hL
    have HFF := Lib.hid hF
    have HUE := Lib.hid hue
    have hkk : kk ≤ k := q2
    have hub := q3
    clear fin hsn q1 q2 q3 q5 q6 q8 q9 q10 q11 p4 p5 p6 hMD hDb hS0 nMF nMB nM4 nFk q4 q7 p1 p3 hF
    by_cases hsL : s < L
    · obtain ⟨q, hq⟩ : ∃ q, cutK keep kk (L - s) = q := ⟨_, rfl⟩
      have hqle : q ≤ L - s := by rw [← hq]; exact cutK_le _ _ _
      obtain ⟨t, ht⟩ : ∃ t : Int, t = (L : Int) - (s : Int) := ⟨_, rfl⟩
      obtain ⟨nv, hnv⟩ : ∃ nv : Int, nv = (q : Int) := ⟨_, rfl⟩
      obtain ⟨t2, ht2⟩ : ∃ t2 : Int, t2 = t - nv := ⟨_, rfl⟩
      obtain ⟨u2, hu2⟩ : ∃ u2 : Int, u2 = used - t2 := ⟨_, rfl⟩
      obtain ⟨qn, hqn⟩ : ∃ qn : Nat, qn = s + q := ⟨_, rfl⟩
      obtain ⟨kk1, hkk1⟩ : ∃ kk1 : Nat, kk1 = kk + 1 := ⟨_, rfl⟩
      have x1 : IntKind.i64.wrap ((L : Int) - (s : Int)) = t := by rw [ht]; exact IntWalk.i64_in _ (by omega)
      have x2 : IntKind.i64.wrap (t - nv) = t2 := by rw [ht2]; exact IntWalk.i64_in _ (by omega)
      have x3 : IntKind.i64.wrap (used - t2) = u2 := by rw [hu2]; exact IntWalk.i64_in _ (by omega)
      have x4 : IntKind.i64.wrap ((s : Int) + nv) = (qn : Int) := by rw [IntWalk.i64_in _ (by omega)]; omega
      have x5 : IntKind.i64.wrap ((kk : Int) + 1) = (kk1 : Int) := by rw [IntWalk.i64_in _ (by omega)]; omega
      have x6 := fun w => slice_runh A L cp qn (by omega) (qn : Int) rfl w
      have d0 : decide ((0 : Int) < t) = true := decide_eq_true (by omega)
      have d0' : (0 : Int) < t := by omega
      have HQ : Hid (cutK keep kk (L - s) = q ∧ q ≤ L - s ∧ t = (L : Int) - (s : Int) ∧ nv = (q : Int) ∧ t2 = t - nv ∧ u2 = used - t2 ∧ qn = s + q ∧ kk1 = kk + 1 ∧ L ≤ 1000000000) := ⟨hq, hqle, ht, hnv, ht2, hu2, hqn, hkk1, p2'⟩
      have nFB' : ¬ B = F := fun e => nFB e.symm
      have nF4' : ¬ n₀ + 2 = F := fun e => nF4 e.symm
      have nB4' : ¬ n₀ + 2 = B := fun e => nB4 e.symm
      have hBn := HSN.out B Q4.out.inB
      have nB2 : ¬ n₀ = B := by omega
      have nB3 : ¬ n₀ + 1 = B := by omega
      have ksplit : (¬ kk < kl ∧ nv = 0) ∨ (kk < kl ∧ ∃ kval gg o, kA = some ⟨gg, o, none⟩ ∧ W.cell? ⟨gg, o + kk, none⟩ = some (.int .i64 kval) ∧ min (max kval 0) t = nv) := by
        by_cases hk1 : kk < kl
        · right
          obtain ⟨A', c', e', -, h2⟩ := HKI.out
          have hki : kk < keep.length := by rw [HKL.out]; exact hk1
          obtain ⟨gg, o, e2, hcell⟩ := h2 kk hki
          have eA : kA = A' := by injection e'
          refine ⟨hk1, keep[kk], gg, o, by rw [eA, e2], hcell, ?_⟩
          have hc : cutK keep kk (L - s) = min (max keep[kk] 0).toNat (L - s) := by unfold cutK; rw [dif_pos hki]
          rw [hq] at hc
          omega
        · left
          have hc : cutK keep kk (L - s) = 0 := by unfold cutK; rw [dif_neg (by rw [HKL.out]; exact hk1)]
          exact ⟨hk1, by omega⟩
      clear hq hqle ht ht2 hu2 hqn hkk1 hnv
      rcases ksplit with ⟨hk1, hnv⟩ | ⟨hk1, kval, gg, o, hkA, hkc, hkv⟩
      · subst hnv
        have d1 : decide (kk < kl) = false := decide_eq_false hk1
        have d1' : decide ((kk : Int) < (kl : Int)) = false := decide_eq_false (by omega)
        have y2 : IntKind.i64.wrap t = t2 := by rw [← x2, Int.sub_zero]
        have y4 : IntKind.i64.wrap (s : Int) = (qn : Int) := by rw [← x4, Int.add_zero]
        gi_wp2_with fail
        refine wpIn_round_tail 10 (by kernel_rfl) (by kernel_rfl) (by kernel_rfl) ?hQ ?_
        case hQ => rintro ⟨a, w, h⟩; exact h
        simp only [List.take_succ_cons, List.take_zero, List.drop_succ_cons, List.drop_zero]
        repeat still_step
        try refine wpStill_nil ?_
        change wpList _ _ _ _ _ (World.drew _)
        obtain ⟨W3, hW3⟩ : ∃ q, W.drew = q := ⟨_, rfl⟩
        rw [hW3]
        have hhp : W3.heap = W.heap := by rw [← hW3]; rfl
        have hc3 : Chg S W W3 := by rw [← hW3]; exact Chg.drew S W
        have hcell : ∀ p, W3.cell? p = W.cell? p := fun p => by simp [World.cell?, hhp]
        have hfroz : ∀ p, W3.frozen? p = W.frozen? p := fun p => by simp [World.frozen?, hhp]
        rw [← hcell] at f0 f1 c2 e2 e3 e4
        rw [← hfroz] at g0 g1 g2 g4
        have HHP := Lib.hid hhp
        have HC3 := Lib.hid hc3
        clear hhp hc3 hcell hfroz hW3
        go_wp2
        gi_wp2
        obtain ⟨W4, hW4⟩ : ∃ q, ((W3.setCell ⟨n₀ + 2, 0, none⟩ (.int .i64 (kk1 : Int))).setCell ⟨B, 2, none⟩ (.int .i64 u2)) = q := ⟨_, rfl⟩
        rw [hW4]
        have hF4 : W4.heap[F]? = W3.heap[F]? := by rw [← hW4, heap_setCell_other _ ⟨B, 2, none⟩ F _ nFB, heap_setCell_other _ ⟨n₀ + 2, 0, none⟩ F _ nF4]
        have f04 : W4.cell? ⟨F, 0, none⟩ = some (.slice A L cp) := by rw [← f0]; simp [World.cell?, hF4]
        have f14 : W4.cell? ⟨F, 1, none⟩ = some (.int .i64 (s : Int)) := by rw [← f1]; simp [World.cell?, hF4]
        refine wpIn_round_tail 14 (by kernel_rfl) (by kernel_rfl) (by kernel_rfl) ?hQ ?_
        case hQ => rintro ⟨a, w, h⟩; exact h
        simp only [List.take_succ_cons, List.take_zero, List.drop_succ_cons, List.drop_zero]
        repeat still_step
        try refine wpStill_nil ?_
        change wpList _ _ _ _ _ (World.drew _)
        clear hF4 f04 f14
        obtain ⟨W5, hW5⟩ : ∃ q, W4.drew = q := ⟨_, rfl⟩
        rw [hW5]
        rw [← hW4] at hW5
        have hs5 : W5.heap = ((W3.setCell ⟨n₀ + 2, 0, none⟩ (.int .i64 (kk1 : Int))).setCell ⟨B, 2, none⟩ (.int .i64 u2)).heap := by rw [← hW5]; rfl
        have ho5 : W5.os = W3.os ∧ W5.tape = W3.tape ∧ W5.output = W3.output := by rw [← hW5]; exact ⟨rfl, rfl, rfl⟩
        have hF5 : W5.heap[F]? = W3.heap[F]? := by rw [hs5, heap_setCell_other _ ⟨B, 2, none⟩ F _ nFB, heap_setCell_other _ ⟨n₀ + 2, 0, none⟩ F _ nF4]
        have f05 : W5.cell? ⟨F, 0, none⟩ = some (.slice A L cp) := by rw [← f0]; simp [World.cell?, hF5]
        have f15 : W5.cell? ⟨F, 1, none⟩ = some (.int .i64 (s : Int)) := by rw [← f1]; simp [World.cell?, hF5]
        have g05 : W5.frozen? ⟨F, 0, none⟩ = false := by rw [← g0]; simp [World.frozen?, hF5]
        have g15 : W5.frozen? ⟨F, 1, none⟩ = false := by rw [← g1]; simp [World.frozen?, hF5]
        have HS5 := Lib.hid hs5
        have HO5 := Lib.hid ho5
        clear hW5 hs5 ho5 hF5 f0 f1 g0 g1
        go_wp2
        gi_wp2
        obtain ⟨r1, r2, r3, r4, r5, r6, r7, r8, r9⟩ := HQ.out
        have k3 := Q4.out.heap HHP.out
        have hs3 : W3.heap.size = W.heap.size := by rw [HHP.out]
        have k4 : DKat (W3.setCell ⟨n₀ + 2, 0, none⟩ (.int .i64 (kk1 : Int))) B m n g sl' d' S := k3.keep (fun b hb => heap_setCell_other W3 ⟨n₀ + 2, 0, none⟩ b _ (show b ≠ n₀ + 2 by have := HSN.out b hb; omega)) (by simp [World.setCell])
        have k5 := (k4.set2 u2).heap HS5.out
        have k6 := k5.cutF HFF.out HP1.out hslv qn (by rw [HLL.out]; omega)
        have st := stS_tail (keep := keep) (p := (d', kk)) HP1.out (by rw [HLL.out]; exact hsL) q (by rw [HLL.out]; exact r1)
        refine FIN.out _ _ { d' with f := updF d'.f nm (some (b.take qn, qn)), used := u2 } kk1 _ ?_ ?_ ?_ ?_ ?_ k6 ?_ ?_ (by omega) ⟨by show _ ≤ u2; omega, by show u2 ≤ _; omega⟩
        · exact HO5.out.1.trans HC3.out.os
        · exact HO5.out.2.1.trans HC3.out.tape
        · exact HO5.out.2.2.trans HC3.out.output
        · have := HS5.out
          simp only [World.setCell, Array.size_modify, this, hs3]
          exact Nat.le_refl _
        · intro b' h1 h2 h3 h4
          rw [heap_setCell_other _ ⟨F, 1, none⟩ b' _ h2, heap_setCell_other _ ⟨F, 0, none⟩ b' _ h2, HS5.out, heap_setCell_other _ ⟨B, 2, none⟩ b' _ h3, heap_setCell_other _ ⟨n₀ + 2, 0, none⟩ b' _ h4, HHP.out]
        · have y := (boxed_of Q7.out (show W3.heap[n₀ + 2]? = W.heap[n₀ + 2]? by rw [HHP.out])).set (.int .i64 (kk1 : Int))
          refine boxed_of y ?_
          rw [heap_setCell_other _ ⟨F, 1, none⟩ (n₀ + 2) _ (Ne.symm nF4), heap_setCell_other _ ⟨F, 0, none⟩ (n₀ + 2) _ (Ne.symm nF4), HS5.out, heap_setCell_other _ ⟨B, 2, none⟩ (n₀ + 2) _ (Ne.symm nB4)]
        · rw [st, HLL.out, HUE.out]
          have e1 : used - ((L : Int) - (s : Int) - (q : Int)) = u2 := by omega
          rw [e1, ← r7, ← r8]
      · subst hkA
        have d1 : decide (kk < kl) = true := decide_eq_true hk1
        have d1' : decide ((kk : Int) < (kl : Int)) = true := decide_eq_true (by omega)
        have i0 : (0 : Int) ≤ (kk : Int) := by omega
        have i1 : (kk : Int) < (kl : Int) := by omega
        gi_wp2_with fail
        refine wpIn_round_tail 10 (by kernel_rfl) (by kernel_rfl) (by kernel_rfl) ?hQ ?_
        case hQ => rintro ⟨a, w, h⟩; exact h
        simp only [List.take_succ_cons, List.take_zero, List.drop_succ_cons, List.drop_zero]
        repeat still_step
        try refine wpStill_nil ?_
        change wpList _ _ _ _ _ (World.drew _)
        obtain ⟨W3, hW3⟩ : ∃ q, W.drew = q := ⟨_, rfl⟩
        rw [hW3]
        have hhp : W3.heap = W.heap := by rw [← hW3]; rfl
        have hc3 : Chg S W W3 := by rw [← hW3]; exact Chg.drew S W
        have hcell : ∀ p, W3.cell? p = W.cell? p := fun p => by simp [World.cell?, hhp]
        have hfroz : ∀ p, W3.frozen? p = W.frozen? p := fun p => by simp [World.frozen?, hhp]
        rw [← hcell] at f0 f1 c2 e2 e3 e4
        rw [← hfroz] at g0 g1 g2 g4
        rw [← hcell] at hkc
        have HHP := Lib.hid hhp
        have HC3 := Lib.hid hc3
        clear hhp hc3 hcell hfroz hW3
        go_wp2
        gi_wp2
        obtain ⟨W4, hW4⟩ : ∃ q, ((W3.setCell ⟨n₀ + 2, 0, none⟩ (.int .i64 (kk1 : Int))).setCell ⟨B, 2, none⟩ (.int .i64 u2)) = q := ⟨_, rfl⟩
        rw [hW4]
        have hF4 : W4.heap[F]? = W3.heap[F]? := by rw [← hW4, heap_setCell_other _ ⟨B, 2, none⟩ F _ nFB, heap_setCell_other _ ⟨n₀ + 2, 0, none⟩ F _ nF4]
        have f04 : W4.cell? ⟨F, 0, none⟩ = some (.slice A L cp) := by rw [← f0]; simp [World.cell?, hF4]
        have f14 : W4.cell? ⟨F, 1, none⟩ = some (.int .i64 (s : Int)) := by rw [← f1]; simp [World.cell?, hF4]
        refine wpIn_round_tail 14 (by kernel_rfl) (by kernel_rfl) (by kernel_rfl) ?hQ ?_
        case hQ => rintro ⟨a, w, h⟩; exact h
        simp only [List.take_succ_cons, List.take_zero, List.drop_succ_cons, List.drop_zero]
        repeat still_step
        try refine wpStill_nil ?_
        change wpList _ _ _ _ _ (World.drew _)
        clear hF4 f04 f14
        obtain ⟨W5, hW5⟩ : ∃ q, W4.drew = q := ⟨_, rfl⟩
        rw [hW5]
        rw [← hW4] at hW5
        have hs5 : W5.heap = ((W3.setCell ⟨n₀ + 2, 0, none⟩ (.int .i64 (kk1 : Int))).setCell ⟨B, 2, none⟩ (.int .i64 u2)).heap := by rw [← hW5]; rfl
        have ho5 : W5.os = W3.os ∧ W5.tape = W3.tape ∧ W5.output = W3.output := by rw [← hW5]; exact ⟨rfl, rfl, rfl⟩
        have hF5 : W5.heap[F]? = W3.heap[F]? := by rw [hs5, heap_setCell_other _ ⟨B, 2, none⟩ F _ nFB, heap_setCell_other _ ⟨n₀ + 2, 0, none⟩ F _ nF4]
        have f05 : W5.cell? ⟨F, 0, none⟩ = some (.slice A L cp) := by rw [← f0]; simp [World.cell?, hF5]
        have f15 : W5.cell? ⟨F, 1, none⟩ = some (.int .i64 (s : Int)) := by rw [← f1]; simp [World.cell?, hF5]
        have g05 : W5.frozen? ⟨F, 0, none⟩ = false := by rw [← g0]; simp [World.frozen?, hF5]
        have g15 : W5.frozen? ⟨F, 1, none⟩ = false := by rw [← g1]; simp [World.frozen?, hF5]
        have HS5 := Lib.hid hs5
        have HO5 := Lib.hid ho5
        clear hW5 hs5 ho5 hF5 f0 f1 g0 g1
        go_wp2
        gi_wp2
        obtain ⟨r1, r2, r3, r4, r5, r6, r7, r8, r9⟩ := HQ.out
        have k3 := Q4.out.heap HHP.out
        have hs3 : W3.heap.size = W.heap.size := by rw [HHP.out]
        have k4 : DKat (W3.setCell ⟨n₀ + 2, 0, none⟩ (.int .i64 (kk1 : Int))) B m n g sl' d' S := k3.keep (fun b hb => heap_setCell_other W3 ⟨n₀ + 2, 0, none⟩ b _ (show b ≠ n₀ + 2 by have := HSN.out b hb; omega)) (by simp [World.setCell])
        have k5 := (k4.set2 u2).heap HS5.out
        have k6 := k5.cutF HFF.out HP1.out hslv qn (by rw [HLL.out]; omega)
        have st := stS_tail (keep := keep) (p := (d', kk)) HP1.out (by rw [HLL.out]; exact hsL) q (by rw [HLL.out]; exact r1)
        refine FIN.out _ _ { d' with f := updF d'.f nm (some (b.take qn, qn)), used := u2 } kk1 _ ?_ ?_ ?_ ?_ ?_ k6 ?_ ?_ (by omega) ⟨by show _ ≤ u2; omega, by show u2 ≤ _; omega⟩
        · exact HO5.out.1.trans HC3.out.os
        · exact HO5.out.2.1.trans HC3.out.tape
        · exact HO5.out.2.2.trans HC3.out.output
        · have := HS5.out
          simp only [World.setCell, Array.size_modify, this, hs3]
          exact Nat.le_refl _
        · intro b' h1 h2 h3 h4
          rw [heap_setCell_other _ ⟨F, 1, none⟩ b' _ h2, heap_setCell_other _ ⟨F, 0, none⟩ b' _ h2, HS5.out, heap_setCell_other _ ⟨B, 2, none⟩ b' _ h3, heap_setCell_other _ ⟨n₀ + 2, 0, none⟩ b' _ h4, HHP.out]
        · have y := (boxed_of Q7.out (show W3.heap[n₀ + 2]? = W.heap[n₀ + 2]? by rw [HHP.out])).set (.int .i64 (kk1 : Int))
          refine boxed_of y ?_
          rw [heap_setCell_other _ ⟨F, 1, none⟩ (n₀ + 2) _ (Ne.symm nF4), heap_setCell_other _ ⟨F, 0, none⟩ (n₀ + 2) _ (Ne.symm nF4), HS5.out, heap_setCell_other _ ⟨B, 2, none⟩ (n₀ + 2) _ (Ne.symm nB4)]
        · rw [st, HLL.out, HUE.out]
          have e1 : used - ((L : Int) - (s : Int) - (q : Int)) = u2 := by omega
          rw [e1, ← r7, ← r8]
    · have hsL' : s = L := by omega
      subst hsL'
      have x1 : IntKind.i64.wrap ((s : Int) - (s : Int)) = 0 := by rw [Int.sub_self]; decide
      gi_wp2_with fail
      refine wpIn_round_tail 10 (by kernel_rfl) (by kernel_rfl) (by kernel_rfl) ?hQ ?_
      case hQ => rintro ⟨a, w, h⟩; exact h
      simp only [List.take_succ_cons, List.take_zero, List.drop_succ_cons, List.drop_zero]
      repeat still_step
      try refine wpStill_nil ?_
      change wpList _ _ _ _ _ (World.drew _)
      obtain ⟨W3, hW3⟩ : ∃ q, W.drew = q := ⟨_, rfl⟩
      rw [hW3]
      have hhp : W3.heap = W.heap := by rw [← hW3]; rfl
      have hc3 : Chg S W W3 := by rw [← hW3]; exact Chg.drew S W
      have hkp3 : KeepOn 0 M W W3 := by rw [← hW3]; exact KeepOn.drew 0 M W
      have hcell : ∀ p, W3.cell? p = W.cell? p := fun p => by simp [World.cell?, hhp]
      have hfroz : ∀ p, W3.frozen? p = W.frozen? p := fun p => by simp [World.frozen?, hhp]
      rw [← hcell] at f0 f1
      rw [← hfroz] at g1
      have x2 : IntKind.i64.wrap 0 = 0 := by decide
      go_wp2
      gi_wp2
      refine FIN.out _ sl' { d' with f := updF d'.f nm (some (b, b.length)) } kk _ ?_ ?_ ?_ ?_ ?_ ?_ ?_ (stS_whole HP1.out (by rw [HLL.out]; omega)) (by omega) ⟨by show _ ≤ d'.used; rw [HUE.out]; omega, by show d'.used ≤ _; rw [HUE.out]; omega⟩
      · exact hc3.os
      · exact hc3.tape
      · exact hc3.output
      · have := hc3.size; simpa [World.setCell] using this
      · intro b' h1 h2 h3 h4
        rw [heap_setCell_other W3 ⟨F, 1, none⟩ b' _ h2, hhp]
      · have := (Q4.out.heap hhp).safeF (s' := s) HFF.out HP1.out (by rw [HLL.out]; omega)
        rw [HLL.out]
        exact this
      · exact boxed_of (boxed_of Q7.out (show W3.heap[n₀ + 2]? = W.heap[n₀ + 2]? by rw [hhp])) (heap_setCell_other W3 ⟨F, 1, none⟩ (n₀ + 2) _ (Ne.symm nF4))
  case done =>
    rintro dk D W hdk ⟨sl', d', kk, q1, q2, q3, q4, q5, q6, q7, q8, q9, q10, q11⟩ hK hDk
    have hll : (byName g ns).length = ns.length := by unfold byName; simp
    rw [hll, List.take_length] at q1
    rw [hs0] at hdk
    have hkN : ¬ (dk < n₀ + 4 ∧ dk ≠ n₀ + 3) := fun h => hDk (q10 dk h.1 h.2)
    have hdk0 : n₀ ≤ dk := by omega
    have e2 := q5.cell
    have f3 := q4.cells.frozen 3
    have f4 := q4.cells.frozen 4
    obtain ⟨c0, -, -, c3, c4⟩ := q4.cells.cell
    have hBn := HSN.out B q4.inB
    have hBd : B ≠ dk := by omega
    have k5 := (q4.set4 false).set3 0
    have hch : Chg S w ((W.setCell ⟨B, 4, none⟩ (.bool false)).setCell ⟨B, 3, none⟩ (.int .i64 0)) := (q9.trans (Chg.set W ⟨B, 4, none⟩ _ q4.inB)).trans (Chg.set _ ⟨B, 3, none⟩ _ q4.inB)
    have hsd : ({ d' with down := false, fuse := 0 } : Dsk) = startD d keep ns := by unfold startD; rw [← q1]
    have k6 : DKat ((W.setCell ⟨B, 4, none⟩ (.bool false)).setCell ⟨B, 3, none⟩ (.int .i64 0)) B m n g sl' (startD d keep ns) S := by rw [← hsd]; exact k5
    have HK6 := Lib.hid k6
    have HCH := Lib.hid hch
    have HK := Lib.hid hK
    clear q1 q2 q3 q4 q5 q6 q7 q8 q9 q10 q11 hK hDk k5 k6 hch hsd
    gi_wp2
    refine wpIn_wide.2 ?_
    go_region
    have hkd : ((W.setCell ⟨B, 4, none⟩ (.bool false)).setCell ⟨B, 3, none⟩ (.int .i64 0)).drew.heap[dk]? = some (.deferred (some [])) := by
      show ((W.setCell ⟨B, 4, none⟩ (.bool false)).setCell ⟨B, 3, none⟩ (.int .i64 0)).heap[dk]? = _
      rw [heap_setCell_other _ ⟨B, 3, none⟩ dk _ (Ne.symm hBd), heap_setCell_other _ ⟨B, 4, none⟩ dk _ (Ne.symm hBd)]
      exact HK.out
    refine ⟨by simp, .inl ⟨_, _, rfl, run_takeDeferred hkd, ?_⟩⟩
    refine ⟨_, results_none rfl _ _ _, rfl, S, ⟨m, g, sl', ?_⟩, ?_, Fr.refl _ _⟩
    · exact HK6.out.keep (fun b hb => World.putObj_heap_other (by have := HSN.out b hb; omega)) (by simp [World.putObj])
    · exact (HCH.out.trans (Chg.drew S _)).putNew dk _ (by omega)
  case stop =>
    rintro dk c k D W _ h _ _
    exact h.elim
end Go.Proofs.Ytbcnalabalegfaa
