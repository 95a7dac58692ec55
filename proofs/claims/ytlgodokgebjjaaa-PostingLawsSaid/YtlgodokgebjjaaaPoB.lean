/- Check of both, Same, the reference's Has. -/
import Derived.RangeFuncNested
import Derived.RangeFuncBound
import Derived.RangeFuncCalls
import Derived.RangeFuncLeaves
import Derived.Shelf.Abstract
import Derived.Shelf.RegionOpen
import Derived.WalkKit
import Derived.OwnWalkIn
import Derived.TacticsInMore
import Derived.LoopNIn
import Derived.LoopIn
import Derived.Outline
import Derived.Lib.Hide
import Derived.Lib.SliceRun
import Derived.IntWalk
import Derived.WalkLawsBesides
import Derived.WalkSpells
import Derived.Laws.BitsAllLaws
import Derived.Lib.ConvBytes
import Derived.Maps.AppendAt
import Derived.Lib.AppendStr
import Derived.Lib.SlBytesConst
import Derived.Laws.AppendOwnNone
import Derived.Laws.OwnMore
import Derived.Laws.BytesArg
import Derived.Deep.RegionHeld3
import Derived.BigQuiet
import Derived.Deep.RegionLaw
import Derived.Deep.QuietTactic
import Derived.Lib.OthersKept
import Derived.Test.YtlgodokgebjjaaaProg
import Derived.Deep.DeepFit
import Derived.Test.YtlgodokgebjjaaaPoA
set_option linter.unusedVariables false
set_option linter.unusedSimpArgs false
namespace Go.Proofs.Ytlgodokgebjjaaa
open Go Go.RowKit Go.Shelf

theorem NS.at_ {W : World} {A : Option Addr} {n c : Nat} {l : List Int} (h : NS W (.slice A n c) l) (hn : n = l.length) : ∀ k, k < l.length → ∃ g o, A = some ⟨g, o, none⟩ ∧ ∀ i (hi : i < l.length), W.cell? ⟨g, o + i, none⟩ = some (.int .i64 l[i]) := by
  intro k hk
  obtain ⟨A', c', e, h1, h2⟩ := h
  cases e
  obtain ⟨g, o, rfl, -⟩ := h2 k hk
  refine ⟨g, o, rfl, fun i hi => ?_⟩
  obtain ⟨g', o', e, hc⟩ := h2 i hi
  cases e
  exact hc
theorem rise_no (l : List Int) (k : Nat) (h1 : 1 ≤ k) (hk : k < l.length) (h : l[k] ≤ l[k - 1]) : riseB l = false := by
  refine Bool.eq_false_iff.2 fun hr => ?_
  have := (riseB_at l).1 hr (k - 1) (by omega)
  have e : k - 1 + 1 = k := by omega
  simp only [e] at this
  omega
theorem rise_yes (l : List Int) (h : ∀ j, j + 1 < l.length → ∀ (a : j < l.length) (b : j + 1 < l.length), l[j] < l[j + 1]) : riseB l = true := (riseB_at l).2 fun i hi => h i hi (by omega) hi
set_option maxRecDepth 100000 in
set_option maxHeartbeats 2000000 in
/-- **posting.Check** -/
theorem check_any (v : Value) (l : List Int) (w : World) (h : NS w v l) (hlen : l.length ≤ 1000000) :
    Calls Try.prog 24 #[v] w fun e w' => e = .returned (.bool (riseB l)) ∧ Below w.heap.size w w' := by
  obtain ⟨A, c, rfl, hc, -⟩ := id h
  have hU := h.at_ rfl
  obtain ⟨n, hn⟩ : ∃ n, l.length = n := ⟨_, rfl⟩
  obtain ⟨R, hR⟩ : ∃ R, riseB l = R := ⟨_, rfl⟩
  rw [hR]
  rw [hn] at hc hlen ⊢
  have HU := Lib.hid hU
  have HN := Lib.hid hn
  have HR := Lib.hid hR
  clear h hU hn hR
  go_enter Try.func24, Try.ntmps24
  go_wp2
  go_loopw [3] (fun i wr => ∃ k : Nat, (i = .int .i64 (k : Int) ∧ 1 ≤ k ∧ k ≤ n + 1) ∧ Hid (∀ j, j + 1 < k → ∀ (a : j < l.length) (b : j + 1 < l.length), l[j] < l[j + 1]) ∧ Mine w.heap.size w wr) (fun i _ => n + 1 - (intOf i).toNat)
  case atStart => exact ⟨1, ⟨rfl, Nat.le_refl _, by omega⟩, fun j hj => by omega, Mine.refl w⟩
  case round =>
    obtain ⟨k, ⟨rfl, hk1, hk⟩, hup, hm⟩ := hrel
    by_cases hlt : k < n
    · have hkl : k < l.length := by rw [HN.out]; exact hlt
      obtain ⟨g, o, rfl, hg⟩ := HU.out k hkl
      have c1 := hg k hkl
      have c0 := hg (k - 1) (by omega)
      have c1' := (hm.bel.cell (p := ⟨g, o + k, none⟩) (World.block_lt_of_cell? w _ c1)).trans c1
      have c0' := (hm.bel.cell (p := ⟨g, o + (k - 1), none⟩) (World.block_lt_of_cell? w _ c0)).trans c0
      have hno := rise_no l k hk1 hkl
      have hyes : l[k - 1] < l[k] → Hid (∀ j, j + 1 < k + 1 → ∀ (a : j < l.length) (b : j + 1 < l.length), l[j] < l[j + 1]) := fun h j hj a b => by
        by_cases e : j + 1 < k
        · exact hup.out j e a b
        · have e1 : j = k - 1 := by omega
          have e2 : k - 1 + 1 = k := by omega
          subst e1
          simp only [e2]
          exact h
      obtain ⟨x, hx⟩ : ∃ x, l[k] = x := ⟨_, rfl⟩
      obtain ⟨y, hy⟩ : ∃ x, l[k - 1] = x := ⟨_, rfl⟩
      rw [hx] at c1' hno hyes
      rw [hy] at c0' hno hyes
      obtain ⟨p, hp⟩ : ∃ p, k - 1 = p := ⟨_, rfl⟩
      rw [hp] at c0'
      have w1 : IntKind.i64.wrap ((k : Int) - 1) = (p : Int) := by rw [IntWalk.i64_in _ (by omega)]; omega
      have w2 : (k : Int) - 1 = (p : Int) := by omega
      have p0 : (0 : Int) ≤ (p : Int) := by omega
      have p1 : (p : Int) < (n : Int) := by omega
      have p2 : p < n := by omega
      have d0 : decide (k < n) = true := decide_eq_true hlt
      have d1 : decide ((k : Int) < (n : Int)) = true := decide_eq_true (by omega)
      have k0 : (0 : Int) ≤ (k : Int) := by omega
      have k1 : (k : Int) < (n : Int) := by omega
      have HM := Lib.hid hm
      have HNO := Lib.hid hno
      have HYES := Lib.hid hyes
      clear c1 c0 hg hx hy hm hup hno hyes hp
      by_cases he : x ≤ y
      · have e1 : decide (x ≤ y) = true := decide_eq_true he
        have hr : R = false := by rw [← HR.out]; exact HNO.out he
        clear he
        go_wp2_with fail
        go_quiet (fail)
        go_wp2
        go_ret
        exact ⟨by first | rfl | (rw [hr]; done) | (rw [hr]; rfl), below_drewN HM.out.bel _⟩
      · have e1 : decide (x ≤ y) = false := decide_eq_false he
        have hnx := HYES.out (by omega)
        clear he
        go_wp2_with fail
        go_quiet (fail)
        go_wp2
        go_roundw
        case rel => exact ⟨k + 1, ⟨by go_num, by omega, by omega⟩, hnx, ⟨HM.out.le, below_drewN HM.out.bel _⟩⟩
        case measure => simp [intOf]; omega
    · have d0 : decide (k < n) = false := decide_eq_false hlt
      have d1 : decide ((k : Int) < (n : Int)) = false := decide_eq_false (by omega)
      have hr : R = true := by rw [← HR.out]; exact rise_yes l fun j hj a b => hup.out j (by rw [HN.out] at hj; omega) a b
      go_wp2
      go_ret
      exact ⟨by first | rfl | (rw [hr]; done) | (rw [hr]; rfl), hm.bel⟩
set_option maxRecDepth 100000 in
set_option maxHeartbeats 2000000 in
/-- **ref18.Check** -/
theorem qcheck_any (v : Value) (l : List Int) (w : World) (h : NS w v l) (hlen : l.length ≤ 1000000) :
    Calls Try.prog 25 #[v] w fun e w' => e = .returned (.bool (riseB l)) ∧ Below w.heap.size w w' := by
  obtain ⟨A, c, rfl, hc, -⟩ := id h
  have hU := h.at_ rfl
  obtain ⟨n, hn⟩ : ∃ n, l.length = n := ⟨_, rfl⟩
  obtain ⟨R, hR⟩ : ∃ R, riseB l = R := ⟨_, rfl⟩
  rw [hR]
  rw [hn] at hc hlen ⊢
  have HU := Lib.hid hU
  have HN := Lib.hid hn
  have HR := Lib.hid hR
  clear h hU hn hR
  go_enter Try.func25, Try.ntmps25
  go_wp2
  go_loopw [3] (fun i wr => ∃ k : Nat, (i = .int .i64 (k : Int) ∧ 1 ≤ k ∧ k ≤ n + 1) ∧ Hid (∀ j, j + 1 < k → ∀ (a : j < l.length) (b : j + 1 < l.length), l[j] < l[j + 1]) ∧ Mine w.heap.size w wr) (fun i _ => n + 1 - (intOf i).toNat)
  case atStart => exact ⟨1, ⟨rfl, Nat.le_refl _, by omega⟩, fun j hj => by omega, Mine.refl w⟩
  case round =>
    obtain ⟨k, ⟨rfl, hk1, hk⟩, hup, hm⟩ := hrel
    by_cases hlt : k < n
    · have hkl : k < l.length := by rw [HN.out]; exact hlt
      obtain ⟨g, o, rfl, hg⟩ := HU.out k hkl
      have c1 := hg k hkl
      have c0 := hg (k - 1) (by omega)
      have c1' := (hm.bel.cell (p := ⟨g, o + k, none⟩) (World.block_lt_of_cell? w _ c1)).trans c1
      have c0' := (hm.bel.cell (p := ⟨g, o + (k - 1), none⟩) (World.block_lt_of_cell? w _ c0)).trans c0
      have hno := rise_no l k hk1 hkl
      have hyes : l[k - 1] < l[k] → Hid (∀ j, j + 1 < k + 1 → ∀ (a : j < l.length) (b : j + 1 < l.length), l[j] < l[j + 1]) := fun h j hj a b => by
        by_cases e : j + 1 < k
        · exact hup.out j e a b
        · have e1 : j = k - 1 := by omega
          have e2 : k - 1 + 1 = k := by omega
          subst e1
          simp only [e2]
          exact h
      obtain ⟨x, hx⟩ : ∃ x, l[k] = x := ⟨_, rfl⟩
      obtain ⟨y, hy⟩ : ∃ x, l[k - 1] = x := ⟨_, rfl⟩
      rw [hx] at c1' hno hyes
      rw [hy] at c0' hno hyes
      obtain ⟨p, hp⟩ : ∃ p, k - 1 = p := ⟨_, rfl⟩
      rw [hp] at c0'
      have w1 : IntKind.i64.wrap ((k : Int) - 1) = (p : Int) := by rw [IntWalk.i64_in _ (by omega)]; omega
      have w2 : (k : Int) - 1 = (p : Int) := by omega
      have p0 : (0 : Int) ≤ (p : Int) := by omega
      have p1 : (p : Int) < (n : Int) := by omega
      have p2 : p < n := by omega
      have d0 : decide (k < n) = true := decide_eq_true hlt
      have d1 : decide ((k : Int) < (n : Int)) = true := decide_eq_true (by omega)
      have k0 : (0 : Int) ≤ (k : Int) := by omega
      have k1 : (k : Int) < (n : Int) := by omega
      have HM := Lib.hid hm
      have HNO := Lib.hid hno
      have HYES := Lib.hid hyes
      clear c1 c0 hg hx hy hm hup hno hyes hp
      by_cases he : x ≤ y
      · have e1 : decide (x ≤ y) = true := decide_eq_true he
        have hr : R = false := by rw [← HR.out]; exact HNO.out he
        clear he
        go_wp2_with fail
        go_quiet (fail)
        go_wp2
        go_ret
        exact ⟨by first | rfl | (rw [hr]; done) | (rw [hr]; rfl), below_drewN HM.out.bel _⟩
      · have e1 : decide (x ≤ y) = false := decide_eq_false he
        have hnx := HYES.out (by omega)
        clear he
        go_wp2_with fail
        go_quiet (fail)
        go_wp2
        go_roundw
        case rel => exact ⟨k + 1, ⟨by go_num, by omega, by omega⟩, hnx, ⟨HM.out.le, below_drewN HM.out.bel _⟩⟩
        case measure => simp [intOf]; omega
    · have d0 : decide (k < n) = false := decide_eq_false hlt
      have d1 : decide ((k : Int) < (n : Int)) = false := decide_eq_false (by omega)
      have hr : R = true := by rw [← HR.out]; exact rise_yes l fun j hj a b => hup.out j (by rw [HN.out] at hj; omega) a b
      go_wp2
      go_ret
      exact ⟨by first | rfl | (rw [hr]; done) | (rw [hr]; rfl), hm.bel⟩
def sameB (a b : List Int) : Bool := decide (a = b)
set_option maxRecDepth 100000 in
set_option maxHeartbeats 2000000 in
/-- **Same**, of one list twice -/
theorem same_any (u v : Value) (l : List Int) (w : World) (hu : NS w u l) (hv : NS w v l) (hlen : l.length ≤ 1000000) :
    Calls Try.prog 26 #[u, v] w fun e w' => e = .returned (.bool true) ∧ Below w.heap.size w w' := by
  obtain ⟨A, c, rfl, hc, -⟩ := id hu
  obtain ⟨A2, c2, rfl, hc2, -⟩ := id hv
  have hU := hu.at_ rfl
  have hV := hv.at_ rfl
  obtain ⟨n, hn⟩ : ∃ n, l.length = n := ⟨_, rfl⟩
  rw [hn] at hc hc2 hlen ⊢
  have HU := Lib.hid hU
  have HV := Lib.hid hV
  have HN := Lib.hid hn
  have q0 : ((n : Int) != (n : Int)) = false := by simp
  clear hu hv hU hV hn
  go_enter Try.func26, Try.ntmps26
  go_wp2
  go_loopw [13] (fun i wr => ∃ k : Nat, (i = .int .i64 (k : Int) ∧ k ≤ n) ∧ Mine w.heap.size w wr) (fun i _ => n - (intOf i).toNat)
  case atStart => exact ⟨0, ⟨rfl, Nat.zero_le _⟩, Mine.refl w⟩
  case round =>
    obtain ⟨k, ⟨rfl, hk⟩, hm⟩ := hrel
    by_cases hlt : k < n
    · have hkl : k < l.length := by rw [HN.out]; exact hlt
      obtain ⟨g, o, rfl, hg⟩ := HU.out k hkl
      obtain ⟨g2, o2, rfl, hg2⟩ := HV.out k hkl
      have c1 := hg k hkl
      have c2' := hg2 k hkl
      have c1' := (hm.bel.cell (p := ⟨g, o + k, none⟩) (World.block_lt_of_cell? w _ c1)).trans c1
      have c2'' := (hm.bel.cell (p := ⟨g2, o2 + k, none⟩) (World.block_lt_of_cell? w _ c2')).trans c2'
      obtain ⟨x, hx⟩ : ∃ x, l[k] = x := ⟨_, rfl⟩
      rw [hx] at c1' c2''
      have e1 : (x == x) = true := beq_self_eq_true _
      have e2 : (x != x) = false := by simp
      have d0 : decide (k < n) = true := decide_eq_true hlt
      have d1 : decide ((k : Int) < (n : Int)) = true := decide_eq_true (by omega)
      have k0 : (0 : Int) ≤ (k : Int) := by omega
      have k1 : (k : Int) < (n : Int) := by omega
      have HM := Lib.hid hm
      clear c1 c2' hg hg2 hx hm
      go_wp2_with fail
      go_quiet (fail)
      go_wp2
      go_roundw
      case rel => exact ⟨k + 1, ⟨by go_num, by omega⟩, ⟨HM.out.le, below_drewN HM.out.bel _⟩⟩
      case measure => simp [intOf]; omega
    · have d0 : decide (k < n) = false := decide_eq_false hlt
      have d1 : decide ((k : Int) < (n : Int)) = false := decide_eq_false (by omega)
      go_wp2
      go_ret
      exact ⟨rfl, hm.bel⟩
/-- the reference's Has -/
theorem mem_take_snoc (l : List Int) (k : Nat) (h : k < l.length) (s : Int) : s ∈ l.take (k + 1) ↔ s ∈ l.take k ∨ s = l[k] := by
  rw [List.take_succ_eq_append_getElem h, List.mem_append]; simp
set_option maxRecDepth 100000 in
set_option maxHeartbeats 2000000 in
theorem qhas_any (v : Value) (l : List Int) (s : Int) (w : World) (hv : NS w v l) (hlen : l.length ≤ 1000000) :
    Calls Try.prog 30 #[v, .int .i64 s] w fun e w' => e = .returned (.bool (decide (s ∈ l))) ∧ w' = w := by
  obtain ⟨A, c, rfl, hc, -⟩ := id hv
  have hV := hv.at_ rfl
  obtain ⟨n, hn⟩ : ∃ n, l.length = n := ⟨_, rfl⟩
  obtain ⟨R, hR⟩ : ∃ R, decide (s ∈ l) = R := ⟨_, rfl⟩
  rw [hR]
  rw [hn] at hc hlen ⊢
  have HV := Lib.hid hV
  have HN := Lib.hid hn
  have HR := Lib.hid hR
  clear hv hV hn hR
  go_enter Try.func30, Try.ntmps30
  go_wp2
  go_loop [9] (fun i => ∃ k : Nat, (i = .int .i64 (k : Int) ∧ k ≤ n) ∧ Hid (s ∉ l.take k)) (fun i => n - (intOf i).toNat)
  case atStart => exact ⟨0, ⟨rfl, Nat.zero_le _⟩, by show s ∉ _; simp⟩
  case round =>
    obtain ⟨k, ⟨rfl, hk⟩, hno⟩ := hrel
    by_cases hlt : k < n
    · have hkl : k < l.length := by rw [HN.out]; exact hlt
      obtain ⟨g, o, rfl, hg⟩ := HV.out k hkl
      have c1 := hg k hkl
      have hsn := mem_take_snoc l k hkl s
      have hin : l[k] ∈ l := List.getElem_mem hkl
      obtain ⟨x, hx⟩ : ∃ x, l[k] = x := ⟨_, rfl⟩
      rw [hx] at c1 hsn hin
      have d0 : decide (k < n) = true := decide_eq_true hlt
      have d1 : decide ((k : Int) < (n : Int)) = true := decide_eq_true (by omega)
      have k0 : (0 : Int) ≤ (k : Int) := by omega
      have k1 : (k : Int) < (n : Int) := by omega
      have HSN := Lib.hid hsn
      have HIN := Lib.hid hin
      clear hg hx hsn hin
      by_cases he : x = s
      · have e1 : (x == s) = true := by simp [he]
        have hr : R = true := by rw [← HR.out]; exact decide_eq_true (by rw [← he]; exact HIN.out)
        clear he
        go_wp2
        go_ret
        exact ⟨by first | rfl | (rw [hr]; done) | (rw [hr]; rfl), rfl⟩
      · have e1 : (x == s) = false := by simp [he]
        have hnx : Hid (s ∉ l.take (k + 1)) := fun h => by
          rcases HSN.out.1 h with h | h
          · exact hno.out h
          · exact he h.symm
        clear he
        go_wp2
        go_round
        case rel => exact ⟨k + 1, ⟨by go_num, by omega⟩, hnx⟩
        case measure => simp [intOf]; omega
    · have d0 : decide (k < n) = false := decide_eq_false hlt
      have d1 : decide ((k : Int) < (n : Int)) = false := decide_eq_false (by omega)
      have hr : R = false := by
        rw [← HR.out]
        have := hno.out
        rw [List.take_of_length_le (by rw [HN.out]; omega)] at this
        exact decide_eq_false this
      go_wp2
      go_ret
      exact ⟨by first | rfl | (rw [hr]; done) | (rw [hr]; rfl), rfl⟩
end Go.Proofs.Ytlgodokgebjjaaa
