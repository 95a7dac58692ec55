/- Lists of records held against one another; records written one behind the other. -/
import Derived.RangeFuncNested
import Derived.RangeFuncBound
import Derived.RangeFuncCalls
import Derived.RangeFuncLeaves
import Derived.Shelf.Abstract
import Derived.Shelf.RegionOpen
import Derived.WalkKit
import Derived.OwnWalkIn
import Derived.TacticsInMore
import Derived.LoopNIn
import Derived.LoopIn
import Derived.Outline
import Derived.Lib.Hide
import Derived.Lib.SliceRun
import Derived.IntWalk
import Derived.WalkLawsBesides
import Derived.WalkSpells
import Derived.Laws.BitsAllLaws
import Derived.Lib.ConvBytes
import Derived.Maps.AppendAt
import Derived.Lib.AppendStr
import Derived.Lib.SlBytesConst
import Derived.Laws.AppendOwnNone
import Derived.Laws.OwnMore
import Derived.Laws.BytesArg
import Derived.Deep.RegionHeld3
import Derived.BigQuiet
import Derived.Deep.RegionLaw
import Derived.Deep.QuietTactic
import Derived.Test.YtlgmocmekmppeaaProg
import Derived.Test.YtlgmocmekmppeaaFrL
set_option linter.unusedVariables false
set_option linter.unusedSimpArgs false
namespace Go.Proofs.Ytlgmocmekmppeaa
open Go Go.RowKit Go.Shelf

theorem str_eq {a b : List UInt8} : ((⟨a.toArray⟩ : ByteArray) == ⟨b.toArray⟩) = decide (a = b) := by
  have e : ((⟨a.toArray⟩ : ByteArray) == ⟨b.toArray⟩) = (a.toArray == b.toArray) := rfl
  rw [e]
  by_cases h : a = b
  · subst h; simp
  · simp [h]
theorem str_ne {a b : List UInt8} : ((⟨a.toArray⟩ : ByteArray) != ⟨b.toArray⟩) = decide (a ≠ b) := by
  unfold bne
  rw [str_eq]
  by_cases h : a = b <;> simp [h]

theorem SS.below {W W' : World} {v : Value} {ls : List (List UInt8)} (h : SS W v ls) (hb : Below W.heap.size W W') : SS W' v ls := by
  rcases h with h | ⟨ad, c, rfl, h1, h2⟩
  · exact .inl h
  · refine .inr ⟨ad, c, rfl, h1, fun h0 => ?_⟩
    obtain ⟨g, o, rfl, hc⟩ := h2 h0
    exact ⟨g, o, rfl, fun i hi => by
      obtain ⟨u, hu, hs⟩ := hc i hi
      exact ⟨u, (hb.cell (p := ⟨g, o + i, none⟩) (World.block_lt_of_cell? W _ hu)).trans hu, hs.below hb⟩⟩

set_option maxRecDepth 100000 in
set_option maxHeartbeats 400000 in
theorem same_len (A A' : Option Addr) (n n' c c' : Nat) (w : World) (hn : n ≤ 9223372036854775807) (hn' : n' ≤ 9223372036854775807) (h : ((n : Int) != (n' : Int)) = true) :
    Calls Try.prog 25 #[.slice A n c, .slice A' n' c'] w fun e w' => e = .returned (.bool false) ∧ w = w' := by
  go_enter Try.func25, Try.ntmps25
  go_wp2
  go_ret
  exact ⟨rfl, rfl⟩

set_option maxRecDepth 100000 in
set_option maxHeartbeats 400000 in
theorem same_nil (A A' : Option Addr) (c c' : Nat) (w : World) :
    Calls Try.prog 25 #[.slice A 0 c, .slice A' 0 c'] w fun e w' => e = .returned (.bool true) ∧ w = w' := by
  go_enter Try.func25, Try.ntmps25
  go_wp2
  go_loop [5, 13] (fun _ i => i = .int .i64 0) (fun _ i => 0)
  case atStart => exact rfl
  case round =>
    obtain rfl := hrel
    go_wp2
    go_ret
    exact ⟨rfl, rfl⟩

set_option maxRecDepth 100000 in
set_option maxHeartbeats 1000000 in
theorem same_ne (g o c g' o' c' : Nat) (a b : List (List UInt8)) (w : World) (hn : a.length ≤ 9223372036854775807) (hab : b.length = a.length)
    (ha : ∀ i, i < a.length → ∃ u, w.cell? ⟨g, o + i, none⟩ = some u ∧ SB w u (a[i]?.getD []))
    (hb : ∀ i, i < a.length → ∃ u, w.cell? ⟨g', o' + i, none⟩ = some u ∧ SB w u (b[i]?.getD [])) :
    Calls Try.prog 25 #[.slice (some ⟨g, o, none⟩) a.length c, .slice (some ⟨g', o', none⟩) a.length c'] w fun e w' => e = .returned (.bool (decide (a = b))) ∧ Below w.heap.size w w' := by
  have HA := Lib.hid ha
  have HB := Lib.hid hb
  have Hab := Lib.hid hab
  clear ha hb hab
  have hne : ((a.length : Int) != (a.length : Int)) = false := by simp
  go_enter Try.func25, Try.ntmps25
  go_wp2
  go_loopw [5, 13] (fun _ i wr => ∃ k : Nat, k ≤ a.length ∧ i = .int .i64 k ∧ Hid (∀ j, j < k → a[j]? = b[j]?) ∧ Below w.heap.size w wr) (fun _ i _ => a.length - (intOf i).toNat)
  case atStart => exact ⟨0, Nat.zero_le _, rfl, fun j hj => by omega, Below.refl _ _⟩
  case round =>
    obtain ⟨k, hk, rfl, hall, hB⟩ := hrel
    by_cases hlt : k < a.length
    · obtain ⟨u1, hu1, hs1⟩ := HA.out k hlt
      obtain ⟨u2, hu2, hs2⟩ := HB.out k hlt
      have b1 := World.block_lt_of_cell? w _ hu1
      have b2 := World.block_lt_of_cell? w _ hu2
      have c1 := (hB.cell (p := ⟨g, o + k, none⟩) b1).trans hu1
      have c2 := (hB.cell (p := ⟨g', o' + k, none⟩) b2).trans hu2
      have t1 := fun n => (hs1.below (below_drewN hB n)).str
      have t2 := fun n => (hs2.below (below_drewN hB n)).str
      obtain ⟨A1, n1, e1, -, -, -⟩ := hs1.form
      obtain ⟨A2, n2, e2, -, -, -⟩ := hs2.form
      subst e1 e2
      clear hu1 hu2 hs1 hs2 b1 b2
      obtain ⟨x, hx⟩ : ∃ x, a[k]?.getD [] = x := ⟨_, rfl⟩
      obtain ⟨y, hy⟩ : ∃ y, b[k]?.getD [] = y := ⟨_, rfl⟩
      rw [hx] at t1 c1
      rw [hy] at t2 c2
      have Hx := Lib.hid hx
      have Hy := Lib.hid hy
      clear hx hy
      have i0 : (0 : Int) ≤ (k : Int) := by omega
      have i1 : (k : Int) < (a.length : Int) := by omega
      by_cases hxy : x = y
      · have hq : (x == y) = true := by simp [hxy]
        have Hxy := Lib.hid hxy
        clear hxy
        go_wp2_with fail
        go_quiet (fail)
        clear t1 t2 c1 c2
        go_wp2
        go_roundw
        case rel =>
          refine ⟨k + 1, by omega, by go_num, fun j hj => ?_, below_drewN hB _⟩
          rcases Nat.lt_or_eq_of_le (Nat.le_of_lt_succ hj) with h | rfl
          · exact hall.out j h
          · have h1 := Hx.out
            have h2 := Hy.out
            rw [List.getElem?_eq_getElem hlt] at h1 ⊢
            rw [List.getElem?_eq_getElem (by rw [Hab.out]; exact hlt)] at h2 ⊢
            simp at h1 h2
            rw [h1, h2, Hxy.out]
        case measure => simp [intOf]; omega
      · have hq : (x == y) = false := by simp [hxy]
        have Hxy := Lib.hid hxy
        clear hxy
        go_wp2_with fail
        go_quiet (fail)
        clear t1 t2 c1 c2
        go_wp2
        go_ret
        refine ⟨?_, below_drewN hB _⟩
        have : decide (a = b) = false := by
          simp only [decide_eq_false_iff_not]
          rintro rfl
          exact Hxy.out (Hx.out.symm.trans Hy.out)
        rw [this]
        rfl
    · go_wp2
      go_ret
      refine ⟨?_, hB⟩
      have : decide (a = b) = true := by
        simp only [decide_eq_true_eq]
        apply List.ext_getElem? 
        intro i
        by_cases h : i < k
        · exact hall.out i h
        · rw [List.getElem?_eq_none (by omega), List.getElem?_eq_none (by rw [Hab.out]; omega)]
      rw [this]
      rfl

/-- **Same** -/
theorem same_any (v v' : Value) (a b : List (List UInt8)) (w : World) (ha : SS w v a) (hb : SS w v' b) :
    Calls Try.prog 25 #[v, v'] w fun e w' => e = .returned (.bool (decide (a = b))) ∧ Below w.heap.size w w' := by
  obtain ⟨A, c, rfl, h1, h2⟩ := ha.form
  obtain ⟨A', c', rfl, h1', h2'⟩ := hb.form
  by_cases hl : b.length = a.length
  · rw [hl]
    rcases Nat.eq_zero_or_pos a.length with h0 | h0
    · have ea : a = [] := List.length_eq_zero_iff.1 h0
      have eb : b = [] := List.length_eq_zero_iff.1 (by omega)
      subst ea eb
      exact (same_nil A A' c c' w).mono fun e w' ⟨he, hw⟩ => ⟨he, by subst hw; exact Below.refl _ _⟩
    · obtain ⟨g, o, rfl, hc⟩ := h2 h0
      obtain ⟨g', o', rfl, hc'⟩ := h2' (by omega)
      exact same_ne g o c g' o' c' a b w (by omega) hl hc (fun i hi => hc' i (by omega))
  · have : decide (a = b) = false := by
      simp only [decide_eq_false_iff_not]
      rintro rfl
      exact hl rfl
    rw [this]
    exact (same_len A A' _ _ c c' w (by omega) (by omega) (by rw [bne_iff_ne]; omega)).mono fun e w' ⟨he, hw⟩ => ⟨he, by subst hw; exact Below.refl _ _⟩

/-- records, one behind the other -/
def recsB (ls : List (List UInt8)) : List UInt8 := (ls.map recB).flatten
theorem recB_len (l : List UInt8) : (recB l).length = 8 + l.length := by simp [recB, le4]; omega
theorem recsB_take (ls : List (List UInt8)) (k : Nat) (h : k < ls.length) : recsB (ls.take (k + 1)) = recsB (ls.take k) ++ recB (ls[k]?.getD []) := by
  rw [List.take_succ_eq_append_getElem h, List.getElem?_eq_getElem h]
  simp only [recsB, List.map_append, List.flatten_append, List.map_cons, List.map_nil, List.flatten_cons, List.flatten_nil, List.append_nil, Option.getD_some]
theorem recsB_len (ls : List (List UInt8)) (h : ∀ l ∈ ls, l.length ≤ 2000) : (recsB ls).length ≤ ls.length * 2008 := by
  induction ls with
  | nil => simp [recsB]
  | cons l ls ih =>
    have h1 := h l (by simp)
    have h2 := ih (fun x hx => h x (by simp [hx]))
    have : recsB (l :: ls) = recB l ++ recsB ls := by simp [recsB]
    rw [this, List.length_append, recB_len, List.length_cons]
    omega

set_option maxRecDepth 100000 in
set_option maxHeartbeats 1000000 in
theorem write_ne (g o c : Nat) (ls : List (List UInt8)) (w : World) (h50 : ls.length ≤ 50) (hl : Hid (∀ l ∈ ls, l.length ≤ 2000))
    (ha : ∀ i, i < ls.length → ∃ u, w.cell? ⟨g, o + i, none⟩ = some u ∧ SB w u (ls[i]?.getD [])) :
    Calls Try.prog 26 #[.slice (some ⟨g, o, none⟩) ls.length c] w fun e w' => ∃ v', e = .returned (.tuple #[v', .int .i64 0]) ∧ OB w' w.heap.size v' (recsB ls) ∧ Below w.heap.size w w' := by
  have HA := Lib.hid ha
  clear ha
  go_enter Try.func26, Try.ntmps26
  go_wp2
  go_loopw [4, 11] (fun out i wr => ∃ k : Nat, k ≤ ls.length ∧ i = .int .i64 k ∧ OB wr w.heap.size out (recsB (ls.take k)) ∧ Below w.heap.size w wr) (fun _ i _ => ls.length - (intOf i).toNat)
  case atStart => exact ⟨0, Nat.zero_le _, rfl, World.ownsRow_nil _ _ _ _, Below.refl _ _⟩
  case round =>
    obtain ⟨k, hk, rfl, hout, hB⟩ := hrel
    by_cases hlt : k < ls.length
    · obtain ⟨u1, hu1, hs1⟩ := HA.out k hlt
      have b1 := World.block_lt_of_cell? w _ hu1
      have c1 := (hB.cell (p := ⟨g, o + k, none⟩) b1).trans hu1
      have hkl : (ls[k]?.getD []).length ≤ 2000 := by
        rw [List.getElem?_eq_getElem hlt]
        exact hl.out _ (List.getElem_mem hlt)
      have hr : (recsB (ls.take k)).length ≤ 50 * 2008 := by
        have h1 := recsB_len (ls.take k) (fun x hx => hl.out x (List.mem_of_mem_take hx))
        have h2 : (ls.take k).length ≤ 50 := by simp; omega
        exact Nat.le_trans h1 (Nat.mul_le_mul_right _ h2)
      have e1 := recsB_take ls k hlt
      obtain ⟨x, hx⟩ : ∃ x, ls[k]?.getD [] = x := ⟨_, rfl⟩
      rw [hx] at hs1 hkl e1
      have hs1' := hs1.below hB
      obtain ⟨A1, n1, e2, -, -, -⟩ := hs1.form
      subst e2
      have E1 := Lib.hid e1
      have Hx := Lib.hid hx
      clear hx e1 hs1 hu1 b1
      have hrb := recB_len x
      go_wp2_with fail
      refine (put_any _ x _ hkl hs1').mono ?_
      rintro e w1 ⟨v1, rfl, hown, hB1⟩
      have hB2 := hB.trans (hB1.mono hB.size)
      have hout1 := hout.below hB1
      clear hs1'
      obtain ⟨A2, n2, e3, -, -, -⟩ := hown.reads.form
      subst e3
      have hr' : (recsB (ls.take k)).length + (recB x).length ≤ 140737488355328 := by omega
      have Hr := Lib.hid hrb
      clear hrb
      go_wp2_with (at_builtin; refine wpB_append rfl _ _ rfl w.heap.size _ _ (recsB (ls.take k)) (recB x) rfl hout1 rfl hown.reads hr' hB2.size ?_)
      intro v3 w3 hown3 _ hB3
      go_wp2
      go_roundw
      case rel => exact ⟨k + 1, by omega, by go_num, by rw [E1.out]; exact hown3, hB2.trans hB3⟩
      case measure => simp [intOf]; omega
    · obtain rfl : k = ls.length := by omega
      go_wp2
      go_ret2
      exact ⟨_, rfl, by simpa using hout, hB⟩

set_option maxRecDepth 100000 in
set_option maxHeartbeats 400000 in
theorem write_nil (A : Option Addr) (c : Nat) (w : World) :
    Calls Try.prog 26 #[.slice A 0 c] w fun e w' => e = .returned (.tuple #[.slice none 0 0, .int .i64 0]) ∧ w = w' := by
  go_enter Try.func26, Try.ntmps26
  go_wp2
  go_loop [4, 11] (fun out i => i = .int .i64 0 ∧ out = .slice none 0 0) (fun _ i => 0)
  case atStart => exact ⟨rfl, rfl⟩
  case round =>
    obtain ⟨rfl, rfl⟩ := hrel
    go_wp2
    go_ret2
    exact ⟨rfl, rfl⟩

/-- **Write** -/
theorem write_any (v : Value) (ls : List (List UInt8)) (w : World) (hf : fewB ls = true) (h : SS w v ls) :
    Calls Try.prog 26 #[v] w fun e w' => ∃ v', e = .returned (.tuple #[v', .int .i64 0]) ∧ OB w' w.heap.size v' (recsB ls) ∧ Below w.heap.size w w' := by
  obtain ⟨A, c, rfl, h1, h2⟩ := h.form
  simp only [fewB, Bool.and_eq_true, decide_eq_true_eq, List.all_eq_true] at hf
  cases ls with
  | nil => exact (write_nil A c w).mono fun e w' ⟨he, hw⟩ => ⟨_, he, by subst hw; exact World.ownsRow_nil _ _ _ _, by subst hw; exact Below.refl _ _⟩
  | cons x ls =>
    obtain ⟨g, o, rfl, hc⟩ := h2 (by simp)
    exact write_ne g o c _ w hf.1 hf.2 hc
end Go.Proofs.Ytlgmocmekmppeaa
