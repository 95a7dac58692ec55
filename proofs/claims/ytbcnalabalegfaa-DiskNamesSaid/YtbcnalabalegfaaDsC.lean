/- files put and struck; New, Down, asked, change. -/
import Derived.RangeFuncNested
import Derived.RangeFuncBound
import Derived.RangeFuncCalls
import Derived.RangeFuncLeaves
import Derived.Shelf.Abstract
import Derived.Shelf.RegionOpen
import Derived.WalkKit
import Derived.OwnWalkIn
import Derived.TacticsInMore
import Derived.LoopNIn
import Derived.LoopIn
import Derived.Outline
import Derived.Lib.Hide
import Derived.Lib.SliceRun
import Derived.IntWalk
import Derived.WalkLawsBesides
import Derived.WalkSpells
import Derived.Laws.BitsAllLaws
import Derived.Lib.ConvBytes
import Derived.Maps.AppendAt
import Derived.Lib.AppendStr
import Derived.Lib.SlBytesConst
import Derived.Laws.AppendOwnNone
import Derived.Laws.OwnMore
import Derived.Laws.BytesArg
import Derived.Deep.RegionHeld3
import Derived.BigQuiet
import Derived.Deep.RegionLaw
import Derived.Deep.QuietTactic
import Derived.Lib.OthersKept
import Derived.Test.YtbcnalabalegfaaProg
import Derived.Deep.DeepFit
import Derived.Test.YtbcnalabalegfaaDsB
set_option linter.unusedVariables false
set_option linter.unusedSimpArgs false
namespace Go.Proofs.Ytbcnalabalegfaa
open Go Go.RowKit Go.Shelf
open Go.Proofs (encStr)
variable {W W' : World} {B m n : Nat} {g : List UInt8 → Option Nat} {sl : List UInt8 → Value} {d : Dsk} {S : Nat → Prop}

theorem DKat.put (h : DKat W B m n g sl d S) (x : List UInt8) (F n' : Nat) {S' : Nat → Prop} (hS : ∀ b, S b → S' b) (hlt : ∀ b, S' b → b < W'.heap.size) (hb : ∀ b, S b → b ≠ m → W'.heap[b]? = W.heap[b]?)
    (hm : PM 9 litS W' m n' (updF g x (some F))) (v : Value) (b : List UInt8) (s : Nat) (hsb : s ≤ b.length) (hlen : b.length ≤ 1000000000) (hF : FC W' F v (s : Int)) (hO : OB W' 0 v b) (hFS : S' F) (hr : ∀ r, v.ownBlock = some r → S' r)
    (hFne : ∀ y, y ≠ x → g y ≠ some F) (hrne : ∀ y r, y ≠ x → (g y).isSome = true → (sl y).ownBlock = some r → v.ownBlock ≠ some r) :
    DKat W' B m n' (updF g x (some F)) (fun y => if y = x then v else sl y) { d with f := updF d.f x (some (b, s)) } S' := by
  refine ⟨(hb B h.inB h.mB.symm).trans h.cells, hm, hS B h.inB, hS m h.inM, ?_, ?_, ?_, ?_, hlt⟩
  · intro y
    by_cases e : y = x
    · subst e; show _ = (updF d.f y _ y).isSome; rw [updF_same, updF_same]; rfl
    · show _ = (updF d.f x _ y).isSome; rw [updF_other _ _ e, updF_other _ _ e]; exact h.dom y
  · intro y G hy
    by_cases e : y = x
    · subst e
      rw [updF_same] at hy; cases hy
      refine ⟨b, s, updF_same _ _ _, hsb, hlen, ?_, ?_, hFS, fun r hr' => ?_⟩
      · simpa using hF
      · simpa using hO
      · rw [if_pos rfl] at hr'; exact hr r hr'
    · rw [updF_other _ _ e] at hy
      obtain ⟨b0, s0, h1, h2, h2', h3, h4, h5, h6⟩ := h.file y G hy
      have hgy : (g y).isSome = true := by rw [hy]; rfl
      refine ⟨b0, s0, by show updF d.f x _ y = _; rw [updF_other _ _ e]; exact h1, h2, h2', ?_, ?_, hS G h5, fun r hr' => ?_⟩
      · rw [if_neg e]
        exact (hb G h5 (h.neB hy).2.1).trans h3
      · rw [if_neg e]
        exact ownsRow_blk h4 fun r hr' => hb r (h6 r hr') (h.rowNe hgy hr').2
      · rw [if_neg e] at hr'
        exact hS r (h6 r hr')
  · intro y z G hy hz
    by_cases ey : y = x
    · by_cases ez : z = x
      · rw [ey, ez]
      · rw [ey, updF_same] at hy; cases hy
        rw [updF_other _ _ ez] at hz
        exact absurd hz (hFne z ez)
    · rw [updF_other _ _ ey] at hy
      by_cases ez : z = x
      · rw [ez, updF_same] at hz; cases hz
        exact absurd hy (hFne y ey)
      · rw [updF_other _ _ ez] at hz
        exact h.inj y z G hy hz
  · intro y z r hy hz hry hrz
    by_cases ey : y = x
    · by_cases ez : z = x
      · rw [ey, ez]
      · rw [if_pos ey] at hry
        rw [if_neg ez] at hrz
        rw [updF_other _ _ ez] at hz
        exact absurd hry (hrne z r ez hz hrz)
    · rw [if_neg ey] at hry
      rw [updF_other _ _ ey] at hy
      by_cases ez : z = x
      · rw [if_pos ez] at hrz
        exact absurd hrz (hrne y r ey hy hry)
      · rw [if_neg ez] at hrz
        rw [updF_other _ _ ez] at hz
        exact h.rows y z r hy hz hry hrz
theorem DKat.del (h : DKat W B m n g sl d S) (x : List UInt8) (hb : ∀ b, S b → b ≠ m → W'.heap[b]? = W.heap[b]?) (hs : W.heap.size ≤ W'.heap.size) (hm : PM 9 litS W' m n (updF g x none)) :
    DKat W' B m n (updF g x none) sl { d with f := updF d.f x none } S := by
  have hsome : ∀ y G, updF g x none y = some G → y ≠ x ∧ g y = some G := fun y G hy => by
    by_cases e : y = x
    · rw [e, updF_same] at hy; cases hy
    · rw [updF_other _ _ e] at hy; exact ⟨e, hy⟩
  refine ⟨(hb B h.inB h.mB.symm).trans h.cells, hm, h.inB, h.inM, ?_, ?_, ?_, ?_, fun b hb' => Nat.lt_of_lt_of_le (h.lt b hb') hs⟩
  · intro y
    by_cases e : y = x
    · subst e; show _ = (updF d.f y _ y).isSome; rw [updF_same, updF_same]; rfl
    · show _ = (updF d.f x _ y).isSome; rw [updF_other _ _ e, updF_other _ _ e]; exact h.dom y
  · intro y G hy
    obtain ⟨e, hy⟩ := hsome y G hy
    obtain ⟨b0, s0, h1, h2, h2', h3, h4, h5, h6⟩ := h.file y G hy
    exact ⟨b0, s0, by show updF d.f x _ y = _; rw [updF_other _ _ e]; exact h1, h2, h2', (hb G h5 (h.neB hy).2.1).trans h3, ownsRow_blk h4 fun r hr' => hb r (h6 r hr') (h.rowNe (by rw [hy]; rfl) hr').2, h5, h6⟩
  · intro y z G hy hz
    exact h.inj y z G (hsome y G hy).2 (hsome z G hz).2
  · intro y z r hy hz
    obtain ⟨G, hG⟩ := Option.isSome_iff_exists.1 hy
    obtain ⟨G', hG'⟩ := Option.isSome_iff_exists.1 hz
    exact h.rows y z r (by rw [(hsome y G hG).2]; rfl) (by rw [(hsome z G' hG').2]; rfl)
/-- what g tells of a name -/
theorem DKat.at_ (h : DKat W B m n g sl d S) (x : List UInt8) : (d.f x = none ∧ g x = none) ∨ ∃ F b s, g x = some F ∧ d.f x = some (b, s) ∧ s ≤ b.length ∧ b.length ≤ 1000000000 ∧ FC W F (sl x) (s : Int) ∧ OB W 0 (sl x) b ∧ S F ∧ (∀ r, (sl x).ownBlock = some r → S r) := by
  have hd := h.dom x
  cases hg : g x with
  | none => left; rw [hg] at hd; exact ⟨by simpa using hd.symm, rfl⟩
  | some F => right; obtain ⟨b, s, h1, h2, h2', h3, h4, h5, h6⟩ := h.file x F hg; exact ⟨F, b, s, rfl, h1, h2, h2', h3, h4, h5, h6⟩

set_option maxRecDepth 100000 in
set_option maxHeartbeats 2000000 in
/-- **Down** -/
theorem ddown_any (w : World) (B m : Nat) (room used fuse : Int) (down : Bool) (h : DC w B m room used fuse down) :
    Calls Try.prog 11 #[.pointer (some ⟨B, 0, none⟩)] w fun e w' => e = .returned (.bool down) ∧ w' = w := by
  obtain ⟨c0, c1, c2, c3, c4⟩ := h.cell
  have qT := fun w => run_eql_map_nil (P := Try.prog) w 35 9 39 (some m) Try.underlying35
  clear h
  go_enter Try.func11, Try.ntmps11
  go_wp2
  go_ret
  exact ⟨rfl, rfl⟩
/-- a new disk -/
def newD (room : Int) : Dsk := ⟨fun _ => none, room, 0, 0, false⟩
theorem newDK (w : World) (room : Int) : DKat ((w.alloc (.map #[] 0)).alloc (.cells #[.map (some w.heap.size), .int .i64 room, .int .i64 0, .int .i64 0, .bool false] 37)) (w.heap.size + 1) w.heap.size 0 (fun _ => none) (fun _ => .slice none 0 0) (newD room) (fun b => b = w.heap.size ∨ b = w.heap.size + 1) := by
  have hs : ((w.alloc (.map #[] 0)).alloc (.cells #[.map (some w.heap.size), .int .i64 room, .int .i64 0, .int .i64 0, .bool false] 37)).heap.size = w.heap.size + 2 := by rw [alloc_size, alloc_size]
  refine ⟨?_, ?_, .inr rfl, .inl rfl, fun x => rfl, fun x F h => (by cases h), fun x y F h => (by cases h), fun x y r h => (by cases h), fun b h => by rw [hs]; omega⟩
  · unfold DC
    have := heap_alloc_new (w.alloc (.map #[] 0)) (.cells #[.map (some w.heap.size), .int .i64 room, .int .i64 0, .int .i64 0, .bool false] 37)
    rw [alloc_size] at this
    exact this
  · refine (PM.new w).block ?_
    rw [heap_alloc_old _ _ _ (by rw [alloc_size]; omega)]
set_option maxRecDepth 100000 in
set_option maxHeartbeats 2000000 in
/-- **New** -/
theorem dnew_any (room : Int) (h0 : 0 ≤ room) (w : World) : Calls Try.prog 7 #[.int .i64 room] w fun e w' => ∃ S, e = .returned (.pointer (some ⟨w.heap.size + 1, 0, none⟩)) ∧ DK w' (w.heap.size + 1) 0 (newD room) S ∧ Below w.heap.size w w' ∧ (∀ b, S b → w.heap.size ≤ b) := by
  have hmm := @run_makeMap Try.prog
  have hx : max room 0 = room := by omega
  have HD := Lib.hid (newDK w room)
  have HB := Lib.hid (((Below.refl w.heap.size w).alloc (Nat.le_refl _) (.map #[] 0)).alloc (by rw [alloc_size]; omega) (.cells #[.map (some w.heap.size), .int .i64 room, .int .i64 0, .int .i64 0, .bool false] 37))
  go_enter Try.func7, Try.ntmps7
  go_wp2
  refine bodyPost_ret (results_tmp rfl _ _ _) (by rfl) ?_
  exact ⟨_, rfl, ⟨_, _, _, HD.out⟩, HB.out, fun b h => by omega⟩
/-- a name that may be -/
def okNm (x : List UInt8) : Prop := dnameB ⟨x.toArray⟩ = true
theorem okNm.len {x : List UInt8} (h : okNm x) : x.length ≤ 64 := by
  unfold okNm dnameB at h
  simp only [Bool.and_eq_true, decide_eq_true_eq] at h
  have := h.2
  have e : (⟨x.toArray⟩ : ByteArray).size = x.length := by show x.toArray.size = _; simp
  omega
theorem dname_ok (x : List UInt8) (h : okNm x) (w : World) : Calls Try.prog 5 #[encStr x] w fun e w' => e = .returned (.bool true) ∧ Below w.heap.size w w' := by
  have hl := h.len
  have e : (⟨x.toArray⟩ : ByteArray).size = x.length := by show x.toArray.size = _; simp
  have := dname_any ⟨x.toArray⟩ (by omega) w
  rw [show dnameB ⟨x.toArray⟩ = true from h] at this
  exact this
set_option maxRecDepth 100000 in
set_option maxHeartbeats 2000000 in
/-- **asked**, of names that may be -/
theorem dasked_ok (w : World) (B m : Nat) (room used fuse : Int) (v : Value) (ns : List (List UInt8)) (h : DC w B m room used fuse false) (hv : TS w v ns) (hok : ∀ x ∈ ns, okNm x) (hl : ns.length ≤ 1000) :
    Calls Try.prog 14 #[.pointer (some ⟨B, 0, none⟩), v] w fun e w' => e = .returned (.int .i64 0) ∧ Below w.heap.size w w' := by
  have H := Lib.hid (ddown_any w B m room used fuse false h)
  have HV := Lib.hid hv
  have HOK := Lib.hid hok
  obtain ⟨A, c, rfl, ⟨hc1, hc2⟩, -⟩ := id hv
  obtain ⟨k1, hk1⟩ : ∃ q, ns.length = q := ⟨_, rfl⟩
  rw [hk1] at HV hl hc1 ⊢
  have HK := Lib.hid hk1
  clear h hv hok hk1
  go_enter Try.func14, Try.ntmps14
  go_wp2_with fail
  refine H.out.mono ?_
  rintro e w1 ⟨rfl, hw1⟩
  rw [hw1]
  clear hw1
  go_wp2
  go_loopw [11] (fun i wr => ∃ k : Nat, (i = .int .i64 (k : Int) ∧ k ≤ k1) ∧ Mine w.heap.size w wr) (fun i _ => k1 - (intOf i).toNat)
  case atStart => exact ⟨0, ⟨rfl, by omega⟩, Mine.refl w⟩
  case round =>
    obtain ⟨k, ⟨rfl, hk⟩, hm⟩ := hrel
    by_cases hlt : k < k1
    · have hkl : k < ns.length := by rw [HK.out]; exact hlt
      obtain ⟨A', c', e', -, hcell⟩ := HV.out.below hm.bel
      have eA : A = A' := by injection e'
      rw [← eA] at hcell
      obtain ⟨gg, o, rfl, hcw⟩ := hcell k hkl
      clear eA e'
      have hnm := dname_ok ns[k] (HOK.out _ (List.getElem_mem hkl))
      have HN := Lib.hid hnm
      have HM := Lib.hid hm
      have d0 : decide (k < k1) = true := decide_eq_true hlt
      have d1 : decide ((k : Int) < (k1 : Int)) = true := decide_eq_true (by omega)
      have k0 : (0 : Int) ≤ (k : Int) := by omega
      have k0' : (k : Int) < (k1 : Int) := by omega
      clear hm hcell hnm
      go_wp2_with fail
      refine (HN.out _).mono ?_
      rintro e w2 ⟨rfl, hb2⟩
      have HM2 : Hid (Mine w.heap.size w w2) := ⟨Nat.le_trans HM.out.le hb2.size, HM.out.bel.trans (hb2.mono HM.out.le)⟩
      clear hb2
      go_wp2
      go_roundw
      case rel => exact ⟨k + 1, ⟨by go_num, by omega⟩, HM2.out⟩
      case measure => simp [intOf]; omega
    · have HM := Lib.hid hm
      have d0 : decide (k < k1) = false := decide_eq_false hlt
      have d1 : decide ((k : Int) < (k1 : Int)) = false := decide_eq_false (by omega)
      clear hm
      go_wp2
      go_ret
      exact ⟨rfl, HM.out.bel⟩
set_option maxRecDepth 100000 in
set_option maxHeartbeats 2000000 in
/-- **asked**, of a disk that is down -/
theorem dasked_dead (w : World) (B m : Nat) (room used fuse : Int) (v : Value) (ns : List (List UInt8)) (h : DC w B m room used fuse true) (hv : TS w v ns) :
    Calls Try.prog 14 #[.pointer (some ⟨B, 0, none⟩), v] w fun e w' => e = .returned (.int .i64 10) ∧ w' = w := by
  have H := Lib.hid (ddown_any w B m room used fuse true h)
  obtain ⟨A, c, rfl, -, -⟩ := id hv
  clear h hv
  go_enter Try.func14, Try.ntmps14
  go_wp2_with fail
  refine H.out.mono ?_
  rintro e w1 ⟨rfl, hw1⟩
  rw [hw1]
  clear hw1
  go_wp2
  go_ret
  exact ⟨rfl, rfl⟩
end Go.Proofs.Ytbcnalabalegfaa
