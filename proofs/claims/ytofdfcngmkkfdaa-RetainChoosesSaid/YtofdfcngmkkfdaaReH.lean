/- The reference's Check. -/
import Derived.RangeFuncNested
import Derived.RangeFuncBound
import Derived.RangeFuncCalls
import Derived.RangeFuncLeaves
import Derived.Shelf.Abstract
import Derived.Shelf.RegionOpen
import Derived.WalkKit
import Derived.OwnWalkIn
import Derived.TacticsInMore
import Derived.LoopNIn
import Derived.LoopIn
import Derived.Outline
import Derived.Lib.Hide
import Derived.Lib.SliceRun
import Derived.IntWalk
import Derived.WalkLawsBesides
import Derived.WalkSpells
import Derived.Laws.BitsAllLaws
import Derived.Lib.ConvBytes
import Derived.Maps.AppendAt
import Derived.Lib.AppendStr
import Derived.Lib.SlBytesConst
import Derived.Laws.AppendOwnNone
import Derived.Laws.OwnMore
import Derived.Laws.BytesArg
import Derived.Deep.RegionHeld3
import Derived.BigQuiet
import Derived.Deep.RegionLaw
import Derived.Deep.QuietTactic
import Derived.Lib.OthersKept
import Derived.Test.YtofdfcngmkkfdaaProg
import Derived.Deep.DeepFit
import Derived.Deep.MidRow
import Derived.Deep.RegionHeld3
import Derived.Test.YtofdfcngmkkfdaaReG
set_option linter.unusedVariables false
set_option linter.unusedSimpArgs false
namespace Go.Proofs.Ytofdfcngmkkfdaa
open Go Go.RowKit Go.Shelf

theorem below_setCells {n : Nat} {w : World} (b : Nat) : ∀ (vs : List Value) (o : Nat) (W : World), Below n w W → n ≤ b → Below n w (W.setCells b o vs)
  | [], _, _, h, _ => h
  | v :: r, o, W, h, hb => by
    rw [World.setCells]
    exact below_setCells b r (o + 1) _ (h.setCell (p := ⟨b, o, none⟩) hb v) hb
theorem Mine.setCells {A : Nat} {a w : World} (h : Mine A a w) (b o : Nat) (vs : List Value) (hb : A ≤ b) : Mine A a (w.setCells b o vs) :=
  ⟨Nat.le_trans h.le (below_setCells b vs o w (Below.refl A w) hb).size, below_setCells b vs o w h.bel hb⟩
theorem Row.setCells {b g : Nat} {t : TypeId} {l : List Value} : ∀ {w : World}, Row w b t l → ∀ (vs : List Value) (o : Nat), b ≠ g → Row (w.setCells g o vs) b t l
  | _, h, [], _, _ => h
  | w, h, v :: r, o, hne => by
    rw [World.setCells]
    exact Row.setCells (h.other ⟨g, o, none⟩ v hne) r (o + 1) hne
theorem Row.there {w : World} {b : Nat} {t : TypeId} {l : List Value} (h : Row w b t l) (n : Nat) (hn : n = l.length) : w.there b 0 n := fun j hj => by
  rw [Nat.zero_add, h.cell j, h.frozen j, List.getElem?_eq_getElem (by omega)]
  exact ⟨rfl, rfl⟩
theorem there_below {w w' : World} {b o n : Nat} (h : w.there b o n) (hb : Below w.heap.size w w') : w'.there b o n := fun j hj => by
  obtain ⟨h1, h2⟩ := h j hj
  obtain ⟨u, hu⟩ := Option.isSome_iff_exists.1 h1
  have hlt := World.block_lt_of_cell? w _ hu
  refine ⟨by rw [hb.cell hlt]; exact h1, ?_⟩
  have hk := hb.block b hlt
  unfold World.frozen? at h2 ⊢
  rw [hk]; exact h2
theorem class_there (w : World) : (w.alloc (.cells #[.string ByteArray.empty, .int .i64 0] 56)).there w.heap.size 0 2 := (Row.new w #[.string ByteArray.empty, .int .i64 0] 56).there 2 rfl
theorem class_info (fl : List Value) (h : fl.length = 2) : (Try.prog.info? 56).map (·.size) = some fl.length := by rw [h]; kernel_rfl
theorem wpAnyH_stronger {P : Program} {md : Region.Mode} {ops : Array Oper} {Q : Exit → Act → World → Prop} {S S' : World → Prop} (hSS : ∀ w, S' w → S w) :
    ∀ (fuel : Nat) (listed : Array Bool) (a : Act) (w : World), wpAnyH P md ops Q S' fuel listed a w → wpAnyH P md ops Q S fuel listed a w
  | 0, _, _, _, h => h
  | fuel + 1, _, _, _, h => ⟨h.1, fun i hi => wpOp_mono (fun a' w' h' => ⟨hSS _ h'.1, wpAnyH_stronger hSS fuel _ a' w' h'.2⟩) (h.2 i hi)⟩
theorem wpAnyH_with {P : Program} {md : Region.Mode} {ops : Array Oper} {Q : Exit → Act → World → Prop} {S : World → Prop} {E : World → Prop} {fuel : Nat} {listed : Array Bool} {a : Act} {w : World} (hE : E w) (hS : S w)
    (h : S w ∧ E w → wpAnyH P md ops Q (fun w => S w ∧ E w) fuel listed a w) : wpAnyH P md ops Q S fuel listed a w :=
  wpAnyH_stronger (fun _ h => h.1) _ _ _ _ (h ⟨hS, hE⟩)
theorem alloc_size (w : World) (o : Obj) : (w.alloc o).heap.size = w.heap.size + 1 := by show (w.heap.push _).size = _; simp
theorem classSlice (A : Option Addr) (n c k : Nat) (hk : k ≤ c) (w : World) :
    (Instr.slice 28 (.slice A n c) none (some (.int .i64 (k : Int))) none).run Try.prog w = .ok (.slice A k c) w := by
  have elem : Try.prog.elem 28 = 56 := by kernel_rfl
  have size : ∀ w, (sizeOf 56).run Try.prog w = .ok 2 w := fun w => by kernel_rfl
  rw [run_slice_h w 28 A n c (by rw [elem]; exact Try.underlying28) .i64 k (by omega) (by omega), elem, size]
  cases A with
  | none => simp [Result.andThen, sliced]
  | some a =>
    have : a.add 0 = a := by unfold Addr.add; simp
    simp [Result.andThen, sliced, this]
set_option maxRecDepth 100000 in
set_option maxHeartbeats 16000000 in
/-- **the reference's Check** -/
theorem rcheck_in (v : Value) (cs : List Cl) (u : Value) (rs : List Ru) (w : World) (hv : PV w v (clV cs)) (hcs : ∀ c ∈ cs, in64 c.2 ∧ c.1.size ≤ maxLen) (hu : PV w u (ruV rs)) (hrs : ∀ c ∈ rs, c.1.size ≤ maxLen ∧ c.2.size ≤ maxLen)
    (h1 : 1 ≤ cs.length) (h2 : cs.length ≤ 100) (h3 : rs.length ≤ 100) :
    Calls Try.prog 29 #[v, u] w fun e w' => e = .returned (.int .i64 (checkE cs rs)) ∧ Below w.heap.size w w' := by
  have hv0 := hv
  have hu0 := hu
  obtain ⟨A, c, rfl, hc1, -⟩ := hv
  obtain ⟨A', c', rfl, hc1', -⟩ := hu
  obtain ⟨E, hE⟩ : ∃ E, checkE cs rs = E := ⟨_, rfl⟩
  have HE := Lib.hid hE
  rw [hE]
  obtain ⟨n, hn⟩ : ∃ n, cs.length = n := ⟨_, rfl⟩
  obtain ⟨m, hm⟩ : ∃ m, rs.length = m := ⟨_, rfl⟩
  have HV := Lib.hid hv0
  have HU := Lib.hid hu0
  have HCS := Lib.hid hcs
  have HRS := Lib.hid hrs
  rw [clV_len, hn] at HV hc1
  rw [ruV_len, hm] at HU hc1'
  rw [clV_len, ruV_len, hn, hm]
  rw [hn] at h1 h2
  rw [hm] at h3
  have HN := Lib.hid hn
  have HM := Lib.hid hm
  obtain ⟨B, hB⟩ : ∃ B, w.heap.size = B := ⟨_, rfl⟩
  have M0 : Hid (Mine B w w) := by rw [← hB]; exact Mine.refl w
  have d1 : decide ((n : Int) < 1) = false := decide_eq_false (by omega)
  have d1' : decide (n < 1) = false := decide_eq_false (by omega)
  have d2 : decide ((100 : Int) < (n : Int)) = false := decide_eq_false (by omega)
  have d2' : decide (100 < n) = false := decide_eq_false (by omega)
  have d3 : decide ((100 : Int) < (m : Int)) = false := decide_eq_false (by omega)
  have d3' : decide (100 < m) = false := decide_eq_false (by omega)
  clear hv0 hu0 hcs hrs hE hn hm
  go_enter Try.func29, Try.ntmps29
  go_wp2
  clear d1 d1' d2 d2' d3 d3'
  go_loopw [28, 5, 6, 7, 8] (fun i x1 x2 x3 x4 wr => ∃ k : Nat, (i = .int .i64 (k : Int) ∧ k ≤ n) ∧ Hid (clsN cs k = true) ∧ Mine B w wr) (fun i _ _ _ _ _ => n - (intOf i).toNat)
  case atStart => exact ⟨0, ⟨rfl, Nat.zero_le _⟩, rfl, M0.out⟩
  case round =>
    clear M0
    obtain ⟨k, ⟨rfl, hk⟩, hno, hmi⟩ := hrel
    by_cases hlt : k < n
    · have hkc : k < cs.length := by rw [HN.out]; exact hlt
      obtain ⟨g, o, rfl, c0, c1⟩ := (HV.out.below (hB ▸ hmi.bel)).at_ k _ (clV_get cs k hkc)
      dsimp only at c0 c1
      obtain ⟨⟨a1, a2⟩, hsz⟩ := HCS.out _ (List.getElem_mem hkc)
      have hgd : cs[k]?.getD (ByteArray.empty, 0) = cs[k] := by rw [List.getElem?_eq_getElem hkc]; rfl
      have hcl : clsN cs (k + 1) = clsB cs k cs[k].1 cs[k].2 := by rw [clsN, hgd, hno.out, Bool.true_and]
      obtain ⟨nm, hnm⟩ : ∃ nm, cs[k].1 = nm := ⟨_, rfl⟩
      obtain ⟨kp, hkp⟩ : ∃ kp, cs[k].2 = kp := ⟨_, rfl⟩
      rw [hnm] at c0 hsz hcl
      rw [hkp] at c1 a1 a2 hcl
      have HCL := Lib.hid hcl
      have HKC := Lib.hid hkc
      have hrow : Row (wr.alloc (.cells #[.string nm, .int .i64 kp] 56)) wr.heap.size 56 [.string nm, .int .i64 kp] := Row.new wr _ _
      have m1 := hmi.alloc (.cells #[.string nm, .int .i64 kp] 56)
      have hfd := fun w' (hb : Below B w w') => rfind_any (.slice (some ⟨g, o, none⟩) k c) (cs.take k) nm w' (by
        have := PV.take (HV.out.below (by rw [hB]; exact hb)) k (by rw [clV_len, HN.out]; omega)
        rw [clV_take] at this; exact this)
      obtain ⟨fo, hfo⟩ : ∃ fo, findC (cs.take k) nm = fo := ⟨_, rfl⟩
      simp only [hfo] at hfd
      obtain ⟨fl, hfl⟩ : ∃ fl : List Value, [.string (clName fo), .int .i64 (clKeep fo)] = fl := ⟨_, rfl⟩
      have hfl2 : fl.length = 2 := by rw [← hfl]; rfl
      have hone : ∀ v ∈ fl, v.oneCell' = true := by rw [← hfl]; intro v hv; simp at hv; rcases hv with rfl | rfl <;> rfl
      have hinf := class_info fl hfl2
      obtain ⟨ib, hib⟩ : ∃ ib, fo.isSome = ib := ⟨_, rfl⟩
      have hfd2 : ∀ w', Below B w w' → Calls Try.prog 46 #[.slice (some ⟨g, o, none⟩) k c, .string nm] w' fun e w'' => e = .returned (.tuple #[.agg fl.toArray, .bool ib]) ∧ Below w'.heap.size w' w'' := by
        rw [← hfl, ← hib]; exact hfd
      have ksl := fun w => classSlice (some ⟨g, o, none⟩) n c k (by omega) w
      have hsmall := fun w => small13_any nm 20 hsz w
      obtain ⟨sb, hsb⟩ : ∃ sb, smallB (bl nm) 20 = sb := ⟨_, rfl⟩
      simp only [hsb] at hsmall
      have hclb : clsN cs (k + 1) = (!ib && sb && decide (1 ≤ kp)) := by
        rw [HCL.out]; unfold clsB; rw [hfo, hsb, ← hib]
        cases fo <;> rfl
      have hth : ((wr.alloc (.cells #[.string nm, .int .i64 kp] 56)).alloc (.cells #[.string ByteArray.empty, .int .i64 0] 56)).there (wr.heap.size + 1) 0 2 := by
        have := class_there (wr.alloc (.cells #[.string nm, .int .i64 kp] 56)); rw [alloc_size] at this; exact this
      have hBw := hmi.le
      have HFD := Lib.hid hfd2
      have HSMALL := Lib.hid hsmall
      have HCLB := Lib.hid hclb
      have HR1 := Lib.hid hrow
      have M1 := Lib.hid m1
      have TH1 := Lib.hid hth
      have d0 : decide (k < n) = true := decide_eq_true hlt
      have k0 : (0 : Int) ≤ (k : Int) := by omega
      have k1 : (k : Int) < (n : Int) := by omega
      have H2 := Lib.hid hfl2
      clear hgd hcl hkc hnm hkp hrow m1 hno hmi hfd hfd2 hfl hfo hib hsmall hsb hclb hth
      go_wp2_with fail
      refine wp_region_noPanic ?_
      refine wp_region_held_drew (S := (fun w' => (Mine B w w' ∧ Row w' wr.heap.size 56 [.string nm, .int .i64 kp]) ∧ w'.cell? ⟨wr.heap.size, 0, none⟩ = some (.string nm))) (by kernel_rfl) ?_ (fun hHeld => ?_)
      · exact ⟨⟨M1.out.drew, HR1.out⟩, Row.cell0 HR1.out⟩
      refine wpAnyH_take (i := 0) (oi := { dst := some 34, op := Op.move (Operand.tmp 0), type := 28, pos := "ref.go:44", after := #[], guard := none }) (v := ?v0_0) rfl (by kernel_rfl) (by kernel_rfl) (by kernel_rfl) (fun _ _ _ h => h) (Or.inl ⟨by rfl, ?y0_0⟩) (by assumption) ?r0_0
      case y0_0 => intro w hSw; (try dsimp only at hSw); go_simp; try with_reducible rfl
      try simp only [Act.put, List.setIfInBounds_toArray, List.set_cons_zero, List.set_cons_succ]
      refine wpAnyH_take (i := 1) (oi := { dst := some 35, op := Op.move (Operand.tmp 5), type := 3, pos := "ref.go:44", after := #[], guard := none }) (v := ?v1_1) rfl (by kernel_rfl) (by kernel_rfl) (by kernel_rfl) (fun _ _ _ h => h) (Or.inl ⟨by rfl, ?y1_1⟩) (by assumption) ?r1_1
      case y1_1 => intro w hSw; (try dsimp only at hSw); go_simp; try with_reducible rfl
      try simp only [Act.put, List.setIfInBounds_toArray, List.set_cons_zero, List.set_cons_succ]
      refine wpAnyH_take (i := 2) (oi := { dst := some 36, op := Op.slice 28 (Operand.tmp 34) none (some (Operand.tmp 35)) none, type := 28, pos := "ref.go:44", after := #[{ on := 0, ground := Ground.data }, { on := 1, ground := Ground.data }], guard := none }) (v := ?v2_2) rfl (by kernel_rfl) (by kernel_rfl) (by kernel_rfl) (fun _ _ _ h => h) (Or.inl ⟨by rfl, ?y2_2⟩) (by assumption) ?r2_2
      case y2_2 => intro w hSw; (try dsimp only at hSw); go_simp; try with_reducible rfl
      try simp only [Act.put, List.setIfInBounds_toArray, List.set_cons_zero, List.set_cons_succ]
      refine wpAnyH_take (i := 3) (oi := { dst := some 37, op := Op.fieldAddr 56 (Operand.tmp 6) 0, type := 0, pos := "ref.go:44", after := #[], guard := none }) (v := ?v3_3) rfl (by kernel_rfl) (by kernel_rfl) (by kernel_rfl) (fun _ _ _ h => h) (Or.inl ⟨by rfl, ?y3_3⟩) (by assumption) ?r3_3
      case y3_3 => intro w hSw; (try dsimp only at hSw); go_simp; try with_reducible rfl
      try simp only [Act.put, List.setIfInBounds_toArray, List.set_cons_zero, List.set_cons_succ]
      refine wpAnyH_take (i := 4) (oi := { dst := some 38, op := Op.load 9 (Operand.tmp 37), type := 9, pos := "ref.go:44", after := #[{ on := 3, ground := Ground.data }], guard := none }) (v := ?v4_4) rfl (by kernel_rfl) (by kernel_rfl) (by kernel_rfl) (fun _ _ _ h => h) (Or.inl ⟨by rfl, ?y4_4⟩) (by assumption) ?r4_4
      case y4_4 => intro w hSw; (try dsimp only at hSw); go_simp; try with_reducible rfl
      try simp only [Act.put, List.setIfInBounds_toArray, List.set_cons_zero, List.set_cons_succ]
      refine wpAnyH_ready (rs := [5, 9]) (by kernel_rfl) (by simp) (AllReadyH.cons (o := { dst := some 39, op := Op.call { callee := Callee.value (Operand.func 46), args := #[Operand.tmp 36, Operand.tmp 38], argTypes := #[28, 9] }, type := 57, pos := "ref.go:44", after := #[{ on := 2, ground := Ground.data }, { on := 4, ground := Ground.data }], guard := none }) rfl (fun K hK => ?_) (AllReadyH.cons (o := { dst := some 7, op := Op.alloc 56, type := 0, pos := "ref.go:44", after := #[], guard := none }) rfl (fun K hK => ?_) (AllReadyH.nil)))
      ·
        go_simp
        refine (HFD.out _ (by go_split_ands; exact Mine.bel (by assumption))).mono ?_; rintro e w2 ⟨rfl, hb2⟩
        go_wp2_with fail
        refine hK.out _ _ ?_ (fun hHeld => ?_)
        · (try dsimp only); first | (go_split_ands; (repeat' apply And.intro) <;> first | assumption | exact Mine.call (by assumption) (by assumption) | exact Mine.alloc (by assumption) _ | exact Mine.setCells (by assumption) _ _ _ (by omega) | exact Mine.callN (by assumption) (by assumption) (by omega) | exact Row.belowN (by assumption) (by assumption) (by omega) | exact there_belowN (by assumption) (by assumption) (by omega) | exact rangeAt_below (by assumption) (by assumption) | exact World.rangeAt_alloc (by assumption) _ | exact World.rangeAt_setCells_apart (by assumption) _ _ _ (Or.inl (by omega)) | exact there_below (by assumption) (by assumption) | exact World.there_alloc (by assumption) _ | exact World.there_setCells (by assumption) _ _ _ | exact Row.belowS (by assumption) (by assumption) | exact Row.alloc (by assumption) _ | exact Row.setCells (by assumption) _ _ (by omega) | exact HS.below (by assumption) (by assumption) | exact SB.below (by assumption) (by assumption) | exact HS.alloc (by assumption) _ | exact Box.call (by assumption) (by assumption) | exact Box.alloc (by assumption) _ | exact Box.put (by assumption) _ (by assumption)) | (go_split_ands; (repeat' apply And.intro) <;> first | assumption | exact Mine.call (by assumption) (by assumption) | exact Mine.alloc (by assumption) _ | exact Mine.setCells (by assumption) _ _ _ (by omega) | exact Row.belowS (by assumption) (by assumption) | exact Row.alloc (by assumption) _ | exact Row.setCells (by assumption) _ _ (by omega) | exact Row.cell0 (Row.belowS (by assumption) (by assumption)) | exact Row.cell0 (Row.alloc (by assumption) _) | exact Row.cell0 (Row.setCells (by assumption) _ _ (by omega)) | exact there_below (by assumption) (by assumption) | exact World.there_alloc (by assumption) _ | exact World.there_setCells (by assumption) _ _ _)
        clear hK K
        try simp only [Act.put, List.setIfInBounds_toArray, List.set_cons_zero, List.set_cons_succ]
        refine wpAnyH_take (i := 6) (oi := { dst := some 33, op := Op.move (Operand.tmp 39), type := 57, pos := "ref.go:44", after := #[{ on := 5, ground := Ground.data }], guard := none }) (v := ?v6_5) rfl (by kernel_rfl) (by kernel_rfl) (by kernel_rfl) (fun _ _ _ h => h) (Or.inl ⟨by rfl, ?y6_5⟩) (by assumption) ?r6_5
        case y6_5 => intro w hSw; (try dsimp only at hSw); go_simp; try with_reducible rfl
        try simp only [Act.put, List.setIfInBounds_toArray, List.set_cons_zero, List.set_cons_succ]
        refine wpAnyH_take (i := 7) (oi := { dst := some 40, op := Op.extract (Operand.tmp 33) 0, type := 56, pos := "ref.go:44", after := #[{ on := 6, ground := Ground.data }], guard := none }) (v := ?v7_6) rfl (by kernel_rfl) (by kernel_rfl) (by kernel_rfl) (fun _ _ _ h => h) (Or.inl ⟨by rfl, ?y7_6⟩) (by assumption) ?r7_6
        case y7_6 => intro w hSw; (try dsimp only at hSw); go_simp; try with_reducible rfl
        try simp only [Act.put, List.setIfInBounds_toArray, List.set_cons_zero, List.set_cons_succ]
        refine wpAnyH_take (i := 8) (oi := { dst := some 41, op := Op.extract (Operand.tmp 33) 1, type := 4, pos := "ref.go:44", after := #[{ on := 6, ground := Ground.data }, { on := 10, ground := Ground.gcOnly Departure.lateStores }], guard := none }) (v := ?v8_7) rfl (by kernel_rfl) (by kernel_rfl) (by kernel_rfl) (fun _ _ _ h => h) (Or.inl ⟨by rfl, ?y8_7⟩) (by assumption) ?r8_7
        case y8_7 => intro w hSw; (try dsimp only at hSw); go_simp; try with_reducible rfl
        try simp only [Act.put, List.setIfInBounds_toArray, List.set_cons_zero, List.set_cons_succ]
        refine wpAnyH_ready (rs := [9]) (by kernel_rfl) (by simp) (AllReadyH.cons (o := { dst := some 7, op := Op.alloc 56, type := 0, pos := "ref.go:44", after := #[], guard := none }) rfl (fun K hK => ?_) (AllReadyH.nil))
        go_simp
        have hOld := hHeld
        refine hK.out _ _ ?_ (fun hHeld => ?_)
        · (try dsimp only); first | (go_split_ands; (repeat' apply And.intro) <;> first | assumption | exact Mine.call (by assumption) (by assumption) | exact Mine.alloc (by assumption) _ | exact Mine.setCells (by assumption) _ _ _ (by omega) | exact Mine.callN (by assumption) (by assumption) (by omega) | exact Row.belowN (by assumption) (by assumption) (by omega) | exact there_belowN (by assumption) (by assumption) (by omega) | exact rangeAt_below (by assumption) (by assumption) | exact World.rangeAt_alloc (by assumption) _ | exact World.rangeAt_setCells_apart (by assumption) _ _ _ (Or.inl (by omega)) | exact there_below (by assumption) (by assumption) | exact World.there_alloc (by assumption) _ | exact World.there_setCells (by assumption) _ _ _ | exact Row.belowS (by assumption) (by assumption) | exact Row.alloc (by assumption) _ | exact Row.setCells (by assumption) _ _ (by omega) | exact HS.below (by assumption) (by assumption) | exact SB.below (by assumption) (by assumption) | exact HS.alloc (by assumption) _ | exact Box.call (by assumption) (by assumption) | exact Box.alloc (by assumption) _ | exact Box.put (by assumption) _ (by assumption)) | (go_split_ands; (repeat' apply And.intro) <;> first | assumption | exact Mine.call (by assumption) (by assumption) | exact Mine.alloc (by assumption) _ | exact Mine.setCells (by assumption) _ _ _ (by omega) | exact Row.belowS (by assumption) (by assumption) | exact Row.alloc (by assumption) _ | exact Row.setCells (by assumption) _ _ (by omega) | exact Row.cell0 (Row.belowS (by assumption) (by assumption)) | exact Row.cell0 (Row.alloc (by assumption) _) | exact Row.cell0 (Row.setCells (by assumption) _ _ (by omega)) | exact there_below (by assumption) (by assumption) | exact World.there_alloc (by assumption) _ | exact World.there_setCells (by assumption) _ _ _)
        clear hK K
        try simp only [Act.put, List.setIfInBounds_toArray, List.set_cons_zero, List.set_cons_succ]
        obtain ⟨N, hN⟩ : ∃ B, w2.heap.size = B := ⟨_, rfl⟩
        try rw [hN]
        refine wpAnyH_with (E := fun w' => w'.there N 0 2 ∧ wr.heap.size + 1 ≤ N) (by (try dsimp only); refine ⟨?_, ?_⟩ <;> rw [← hN] <;> first | exact class_there _ | exact (World.there_drew _ _ _ _).2 (class_there _) | assumption | (first | exact TH1.out | exact (World.there_drew _ _ _ _).2 TH1.out | (have hq := HR1.out.lt; simp at hq; omega) | (go_split_ands; exact Row.lt (by assumption)))) hHeld (fun hHeld => ?_)
        try dsimp only at hHeld
        have hPre := hHeld
        refine wpAnyH_ready (rs := [10]) (by kernel_rfl) (by simp) (AllReadyH.cons (o := { dst := none, op := Op.store 56 (Operand.tmp 7) (Operand.tmp 40), type := 0, pos := "ref.go:44", after := #[{ on := 9, ground := Ground.data }, { on := 7, ground := Ground.data }, { on := 5, ground := Ground.chain }, { on := 0, ground := Ground.phase }, { on := 1, ground := Ground.phase }, { on := 2, ground := Ground.phase }, { on := 3, ground := Ground.phase }, { on := 4, ground := Ground.phase }, { on := 5, ground := Ground.phase }, { on := 6, ground := Ground.phase }, { on := 7, ground := Ground.phase }, { on := 8, ground := Ground.textOnly Departure.lateStores }, { on := 9, ground := Ground.phase }], guard := none }) rfl (fun K hK => ?_) AllReadyH.nil)
        rw [if_pos (by rfl)]
        refine wp_store_mid _ _ _ rfl _ _ (List.toArray _) rfl rfl (by go_split_ands; first | assumption | (simp only [List.size_toArray, *] <;> assumption)) (by first | assumption | (simp only [List.size_toArray] <;> assumption) | (simp only [List.size_toArray, *]; done)) (all_oneCell_toArray (by assumption)) ?_
        simp only [Act.put, List.setIfInBounds_toArray, List.set_cons_zero, List.set_cons_succ, List.toList_toArray]
        refine hK.out _ _ ?_ (fun hHeld => ?_)
        · (try dsimp only); first | (go_split_ands; (repeat' apply And.intro) <;> first | assumption | exact Mine.call (by assumption) (by assumption) | exact Mine.alloc (by assumption) _ | exact Mine.setCells (by assumption) _ _ _ (by omega) | exact Mine.callN (by assumption) (by assumption) (by omega) | exact Row.belowN (by assumption) (by assumption) (by omega) | exact there_belowN (by assumption) (by assumption) (by omega) | exact rangeAt_below (by assumption) (by assumption) | exact World.rangeAt_alloc (by assumption) _ | exact World.rangeAt_setCells_apart (by assumption) _ _ _ (Or.inl (by omega)) | exact there_below (by assumption) (by assumption) | exact World.there_alloc (by assumption) _ | exact World.there_setCells (by assumption) _ _ _ | exact Row.belowS (by assumption) (by assumption) | exact Row.alloc (by assumption) _ | exact Row.setCells (by assumption) _ _ (by omega) | exact HS.below (by assumption) (by assumption) | exact SB.below (by assumption) (by assumption) | exact HS.alloc (by assumption) _ | exact Box.call (by assumption) (by assumption) | exact Box.alloc (by assumption) _ | exact Box.put (by assumption) _ (by assumption)) | (go_split_ands; (repeat' apply And.intro) <;> first | assumption | exact Mine.call (by assumption) (by assumption) | exact Mine.alloc (by assumption) _ | exact Mine.setCells (by assumption) _ _ _ (by omega) | exact Row.belowS (by assumption) (by assumption) | exact Row.alloc (by assumption) _ | exact Row.setCells (by assumption) _ _ (by omega) | exact Row.cell0 (Row.belowS (by assumption) (by assumption)) | exact Row.cell0 (Row.alloc (by assumption) _) | exact Row.cell0 (Row.setCells (by assumption) _ _ (by omega)) | exact there_below (by assumption) (by assumption) | exact World.there_alloc (by assumption) _ | exact World.there_setCells (by assumption) _ _ _)
        clear hK K
        refine wpAnyH_ready (rs := [11]) (by kernel_rfl) (by simp) (AllReadyH.cons (o := { dst := some 8, op := Op.assign (Operand.tmp 41), type := 4, pos := "ref.go:44", after := #[{ on := 8, ground := Ground.data }, { on := 10, ground := Ground.chain }, { on := 0, ground := Ground.phase }, { on := 1, ground := Ground.phase }, { on := 2, ground := Ground.phase }, { on := 3, ground := Ground.phase }, { on := 4, ground := Ground.phase }, { on := 5, ground := Ground.phase }, { on := 6, ground := Ground.phase }, { on := 7, ground := Ground.phase }, { on := 8, ground := Ground.phase }, { on := 9, ground := Ground.phase }, { on := 10, ground := Ground.phase }], guard := none }) rfl (fun K hK => ?_) AllReadyH.nil)
        go_simp
        refine hK.out _ _ ?_ (fun hHeld => ?_)
        · (try dsimp only); first | (go_split_ands; (repeat' apply And.intro) <;> first | assumption | exact Mine.call (by assumption) (by assumption) | exact Mine.alloc (by assumption) _ | exact Mine.setCells (by assumption) _ _ _ (by omega) | exact Mine.callN (by assumption) (by assumption) (by omega) | exact Row.belowN (by assumption) (by assumption) (by omega) | exact there_belowN (by assumption) (by assumption) (by omega) | exact rangeAt_below (by assumption) (by assumption) | exact World.rangeAt_alloc (by assumption) _ | exact World.rangeAt_setCells_apart (by assumption) _ _ _ (Or.inl (by omega)) | exact there_below (by assumption) (by assumption) | exact World.there_alloc (by assumption) _ | exact World.there_setCells (by assumption) _ _ _ | exact Row.belowS (by assumption) (by assumption) | exact Row.alloc (by assumption) _ | exact Row.setCells (by assumption) _ _ (by omega) | exact HS.below (by assumption) (by assumption) | exact SB.below (by assumption) (by assumption) | exact HS.alloc (by assumption) _ | exact Box.call (by assumption) (by assumption) | exact Box.alloc (by assumption) _ | exact Box.put (by assumption) _ (by assumption)) | (go_split_ands; (repeat' apply And.intro) <;> first | assumption | exact Mine.call (by assumption) (by assumption) | exact Mine.alloc (by assumption) _ | exact Mine.setCells (by assumption) _ _ _ (by omega) | exact Row.belowS (by assumption) (by assumption) | exact Row.alloc (by assumption) _ | exact Row.setCells (by assumption) _ _ (by omega) | exact Row.cell0 (Row.belowS (by assumption) (by assumption)) | exact Row.cell0 (Row.alloc (by assumption) _) | exact Row.cell0 (Row.setCells (by assumption) _ _ (by omega)) | exact there_below (by assumption) (by assumption) | exact World.there_alloc (by assumption) _ | exact World.there_setCells (by assumption) _ _ _)
        clear hK K
        try simp only [Act.put, List.setIfInBounds_toArray, List.set_cons_zero, List.set_cons_succ]
        refine wpAnyH_done (by kernel_rfl) ?_ _
        refine NoPanic.normal ?_
        have hm := hHeld.1.1.1
        have hr := hHeld.1.1.2
        clear hHeld hPre hOld
        generalize World.setCells _ N 0 fl = W at hm hr ⊢
        have f0 := hr.cell0
        have f1 := hr.cell1
        have MM := Lib.hid hm
        clear hm hr hone hinf hfl2
        cases ib with
        | true =>
          have hfe : E = 130 := by rw [← HE.out]; exact checkE_cls k HKC.out (by rw [HCLB.out]; rfl)
          subst hfe
          go_wp2
          go_ret
          exact ⟨rfl, by first | exact MM.out.bel | (rw [hB]; exact MM.out.bel)⟩
        | false =>
          cases sb with
          | false =>
            have hfe : E = 130 := by rw [← HE.out]; exact checkE_cls k HKC.out (by rw [HCLB.out]; rfl)
            subst hfe
            go_wp2_with fail
            refine (HSMALL.out _).mono ?_
            rintro e w' ⟨rfl, rfl⟩
            go_wp2
            go_ret
            exact ⟨rfl, by first | exact MM.out.bel | (rw [hB]; exact MM.out.bel)⟩
          | true =>
            by_cases hkp1 : kp < 1
            · have e2 : decide (kp < 1) = true := decide_eq_true hkp1
              have hfe : E = 130 := by rw [← HE.out]; exact checkE_cls k HKC.out (by rw [HCLB.out, decide_eq_false (by omega)]; rfl)
              subst hfe
              go_wp2_with fail
              refine (HSMALL.out _).mono ?_
              rintro e w' ⟨rfl, rfl⟩
              go_wp2
              go_ret
              exact ⟨rfl, by first | exact MM.out.bel | (rw [hB]; exact MM.out.bel)⟩
            · have e2 : decide (kp < 1) = false := decide_eq_false hkp1
              have hcn : clsN cs (k + 1) = true := by rw [HCLB.out, decide_eq_true (by omega)]; rfl
              have HCN := Lib.hid hcn
              clear hcn
              go_wp2_with fail
              refine (HSMALL.out _).mono ?_
              rintro e w' ⟨rfl, rfl⟩
              go_wp2
              go_roundw
              case rel => exact ⟨k + 1, ⟨by go_num, by omega⟩, HCN.out, MM.out⟩
              case measure => simp [intOf]; omega
      ·
        go_simp
        have hOld := hHeld
        refine hK.out _ _ ?_ (fun hHeld => ?_)
        · (try dsimp only); first | (go_split_ands; (repeat' apply And.intro) <;> first | assumption | exact Mine.call (by assumption) (by assumption) | exact Mine.alloc (by assumption) _ | exact Mine.setCells (by assumption) _ _ _ (by omega) | exact Mine.callN (by assumption) (by assumption) (by omega) | exact Row.belowN (by assumption) (by assumption) (by omega) | exact there_belowN (by assumption) (by assumption) (by omega) | exact rangeAt_below (by assumption) (by assumption) | exact World.rangeAt_alloc (by assumption) _ | exact World.rangeAt_setCells_apart (by assumption) _ _ _ (Or.inl (by omega)) | exact there_below (by assumption) (by assumption) | exact World.there_alloc (by assumption) _ | exact World.there_setCells (by assumption) _ _ _ | exact Row.belowS (by assumption) (by assumption) | exact Row.alloc (by assumption) _ | exact Row.setCells (by assumption) _ _ (by omega) | exact HS.below (by assumption) (by assumption) | exact SB.below (by assumption) (by assumption) | exact HS.alloc (by assumption) _ | exact Box.call (by assumption) (by assumption) | exact Box.alloc (by assumption) _ | exact Box.put (by assumption) _ (by assumption)) | (go_split_ands; (repeat' apply And.intro) <;> first | assumption | exact Mine.call (by assumption) (by assumption) | exact Mine.alloc (by assumption) _ | exact Mine.setCells (by assumption) _ _ _ (by omega) | exact Row.belowS (by assumption) (by assumption) | exact Row.alloc (by assumption) _ | exact Row.setCells (by assumption) _ _ (by omega) | exact Row.cell0 (Row.belowS (by assumption) (by assumption)) | exact Row.cell0 (Row.alloc (by assumption) _) | exact Row.cell0 (Row.setCells (by assumption) _ _ (by omega)) | exact there_below (by assumption) (by assumption) | exact World.there_alloc (by assumption) _ | exact World.there_setCells (by assumption) _ _ _)
        clear hK K
        try simp only [Act.put, List.setIfInBounds_toArray, List.set_cons_zero, List.set_cons_succ]
        obtain ⟨N, hN⟩ : ∃ B, wr.heap.size + 1 = B := ⟨_, rfl⟩
        try rw [hN]
        refine wpAnyH_with (E := fun w' => w'.there N 0 2 ∧ wr.heap.size + 1 ≤ N) (by (try dsimp only); refine ⟨?_, ?_⟩ <;> rw [← hN] <;> first | exact class_there _ | exact (World.there_drew _ _ _ _).2 (class_there _) | assumption | (first | exact TH1.out | exact (World.there_drew _ _ _ _).2 TH1.out | (have hq := HR1.out.lt; simp at hq; omega) | (go_split_ands; exact Row.lt (by assumption)))) hHeld (fun hHeld => ?_)
        try dsimp only at hHeld
        refine wpAnyH_ready (rs := [5]) (by kernel_rfl) (by simp) (AllReadyH.cons (o := { dst := some 39, op := Op.call { callee := Callee.value (Operand.func 46), args := #[Operand.tmp 36, Operand.tmp 38], argTypes := #[28, 9] }, type := 57, pos := "ref.go:44", after := #[{ on := 2, ground := Ground.data }, { on := 4, ground := Ground.data }], guard := none }) rfl (fun K hK => ?_) AllReadyH.nil)
        go_simp
        refine (HFD.out _ (by go_split_ands; exact Mine.bel (by assumption))).mono ?_; rintro e w2 ⟨rfl, hb2⟩
        go_wp2_with fail
        refine hK.out _ _ ?_ (fun hHeld => ?_)
        · (try dsimp only); first | (go_split_ands; (repeat' apply And.intro) <;> first | assumption | exact Mine.call (by assumption) (by assumption) | exact Mine.alloc (by assumption) _ | exact Mine.setCells (by assumption) _ _ _ (by omega) | exact Mine.callN (by assumption) (by assumption) (by omega) | exact Row.belowN (by assumption) (by assumption) (by omega) | exact there_belowN (by assumption) (by assumption) (by omega) | exact rangeAt_below (by assumption) (by assumption) | exact World.rangeAt_alloc (by assumption) _ | exact World.rangeAt_setCells_apart (by assumption) _ _ _ (Or.inl (by omega)) | exact there_below (by assumption) (by assumption) | exact World.there_alloc (by assumption) _ | exact World.there_setCells (by assumption) _ _ _ | exact Row.belowS (by assumption) (by assumption) | exact Row.alloc (by assumption) _ | exact Row.setCells (by assumption) _ _ (by omega) | exact HS.below (by assumption) (by assumption) | exact SB.below (by assumption) (by assumption) | exact HS.alloc (by assumption) _ | exact Box.call (by assumption) (by assumption) | exact Box.alloc (by assumption) _ | exact Box.put (by assumption) _ (by assumption)) | (go_split_ands; (repeat' apply And.intro) <;> first | assumption | exact Mine.call (by assumption) (by assumption) | exact Mine.alloc (by assumption) _ | exact Mine.setCells (by assumption) _ _ _ (by omega) | exact Row.belowS (by assumption) (by assumption) | exact Row.alloc (by assumption) _ | exact Row.setCells (by assumption) _ _ (by omega) | exact Row.cell0 (Row.belowS (by assumption) (by assumption)) | exact Row.cell0 (Row.alloc (by assumption) _) | exact Row.cell0 (Row.setCells (by assumption) _ _ (by omega)) | exact there_below (by assumption) (by assumption) | exact World.there_alloc (by assumption) _ | exact World.there_setCells (by assumption) _ _ _)
        clear hK K
        try simp only [Act.put, List.setIfInBounds_toArray, List.set_cons_zero, List.set_cons_succ]
        refine wpAnyH_take (i := 6) (oi := { dst := some 33, op := Op.move (Operand.tmp 39), type := 57, pos := "ref.go:44", after := #[{ on := 5, ground := Ground.data }], guard := none }) (v := ?v6_8) rfl (by kernel_rfl) (by kernel_rfl) (by kernel_rfl) (fun _ _ _ h => h) (Or.inl ⟨by rfl, ?y6_8⟩) (by assumption) ?r6_8
        case y6_8 => intro w hSw; (try dsimp only at hSw); go_simp; try with_reducible rfl
        try simp only [Act.put, List.setIfInBounds_toArray, List.set_cons_zero, List.set_cons_succ]
        refine wpAnyH_take (i := 7) (oi := { dst := some 40, op := Op.extract (Operand.tmp 33) 0, type := 56, pos := "ref.go:44", after := #[{ on := 6, ground := Ground.data }], guard := none }) (v := ?v7_9) rfl (by kernel_rfl) (by kernel_rfl) (by kernel_rfl) (fun _ _ _ h => h) (Or.inl ⟨by rfl, ?y7_9⟩) (by assumption) ?r7_9
        case y7_9 => intro w hSw; (try dsimp only at hSw); go_simp; try with_reducible rfl
        try simp only [Act.put, List.setIfInBounds_toArray, List.set_cons_zero, List.set_cons_succ]
        refine wpAnyH_take (i := 8) (oi := { dst := some 41, op := Op.extract (Operand.tmp 33) 1, type := 4, pos := "ref.go:44", after := #[{ on := 6, ground := Ground.data }, { on := 10, ground := Ground.gcOnly Departure.lateStores }], guard := none }) (v := ?v8_10) rfl (by kernel_rfl) (by kernel_rfl) (by kernel_rfl) (fun _ _ _ h => h) (Or.inl ⟨by rfl, ?y8_10⟩) (by assumption) ?r8_10
        case y8_10 => intro w hSw; (try dsimp only at hSw); go_simp; try with_reducible rfl
        try simp only [Act.put, List.setIfInBounds_toArray, List.set_cons_zero, List.set_cons_succ]
        have hPre := hHeld
        refine wpAnyH_ready (rs := [10]) (by kernel_rfl) (by simp) (AllReadyH.cons (o := { dst := none, op := Op.store 56 (Operand.tmp 7) (Operand.tmp 40), type := 0, pos := "ref.go:44", after := #[{ on := 9, ground := Ground.data }, { on := 7, ground := Ground.data }, { on := 5, ground := Ground.chain }, { on := 0, ground := Ground.phase }, { on := 1, ground := Ground.phase }, { on := 2, ground := Ground.phase }, { on := 3, ground := Ground.phase }, { on := 4, ground := Ground.phase }, { on := 5, ground := Ground.phase }, { on := 6, ground := Ground.phase }, { on := 7, ground := Ground.phase }, { on := 8, ground := Ground.textOnly Departure.lateStores }, { on := 9, ground := Ground.phase }], guard := none }) rfl (fun K hK => ?_) AllReadyH.nil)
        rw [if_pos (by rfl)]
        refine wp_store_mid _ _ _ rfl _ _ (List.toArray _) rfl rfl (by go_split_ands; first | assumption | (simp only [List.size_toArray, *] <;> assumption)) (by first | assumption | (simp only [List.size_toArray] <;> assumption) | (simp only [List.size_toArray, *]; done)) (all_oneCell_toArray (by assumption)) ?_
        simp only [Act.put, List.setIfInBounds_toArray, List.set_cons_zero, List.set_cons_succ, List.toList_toArray]
        refine hK.out _ _ ?_ (fun hHeld => ?_)
        · (try dsimp only); first | (go_split_ands; (repeat' apply And.intro) <;> first | assumption | exact Mine.call (by assumption) (by assumption) | exact Mine.alloc (by assumption) _ | exact Mine.setCells (by assumption) _ _ _ (by omega) | exact Mine.callN (by assumption) (by assumption) (by omega) | exact Row.belowN (by assumption) (by assumption) (by omega) | exact there_belowN (by assumption) (by assumption) (by omega) | exact rangeAt_below (by assumption) (by assumption) | exact World.rangeAt_alloc (by assumption) _ | exact World.rangeAt_setCells_apart (by assumption) _ _ _ (Or.inl (by omega)) | exact there_below (by assumption) (by assumption) | exact World.there_alloc (by assumption) _ | exact World.there_setCells (by assumption) _ _ _ | exact Row.belowS (by assumption) (by assumption) | exact Row.alloc (by assumption) _ | exact Row.setCells (by assumption) _ _ (by omega) | exact HS.below (by assumption) (by assumption) | exact SB.below (by assumption) (by assumption) | exact HS.alloc (by assumption) _ | exact Box.call (by assumption) (by assumption) | exact Box.alloc (by assumption) _ | exact Box.put (by assumption) _ (by assumption)) | (go_split_ands; (repeat' apply And.intro) <;> first | assumption | exact Mine.call (by assumption) (by assumption) | exact Mine.alloc (by assumption) _ | exact Mine.setCells (by assumption) _ _ _ (by omega) | exact Row.belowS (by assumption) (by assumption) | exact Row.alloc (by assumption) _ | exact Row.setCells (by assumption) _ _ (by omega) | exact Row.cell0 (Row.belowS (by assumption) (by assumption)) | exact Row.cell0 (Row.alloc (by assumption) _) | exact Row.cell0 (Row.setCells (by assumption) _ _ (by omega)) | exact there_below (by assumption) (by assumption) | exact World.there_alloc (by assumption) _ | exact World.there_setCells (by assumption) _ _ _)
        clear hK K
        refine wpAnyH_ready (rs := [11]) (by kernel_rfl) (by simp) (AllReadyH.cons (o := { dst := some 8, op := Op.assign (Operand.tmp 41), type := 4, pos := "ref.go:44", after := #[{ on := 8, ground := Ground.data }, { on := 10, ground := Ground.chain }, { on := 0, ground := Ground.phase }, { on := 1, ground := Ground.phase }, { on := 2, ground := Ground.phase }, { on := 3, ground := Ground.phase }, { on := 4, ground := Ground.phase }, { on := 5, ground := Ground.phase }, { on := 6, ground := Ground.phase }, { on := 7, ground := Ground.phase }, { on := 8, ground := Ground.phase }, { on := 9, ground := Ground.phase }, { on := 10, ground := Ground.phase }], guard := none }) rfl (fun K hK => ?_) AllReadyH.nil)
        go_simp
        refine hK.out _ _ ?_ (fun hHeld => ?_)
        · (try dsimp only); first | (go_split_ands; (repeat' apply And.intro) <;> first | assumption | exact Mine.call (by assumption) (by assumption) | exact Mine.alloc (by assumption) _ | exact Mine.setCells (by assumption) _ _ _ (by omega) | exact Mine.callN (by assumption) (by assumption) (by omega) | exact Row.belowN (by assumption) (by assumption) (by omega) | exact there_belowN (by assumption) (by assumption) (by omega) | exact rangeAt_below (by assumption) (by assumption) | exact World.rangeAt_alloc (by assumption) _ | exact World.rangeAt_setCells_apart (by assumption) _ _ _ (Or.inl (by omega)) | exact there_below (by assumption) (by assumption) | exact World.there_alloc (by assumption) _ | exact World.there_setCells (by assumption) _ _ _ | exact Row.belowS (by assumption) (by assumption) | exact Row.alloc (by assumption) _ | exact Row.setCells (by assumption) _ _ (by omega) | exact HS.below (by assumption) (by assumption) | exact SB.below (by assumption) (by assumption) | exact HS.alloc (by assumption) _ | exact Box.call (by assumption) (by assumption) | exact Box.alloc (by assumption) _ | exact Box.put (by assumption) _ (by assumption)) | (go_split_ands; (repeat' apply And.intro) <;> first | assumption | exact Mine.call (by assumption) (by assumption) | exact Mine.alloc (by assumption) _ | exact Mine.setCells (by assumption) _ _ _ (by omega) | exact Row.belowS (by assumption) (by assumption) | exact Row.alloc (by assumption) _ | exact Row.setCells (by assumption) _ _ (by omega) | exact Row.cell0 (Row.belowS (by assumption) (by assumption)) | exact Row.cell0 (Row.alloc (by assumption) _) | exact Row.cell0 (Row.setCells (by assumption) _ _ (by omega)) | exact there_below (by assumption) (by assumption) | exact World.there_alloc (by assumption) _ | exact World.there_setCells (by assumption) _ _ _)
        clear hK K
        try simp only [Act.put, List.setIfInBounds_toArray, List.set_cons_zero, List.set_cons_succ]
        refine wpAnyH_done (by kernel_rfl) ?_ _
        refine NoPanic.normal ?_
        have hm := hHeld.1.1.1
        have hr := hHeld.1.1.2
        clear hHeld hPre hOld
        generalize World.setCells _ N 0 fl = W at hm hr ⊢
        have f0 := hr.cell0
        have f1 := hr.cell1
        have MM := Lib.hid hm
        clear hm hr hone hinf hfl2
        cases ib with
        | true =>
          have hfe : E = 130 := by rw [← HE.out]; exact checkE_cls k HKC.out (by rw [HCLB.out]; rfl)
          subst hfe
          go_wp2
          go_ret
          exact ⟨rfl, by first | exact MM.out.bel | (rw [hB]; exact MM.out.bel)⟩
        | false =>
          cases sb with
          | false =>
            have hfe : E = 130 := by rw [← HE.out]; exact checkE_cls k HKC.out (by rw [HCLB.out]; rfl)
            subst hfe
            go_wp2_with fail
            refine (HSMALL.out _).mono ?_
            rintro e w' ⟨rfl, rfl⟩
            go_wp2
            go_ret
            exact ⟨rfl, by first | exact MM.out.bel | (rw [hB]; exact MM.out.bel)⟩
          | true =>
            by_cases hkp1 : kp < 1
            · have e2 : decide (kp < 1) = true := decide_eq_true hkp1
              have hfe : E = 130 := by rw [← HE.out]; exact checkE_cls k HKC.out (by rw [HCLB.out, decide_eq_false (by omega)]; rfl)
              subst hfe
              go_wp2_with fail
              refine (HSMALL.out _).mono ?_
              rintro e w' ⟨rfl, rfl⟩
              go_wp2
              go_ret
              exact ⟨rfl, by first | exact MM.out.bel | (rw [hB]; exact MM.out.bel)⟩
            · have e2 : decide (kp < 1) = false := decide_eq_false hkp1
              have hcn : clsN cs (k + 1) = true := by rw [HCLB.out, decide_eq_true (by omega)]; rfl
              have HCN := Lib.hid hcn
              clear hcn
              go_wp2_with fail
              refine (HSMALL.out _).mono ?_
              rintro e w' ⟨rfl, rfl⟩
              go_wp2
              go_roundw
              case rel => exact ⟨k + 1, ⟨by go_num, by omega⟩, HCN.out, MM.out⟩
              case measure => simp [intOf]; omega
    · have hkn : k = n := by omega
      subst hkn
      have hall : clsN cs cs.length = true := by rw [HN.out]; exact hno.out
      have HALL := Lib.hid hall
      have M1 := Lib.hid hmi
      clear hall hmi hno hlt
      go_wp2
      go_loopw [57, 10, 11, 12] (fun i x1 x2 x3 wr => ∃ j : Nat, (i = .int .i64 (j : Int) ∧ j ≤ m) ∧ Hid ((rs.take j).all (ruleB cs) = true) ∧ Mine B w wr) (fun i _ _ _ _ => m - (intOf i).toNat)
      case atStart => exact ⟨0, ⟨rfl, Nat.zero_le _⟩, rfl, M1.out⟩
      case round =>
        clear M1
        obtain ⟨j, ⟨rfl, hj⟩, hno, hmi⟩ := hrel
        by_cases hlt : j < m
        · have hjc : j < rs.length := by rw [HM.out]; exact hlt
          obtain ⟨g, o, rfl, c0, c1⟩ := (HU.out.below (hB ▸ hmi.bel)).at_ j _ (ruV_get rs j hjc)
          dsimp only at c0 c1
          obtain ⟨hs1, hs2⟩ := HRS.out _ (List.getElem_mem hjc)
          have hsn := all_snocS (ruleB cs) rs j hjc
          rw [hno.out, Bool.true_and] at hsn
          have hxe := checkE_rule (cs := cs) j hjc
          obtain ⟨dm, hdm⟩ : ∃ nm, rs[j].1 = nm := ⟨_, rfl⟩
          obtain ⟨cl, hcl⟩ : ∃ nm, rs[j].2 = nm := ⟨_, rfl⟩
          have hrj : rs[j] = (dm, cl) := by rw [← hdm, ← hcl]
          rw [hdm] at c0 hs1
          rw [hcl] at c1 hs2
          rw [hrj] at hsn hxe
          have hfd := fun w' (hb : Below B w w') => rfind_any _ cs cl w' (HV.out.below (by rw [hB]; exact hb))
          obtain ⟨fo, hfo⟩ : ∃ fo, findC cs cl = fo := ⟨_, rfl⟩
          simp only [hfo] at hfd
          obtain ⟨fx, hfx⟩ : ∃ x, clName fo = x := ⟨_, rfl⟩
          obtain ⟨fy, hfy⟩ : ∃ x, clKeep fo = x := ⟨_, rfl⟩
          obtain ⟨ib, hib⟩ : ∃ ib, fo.isSome = ib := ⟨_, rfl⟩
          rw [hfx, hfy, hib] at hfd
          have hrow : Row (wr.alloc (.cells #[.string dm, .string cl] 78)) wr.heap.size 78 [.string dm, .string cl] := Row.new wr _ _
          have m1 := hmi.alloc (.cells #[.string dm, .string cl] 78)
          have HFD := Lib.hid hfd
          have HSN := Lib.hid hsn
          have HXE := Lib.hid hxe
          have HR1 := Lib.hid hrow
          have M1 := Lib.hid m1
          have hrb : ruleB cs (dm, cl) = (ib && domB (bl dm) && ofN notUp (bl dm)) := by unfold ruleB; rw [hfo, hib]
          have HRB := Lib.hid hrb
          have d0 : decide (j < m) = true := decide_eq_true hlt
          have k0 : (0 : Int) ≤ (j : Int) := by omega
          have k1 : (j : Int) < (m : Int) := by omega
          have hBw := hmi.le
          clear hsn hxe hdm hcl hrj hmi hno hjc hrow m1 hfd hfo hfx hfy hib hrb
          go_wp2_with fail
          refine (HFD.out _ M1.out.bel).mono ?_
          rintro e w2 ⟨rfl, hb2⟩
          have r2 := (HR1.out.belowS hb2).alloc (.cells #[.string fx, .int .i64 fy] 56)
          have m2 := (Mine.call hb2 M1.out).alloc (.cells #[.string fx, .int .i64 fy] 56)
          have R2 := Lib.hid r2
          have M2 := Lib.hid m2
          clear r2 m2 hb2 HFD
          go_wp2_with fail
          cases ib with
          | false =>
            have hfe : E = 130 := by rw [← HE.out]; exact HXE.out (by rw [HRB.out]; rfl)
            subst hfe
            go_quiet (fail)
            go_wp2
            go_ret
            exact ⟨rfl, by first | exact below_drewN M2.out.bel _ | (rw [hB]; exact below_drewN M2.out.bel _)⟩
          | true =>
            have hdom := fun w => rdomain_any dm hs1 w
            obtain ⟨db, hdb⟩ : ∃ db, domB (bl dm) = db := ⟨_, rfl⟩
            simp only [hdb] at hdom
            have HDOM := Lib.hid hdom
            have HDB := Lib.hid hdb
            clear hdom hdb
            cases db with
            | false =>
              have hfe : E = 130 := by rw [← HE.out]; exact HXE.out (by rw [HRB.out, HDB.out]; rfl)
              subst hfe
              refine wp_region_noPanic ?_
              refine wp_region_held_drew (S := (fun w' => (Mine B w w' ∧ Row w' wr.heap.size 78 [.string dm, .string cl]) ∧ w'.cell? ⟨wr.heap.size, 0, none⟩ = some (.string dm))) (by kernel_rfl) ?_ (fun hHeld => ?_)
              · exact ⟨⟨M2.out.drew, R2.out⟩, Row.cell0 R2.out⟩
              refine wpAnyH_take (i := 0) (oi := { dst := some 68, op := Op.move (Operand.tmp 12), type := 4, pos := "ref.go:49", after := #[], guard := none }) (v := ?v0_11) rfl (by kernel_rfl) (by kernel_rfl) (by kernel_rfl) (fun _ _ _ h => h) (Or.inl ⟨by rfl, ?y0_11⟩) (by assumption) ?r0_11
              case y0_11 => intro w hSw; (try dsimp only at hSw); go_simp; try with_reducible rfl
              try simp only [Act.put, List.setIfInBounds_toArray, List.set_cons_zero, List.set_cons_succ]
              refine wpAnyH_take (i := 1) (oi := { dst := some 69, op := Op.unOp UnOp.not 4 (Operand.tmp 68), type := 4, pos := "ref.go:49", after := #[{ on := 0, ground := Ground.data }], guard := none }) (v := ?v1_12) rfl (by kernel_rfl) (by kernel_rfl) (by kernel_rfl) (fun _ _ _ h => h) (Or.inl ⟨by rfl, ?y1_12⟩) (by assumption) ?r1_12
              case y1_12 => intro w hSw; (try dsimp only at hSw); go_simp; try with_reducible rfl
              try simp only [Act.put, List.setIfInBounds_toArray, List.set_cons_zero, List.set_cons_succ]
              refine wpAnyH_take (i := 2) (oi := { dst := some 70, op := Op.move (Operand.tmp 69), type := 4, pos := "ref.go:49", after := #[{ on := 1, ground := Ground.data }], guard := none }) (v := ?v2_13) rfl (by kernel_rfl) (by kernel_rfl) (by kernel_rfl) (fun _ _ _ h => h) (Or.inl ⟨by rfl, ?y2_13⟩) (by assumption) ?r2_13
              case y2_13 => intro w hSw; (try dsimp only at hSw); go_simp; try with_reducible rfl
              try simp only [Act.put, List.setIfInBounds_toArray, List.set_cons_zero, List.set_cons_succ]
              refine wpAnyH_take (i := 3) (oi := { dst := some 71, op := Op.fieldAddr 78 (Operand.tmp 10) 0, type := 0, pos := "ref.go:49", after := #[{ on := 2, ground := Ground.guard }], guard := some (2, false) }) (v := ?v3_14) rfl (by kernel_rfl) (by kernel_rfl) (by kernel_rfl) (fun _ _ _ h => h) (Or.inl ⟨by rfl, ?y3_14⟩) (by assumption) ?r3_14
              case y3_14 => intro w hSw; (try dsimp only at hSw); go_simp; try with_reducible rfl
              try simp only [Act.put, List.setIfInBounds_toArray, List.set_cons_zero, List.set_cons_succ]
              refine wpAnyH_take (i := 4) (oi := { dst := some 72, op := Op.load 9 (Operand.tmp 71), type := 9, pos := "ref.go:49", after := #[{ on := 3, ground := Ground.data }, { on := 2, ground := Ground.guard }], guard := some (2, false) }) (v := ?v4_15) rfl (by kernel_rfl) (by kernel_rfl) (by kernel_rfl) (fun _ _ _ h => h) (Or.inl ⟨by rfl, ?y4_15⟩) (by assumption) ?r4_15
              case y4_15 => intro w hSw; (try dsimp only at hSw); go_simp; try with_reducible rfl
              try simp only [Act.put, List.setIfInBounds_toArray, List.set_cons_zero, List.set_cons_succ]
              refine wpAnyH_ready (rs := [5]) (by kernel_rfl) (by simp) (AllReadyH.cons (o := { dst := some 73, op := Op.call { callee := Callee.value (Operand.func 22), args := #[Operand.tmp 72], argTypes := #[9] }, type := 4, pos := "ref.go:49", after := #[{ on := 4, ground := Ground.data }, { on := 2, ground := Ground.chain }, { on := 2, ground := Ground.guard }], guard := some (2, false) }) rfl (fun K hK => ?_) AllReadyH.nil)
              go_simp
              refine (HDOM.out _).mono ?_; rintro e w3 ⟨rfl, hb3⟩
              go_wp2_with fail
              refine hK.out _ _ ?_ (fun hHeld => ?_)
              · (try dsimp only); (go_split_ands; (repeat' apply And.intro) <;> first | assumption | exact Mine.call (by assumption) (by assumption) | exact Row.belowS (by assumption) (by assumption) | exact Row.cell0 (Row.belowS (by assumption) (by assumption)))
              clear hK K
              try simp only [Act.put, List.setIfInBounds_toArray, List.set_cons_zero, List.set_cons_succ]
              refine wpAnyH_take (i := 6) (oi := { dst := some 74, op := Op.unOp UnOp.not 4 (Operand.tmp 73), type := 4, pos := "ref.go:49", after := #[{ on := 5, ground := Ground.data }, { on := 2, ground := Ground.guard }], guard := some (2, false) }) (v := ?v6_16) rfl (by kernel_rfl) (by kernel_rfl) (by kernel_rfl) (fun _ _ _ h => h) (Or.inl ⟨by rfl, ?y6_16⟩) (by assumption) ?r6_16
              case y6_16 => intro w hSw; (try dsimp only at hSw); go_simp; try with_reducible rfl
              try simp only [Act.put, List.setIfInBounds_toArray, List.set_cons_zero, List.set_cons_succ]
              refine wpAnyH_take (i := 7) (oi := { dst := some 75, op := Op.pick (Operand.tmp 70) (Operand.const (Value.bool true)) (Operand.tmp 74), type := 4, pos := "ref.go:49", after := #[{ on := 2, ground := Ground.data }, { on := 6, ground := Ground.data }], guard := none }) (v := ?v7_17) rfl (by kernel_rfl) (by kernel_rfl) (by kernel_rfl) (fun _ _ _ h => h) (Or.inl ⟨by rfl, ?y7_17⟩) (by assumption) ?r7_17
              case y7_17 => intro w hSw; (try dsimp only at hSw); go_simp; try with_reducible rfl
              try simp only [Act.put, List.setIfInBounds_toArray, List.set_cons_zero, List.set_cons_succ]
              refine wpAnyH_take (i := 8) (oi := { dst := some 76, op := Op.move (Operand.tmp 75), type := 4, pos := "ref.go:49", after := #[{ on := 7, ground := Ground.data }, { on := 5, ground := Ground.chain }], guard := none }) (v := ?v8_18) rfl (by kernel_rfl) (by kernel_rfl) (by kernel_rfl) (fun _ _ _ h => h) (Or.inl ⟨by rfl, ?y8_18⟩) (by assumption) ?r8_18
              case y8_18 => intro w hSw; (try dsimp only at hSw); go_simp; try with_reducible rfl
              try simp only [Act.put, List.setIfInBounds_toArray, List.set_cons_zero, List.set_cons_succ]
              refine wpAnyH_take (i := 9) (oi := { dst := some 77, op := Op.fieldAddr 78 (Operand.tmp 10) 0, type := 0, pos := "ref.go:49", after := #[{ on := 8, ground := Ground.guard }], guard := some (8, false) }) (v := undef) rfl (by kernel_rfl) (by kernel_rfl) (by kernel_rfl) (fun _ _ _ h => h) (Or.inr ⟨by rfl, rfl⟩) (by assumption) ?_
              try simp only [Act.put, List.setIfInBounds_toArray, List.set_cons_zero, List.set_cons_succ]
              refine wpAnyH_take (i := 10) (oi := { dst := some 78, op := Op.load 9 (Operand.tmp 77), type := 9, pos := "ref.go:49", after := #[{ on := 9, ground := Ground.data }, { on := 8, ground := Ground.guard }], guard := some (8, false) }) (v := undef) rfl (by kernel_rfl) (by kernel_rfl) (by kernel_rfl) (fun _ _ _ h => h) (Or.inr ⟨by rfl, rfl⟩) (by assumption) ?_
              try simp only [Act.put, List.setIfInBounds_toArray, List.set_cons_zero, List.set_cons_succ]
              refine wpAnyH_take (i := 11) (oi := { dst := some 79, op := Op.call { callee := Callee.value (Operand.func 65), args := #[Operand.tmp 78], argTypes := #[9] }, type := 9, pos := "ref.go:49", after := #[{ on := 10, ground := Ground.data }, { on := 8, ground := Ground.chain }, { on := 8, ground := Ground.guard }], guard := some (8, false) }) (v := undef) rfl (by kernel_rfl) (by kernel_rfl) (by kernel_rfl) (fun _ _ _ h => h) (Or.inr ⟨by rfl, rfl⟩) (by assumption) ?_
              try simp only [Act.put, List.setIfInBounds_toArray, List.set_cons_zero, List.set_cons_succ]
              refine wpAnyH_take (i := 12) (oi := { dst := some 80, op := Op.fieldAddr 78 (Operand.tmp 10) 0, type := 0, pos := "ref.go:49", after := #[{ on := 8, ground := Ground.guard }], guard := some (8, false) }) (v := undef) rfl (by kernel_rfl) (by kernel_rfl) (by kernel_rfl) (fun _ _ _ h => h) (Or.inr ⟨by rfl, rfl⟩) (by assumption) ?_
              try simp only [Act.put, List.setIfInBounds_toArray, List.set_cons_zero, List.set_cons_succ]
              refine wpAnyH_take (i := 13) (oi := { dst := some 81, op := Op.load 9 (Operand.tmp 80), type := 9, pos := "ref.go:49", after := #[{ on := 12, ground := Ground.data }, { on := 8, ground := Ground.guard }], guard := some (8, false) }) (v := undef) rfl (by kernel_rfl) (by kernel_rfl) (by kernel_rfl) (fun _ _ _ h => h) (Or.inr ⟨by rfl, rfl⟩) (by assumption) ?_
              try simp only [Act.put, List.setIfInBounds_toArray, List.set_cons_zero, List.set_cons_succ]
              refine wpAnyH_take (i := 14) (oi := { dst := some 82, op := Op.binOp BinOp.neq 9 (Operand.tmp 79) (Operand.tmp 81) 9, type := 4, pos := "ref.go:49", after := #[{ on := 11, ground := Ground.data }, { on := 13, ground := Ground.data }, { on := 8, ground := Ground.guard }], guard := some (8, false) }) (v := undef) rfl (by kernel_rfl) (by kernel_rfl) (by kernel_rfl) (fun _ _ _ h => h) (Or.inr ⟨by rfl, rfl⟩) (by assumption) ?_
              try simp only [Act.put, List.setIfInBounds_toArray, List.set_cons_zero, List.set_cons_succ]
              refine wpAnyH_take (i := 15) (oi := { dst := some 83, op := Op.pick (Operand.tmp 76) (Operand.const (Value.bool true)) (Operand.tmp 82), type := 4, pos := "ref.go:49", after := #[{ on := 8, ground := Ground.data }, { on := 14, ground := Ground.data }], guard := none }) (v := ?v15_19) rfl (by kernel_rfl) (by kernel_rfl) (by kernel_rfl) (fun _ _ _ h => h) (Or.inl ⟨by rfl, ?y15_19⟩) (by assumption) ?r15_19
              case y15_19 => intro w hSw; (try dsimp only at hSw); go_simp; try with_reducible rfl
              try simp only [Act.put, List.setIfInBounds_toArray, List.set_cons_zero, List.set_cons_succ]
              refine wpAnyH_done (by kernel_rfl) ?_ _
              refine NoPanic.normal ?_
              have hm := hHeld.1.1
              have MM := Lib.hid hm
              clear hHeld hm
              go_wp2
              go_ret
              exact ⟨rfl, by first | exact MM.out.bel | (rw [hB]; exact MM.out.bel)⟩
            | true =>
              have hlow := fun w => lower_any dm hs1 w
              obtain ⟨z, hz⟩ : ∃ z : ByteArray, St (lowL (bl dm)) = .string z := ⟨_, rfl⟩
              have hzb : bl z = lowL (bl dm) := by rw [← Value.string.inj hz]; exact bl_mk _
              simp only [hz] at hlow
              have HLOW := Lib.hid hlow
              obtain ⟨lb, hlb⟩ : ∃ lb, ofN notUp (bl dm) = lb := ⟨_, rfl⟩
              have hne : (z.toList != dm.toList) = !lb := by rw [bne, toList_bl, toList_bl, hzb, lowL_self, hlb]
              have hne2 : (z.toList == dm.toList) = lb := by rw [toList_bl, toList_bl, hzb, lowL_self, hlb]
              have HLB := Lib.hid hlb
              clear hlow hz hzb hlb
              cases lb with
              | false =>
                have hfe : E = 130 := by rw [← HE.out]; exact HXE.out (by rw [HRB.out, HDB.out, HLB.out]; rfl)
                subst hfe
                refine wp_region_noPanic ?_
                refine wp_region_held_drew (S := (fun w' => (Mine B w w' ∧ Row w' wr.heap.size 78 [.string dm, .string cl]) ∧ w'.cell? ⟨wr.heap.size, 0, none⟩ = some (.string dm))) (by kernel_rfl) ?_ (fun hHeld => ?_)
                · exact ⟨⟨M2.out.drew, R2.out⟩, Row.cell0 R2.out⟩
                refine wpAnyH_take (i := 0) (oi := { dst := some 68, op := Op.move (Operand.tmp 12), type := 4, pos := "ref.go:49", after := #[], guard := none }) (v := ?v0_20) rfl (by kernel_rfl) (by kernel_rfl) (by kernel_rfl) (fun _ _ _ h => h) (Or.inl ⟨by rfl, ?y0_20⟩) (by assumption) ?r0_20
                case y0_20 => intro w hSw; (try dsimp only at hSw); go_simp; try with_reducible rfl
                try simp only [Act.put, List.setIfInBounds_toArray, List.set_cons_zero, List.set_cons_succ]
                refine wpAnyH_take (i := 1) (oi := { dst := some 69, op := Op.unOp UnOp.not 4 (Operand.tmp 68), type := 4, pos := "ref.go:49", after := #[{ on := 0, ground := Ground.data }], guard := none }) (v := ?v1_21) rfl (by kernel_rfl) (by kernel_rfl) (by kernel_rfl) (fun _ _ _ h => h) (Or.inl ⟨by rfl, ?y1_21⟩) (by assumption) ?r1_21
                case y1_21 => intro w hSw; (try dsimp only at hSw); go_simp; try with_reducible rfl
                try simp only [Act.put, List.setIfInBounds_toArray, List.set_cons_zero, List.set_cons_succ]
                refine wpAnyH_take (i := 2) (oi := { dst := some 70, op := Op.move (Operand.tmp 69), type := 4, pos := "ref.go:49", after := #[{ on := 1, ground := Ground.data }], guard := none }) (v := ?v2_22) rfl (by kernel_rfl) (by kernel_rfl) (by kernel_rfl) (fun _ _ _ h => h) (Or.inl ⟨by rfl, ?y2_22⟩) (by assumption) ?r2_22
                case y2_22 => intro w hSw; (try dsimp only at hSw); go_simp; try with_reducible rfl
                try simp only [Act.put, List.setIfInBounds_toArray, List.set_cons_zero, List.set_cons_succ]
                refine wpAnyH_take (i := 3) (oi := { dst := some 71, op := Op.fieldAddr 78 (Operand.tmp 10) 0, type := 0, pos := "ref.go:49", after := #[{ on := 2, ground := Ground.guard }], guard := some (2, false) }) (v := ?v3_23) rfl (by kernel_rfl) (by kernel_rfl) (by kernel_rfl) (fun _ _ _ h => h) (Or.inl ⟨by rfl, ?y3_23⟩) (by assumption) ?r3_23
                case y3_23 => intro w hSw; (try dsimp only at hSw); go_simp; try with_reducible rfl
                try simp only [Act.put, List.setIfInBounds_toArray, List.set_cons_zero, List.set_cons_succ]
                refine wpAnyH_take (i := 4) (oi := { dst := some 72, op := Op.load 9 (Operand.tmp 71), type := 9, pos := "ref.go:49", after := #[{ on := 3, ground := Ground.data }, { on := 2, ground := Ground.guard }], guard := some (2, false) }) (v := ?v4_24) rfl (by kernel_rfl) (by kernel_rfl) (by kernel_rfl) (fun _ _ _ h => h) (Or.inl ⟨by rfl, ?y4_24⟩) (by assumption) ?r4_24
                case y4_24 => intro w hSw; (try dsimp only at hSw); go_simp; try with_reducible rfl
                try simp only [Act.put, List.setIfInBounds_toArray, List.set_cons_zero, List.set_cons_succ]
                refine wpAnyH_ready (rs := [5]) (by kernel_rfl) (by simp) (AllReadyH.cons (o := { dst := some 73, op := Op.call { callee := Callee.value (Operand.func 22), args := #[Operand.tmp 72], argTypes := #[9] }, type := 4, pos := "ref.go:49", after := #[{ on := 4, ground := Ground.data }, { on := 2, ground := Ground.chain }, { on := 2, ground := Ground.guard }], guard := some (2, false) }) rfl (fun K hK => ?_) AllReadyH.nil)
                go_simp
                refine (HDOM.out _).mono ?_; rintro e w3 ⟨rfl, hb3⟩
                go_wp2_with fail
                refine hK.out _ _ ?_ (fun hHeld => ?_)
                · (try dsimp only); (go_split_ands; (repeat' apply And.intro) <;> first | assumption | exact Mine.call (by assumption) (by assumption) | exact Row.belowS (by assumption) (by assumption) | exact Row.cell0 (Row.belowS (by assumption) (by assumption)))
                clear hK K
                try simp only [Act.put, List.setIfInBounds_toArray, List.set_cons_zero, List.set_cons_succ]
                refine wpAnyH_take (i := 6) (oi := { dst := some 74, op := Op.unOp UnOp.not 4 (Operand.tmp 73), type := 4, pos := "ref.go:49", after := #[{ on := 5, ground := Ground.data }, { on := 2, ground := Ground.guard }], guard := some (2, false) }) (v := ?v6_25) rfl (by kernel_rfl) (by kernel_rfl) (by kernel_rfl) (fun _ _ _ h => h) (Or.inl ⟨by rfl, ?y6_25⟩) (by assumption) ?r6_25
                case y6_25 => intro w hSw; (try dsimp only at hSw); go_simp; try with_reducible rfl
                try simp only [Act.put, List.setIfInBounds_toArray, List.set_cons_zero, List.set_cons_succ]
                refine wpAnyH_take (i := 7) (oi := { dst := some 75, op := Op.pick (Operand.tmp 70) (Operand.const (Value.bool true)) (Operand.tmp 74), type := 4, pos := "ref.go:49", after := #[{ on := 2, ground := Ground.data }, { on := 6, ground := Ground.data }], guard := none }) (v := ?v7_26) rfl (by kernel_rfl) (by kernel_rfl) (by kernel_rfl) (fun _ _ _ h => h) (Or.inl ⟨by rfl, ?y7_26⟩) (by assumption) ?r7_26
                case y7_26 => intro w hSw; (try dsimp only at hSw); go_simp; try with_reducible rfl
                try simp only [Act.put, List.setIfInBounds_toArray, List.set_cons_zero, List.set_cons_succ]
                refine wpAnyH_take (i := 8) (oi := { dst := some 76, op := Op.move (Operand.tmp 75), type := 4, pos := "ref.go:49", after := #[{ on := 7, ground := Ground.data }, { on := 5, ground := Ground.chain }], guard := none }) (v := ?v8_27) rfl (by kernel_rfl) (by kernel_rfl) (by kernel_rfl) (fun _ _ _ h => h) (Or.inl ⟨by rfl, ?y8_27⟩) (by assumption) ?r8_27
                case y8_27 => intro w hSw; (try dsimp only at hSw); go_simp; try with_reducible rfl
                try simp only [Act.put, List.setIfInBounds_toArray, List.set_cons_zero, List.set_cons_succ]
                refine wpAnyH_take (i := 9) (oi := { dst := some 77, op := Op.fieldAddr 78 (Operand.tmp 10) 0, type := 0, pos := "ref.go:49", after := #[{ on := 8, ground := Ground.guard }], guard := some (8, false) }) (v := ?v9_28) rfl (by kernel_rfl) (by kernel_rfl) (by kernel_rfl) (fun _ _ _ h => h) (Or.inl ⟨by rfl, ?y9_28⟩) (by assumption) ?r9_28
                case y9_28 => intro w hSw; (try dsimp only at hSw); go_simp; try with_reducible rfl
                try simp only [Act.put, List.setIfInBounds_toArray, List.set_cons_zero, List.set_cons_succ]
                refine wpAnyH_take (i := 10) (oi := { dst := some 78, op := Op.load 9 (Operand.tmp 77), type := 9, pos := "ref.go:49", after := #[{ on := 9, ground := Ground.data }, { on := 8, ground := Ground.guard }], guard := some (8, false) }) (v := ?v10_29) rfl (by kernel_rfl) (by kernel_rfl) (by kernel_rfl) (fun _ _ _ h => h) (Or.inl ⟨by rfl, ?y10_29⟩) (by assumption) ?r10_29
                case y10_29 => intro w hSw; (try dsimp only at hSw); go_simp; try with_reducible rfl
                try simp only [Act.put, List.setIfInBounds_toArray, List.set_cons_zero, List.set_cons_succ]
                refine wpAnyH_take (i := 12) (oi := { dst := some 80, op := Op.fieldAddr 78 (Operand.tmp 10) 0, type := 0, pos := "ref.go:49", after := #[{ on := 8, ground := Ground.guard }], guard := some (8, false) }) (v := ?v12_30) rfl (by kernel_rfl) (by kernel_rfl) (by kernel_rfl) (fun _ _ _ h => h) (Or.inl ⟨by rfl, ?y12_30⟩) (by assumption) ?r12_30
                case y12_30 => intro w hSw; (try dsimp only at hSw); go_simp; try with_reducible rfl
                try simp only [Act.put, List.setIfInBounds_toArray, List.set_cons_zero, List.set_cons_succ]
                refine wpAnyH_take (i := 13) (oi := { dst := some 81, op := Op.load 9 (Operand.tmp 80), type := 9, pos := "ref.go:49", after := #[{ on := 12, ground := Ground.data }, { on := 8, ground := Ground.guard }], guard := some (8, false) }) (v := ?v13_31) rfl (by kernel_rfl) (by kernel_rfl) (by kernel_rfl) (fun _ _ _ h => h) (Or.inl ⟨by rfl, ?y13_31⟩) (by assumption) ?r13_31
                case y13_31 => intro w hSw; (try dsimp only at hSw); go_simp; try with_reducible rfl
                try simp only [Act.put, List.setIfInBounds_toArray, List.set_cons_zero, List.set_cons_succ]
                refine wpAnyH_ready (rs := [11]) (by kernel_rfl) (by simp) (AllReadyH.cons (o := { dst := some 79, op := Op.call { callee := Callee.value (Operand.func 65), args := #[Operand.tmp 78], argTypes := #[9] }, type := 9, pos := "ref.go:49", after := #[{ on := 10, ground := Ground.data }, { on := 8, ground := Ground.chain }, { on := 8, ground := Ground.guard }], guard := some (8, false) }) rfl (fun K hK => ?_) AllReadyH.nil)
                go_simp
                refine (HLOW.out _).mono ?_; rintro e w4 ⟨rfl, hb4⟩
                go_wp2_with fail
                refine hK.out _ _ ?_ (fun hHeld => ?_)
                · (try dsimp only); (go_split_ands; (repeat' apply And.intro) <;> first | assumption | exact Mine.call (by assumption) (by assumption) | exact Row.belowS (by assumption) (by assumption) | exact Row.cell0 (Row.belowS (by assumption) (by assumption)))
                clear hK K
                try simp only [Act.put, List.setIfInBounds_toArray, List.set_cons_zero, List.set_cons_succ]
                refine wpAnyH_take (i := 14) (oi := { dst := some 82, op := Op.binOp BinOp.neq 9 (Operand.tmp 79) (Operand.tmp 81) 9, type := 4, pos := "ref.go:49", after := #[{ on := 11, ground := Ground.data }, { on := 13, ground := Ground.data }, { on := 8, ground := Ground.guard }], guard := some (8, false) }) (v := ?v14_32) rfl (by kernel_rfl) (by kernel_rfl) (by kernel_rfl) (fun _ _ _ h => h) (Or.inl ⟨by rfl, ?y14_32⟩) (by assumption) ?r14_32
                case y14_32 => intro w hSw; (try dsimp only at hSw); go_simp; try with_reducible rfl
                try simp only [Act.put, List.setIfInBounds_toArray, List.set_cons_zero, List.set_cons_succ]
                refine wpAnyH_take (i := 15) (oi := { dst := some 83, op := Op.pick (Operand.tmp 76) (Operand.const (Value.bool true)) (Operand.tmp 82), type := 4, pos := "ref.go:49", after := #[{ on := 8, ground := Ground.data }, { on := 14, ground := Ground.data }], guard := none }) (v := ?v15_33) rfl (by kernel_rfl) (by kernel_rfl) (by kernel_rfl) (fun _ _ _ h => h) (Or.inl ⟨by rfl, ?y15_33⟩) (by assumption) ?r15_33
                case y15_33 => intro w hSw; (try dsimp only at hSw); go_simp; try with_reducible rfl
                try simp only [Act.put, List.setIfInBounds_toArray, List.set_cons_zero, List.set_cons_succ]
                refine wpAnyH_done (by kernel_rfl) ?_ _
                refine NoPanic.normal ?_
                have hm := hHeld.1.1
                have MM := Lib.hid hm
                clear hHeld hm
                go_wp2
                go_ret
                exact ⟨rfl, by first | exact MM.out.bel | (rw [hB]; exact MM.out.bel)⟩
              | true =>
                refine wp_region_noPanic ?_
                refine wp_region_held_drew (S := (fun w' => (Mine B w w' ∧ Row w' wr.heap.size 78 [.string dm, .string cl]) ∧ w'.cell? ⟨wr.heap.size, 0, none⟩ = some (.string dm))) (by kernel_rfl) ?_ (fun hHeld => ?_)
                · exact ⟨⟨M2.out.drew, R2.out⟩, Row.cell0 R2.out⟩
                refine wpAnyH_take (i := 0) (oi := { dst := some 68, op := Op.move (Operand.tmp 12), type := 4, pos := "ref.go:49", after := #[], guard := none }) (v := ?v0_34) rfl (by kernel_rfl) (by kernel_rfl) (by kernel_rfl) (fun _ _ _ h => h) (Or.inl ⟨by rfl, ?y0_34⟩) (by assumption) ?r0_34
                case y0_34 => intro w hSw; (try dsimp only at hSw); go_simp; try with_reducible rfl
                try simp only [Act.put, List.setIfInBounds_toArray, List.set_cons_zero, List.set_cons_succ]
                refine wpAnyH_take (i := 1) (oi := { dst := some 69, op := Op.unOp UnOp.not 4 (Operand.tmp 68), type := 4, pos := "ref.go:49", after := #[{ on := 0, ground := Ground.data }], guard := none }) (v := ?v1_35) rfl (by kernel_rfl) (by kernel_rfl) (by kernel_rfl) (fun _ _ _ h => h) (Or.inl ⟨by rfl, ?y1_35⟩) (by assumption) ?r1_35
                case y1_35 => intro w hSw; (try dsimp only at hSw); go_simp; try with_reducible rfl
                try simp only [Act.put, List.setIfInBounds_toArray, List.set_cons_zero, List.set_cons_succ]
                refine wpAnyH_take (i := 2) (oi := { dst := some 70, op := Op.move (Operand.tmp 69), type := 4, pos := "ref.go:49", after := #[{ on := 1, ground := Ground.data }], guard := none }) (v := ?v2_36) rfl (by kernel_rfl) (by kernel_rfl) (by kernel_rfl) (fun _ _ _ h => h) (Or.inl ⟨by rfl, ?y2_36⟩) (by assumption) ?r2_36
                case y2_36 => intro w hSw; (try dsimp only at hSw); go_simp; try with_reducible rfl
                try simp only [Act.put, List.setIfInBounds_toArray, List.set_cons_zero, List.set_cons_succ]
                refine wpAnyH_take (i := 3) (oi := { dst := some 71, op := Op.fieldAddr 78 (Operand.tmp 10) 0, type := 0, pos := "ref.go:49", after := #[{ on := 2, ground := Ground.guard }], guard := some (2, false) }) (v := ?v3_37) rfl (by kernel_rfl) (by kernel_rfl) (by kernel_rfl) (fun _ _ _ h => h) (Or.inl ⟨by rfl, ?y3_37⟩) (by assumption) ?r3_37
                case y3_37 => intro w hSw; (try dsimp only at hSw); go_simp; try with_reducible rfl
                try simp only [Act.put, List.setIfInBounds_toArray, List.set_cons_zero, List.set_cons_succ]
                refine wpAnyH_take (i := 4) (oi := { dst := some 72, op := Op.load 9 (Operand.tmp 71), type := 9, pos := "ref.go:49", after := #[{ on := 3, ground := Ground.data }, { on := 2, ground := Ground.guard }], guard := some (2, false) }) (v := ?v4_38) rfl (by kernel_rfl) (by kernel_rfl) (by kernel_rfl) (fun _ _ _ h => h) (Or.inl ⟨by rfl, ?y4_38⟩) (by assumption) ?r4_38
                case y4_38 => intro w hSw; (try dsimp only at hSw); go_simp; try with_reducible rfl
                try simp only [Act.put, List.setIfInBounds_toArray, List.set_cons_zero, List.set_cons_succ]
                refine wpAnyH_ready (rs := [5]) (by kernel_rfl) (by simp) (AllReadyH.cons (o := { dst := some 73, op := Op.call { callee := Callee.value (Operand.func 22), args := #[Operand.tmp 72], argTypes := #[9] }, type := 4, pos := "ref.go:49", after := #[{ on := 4, ground := Ground.data }, { on := 2, ground := Ground.chain }, { on := 2, ground := Ground.guard }], guard := some (2, false) }) rfl (fun K hK => ?_) AllReadyH.nil)
                go_simp
                refine (HDOM.out _).mono ?_; rintro e w3 ⟨rfl, hb3⟩
                go_wp2_with fail
                refine hK.out _ _ ?_ (fun hHeld => ?_)
                · (try dsimp only); (go_split_ands; (repeat' apply And.intro) <;> first | assumption | exact Mine.call (by assumption) (by assumption) | exact Row.belowS (by assumption) (by assumption) | exact Row.cell0 (Row.belowS (by assumption) (by assumption)))
                clear hK K
                try simp only [Act.put, List.setIfInBounds_toArray, List.set_cons_zero, List.set_cons_succ]
                refine wpAnyH_take (i := 6) (oi := { dst := some 74, op := Op.unOp UnOp.not 4 (Operand.tmp 73), type := 4, pos := "ref.go:49", after := #[{ on := 5, ground := Ground.data }, { on := 2, ground := Ground.guard }], guard := some (2, false) }) (v := ?v6_39) rfl (by kernel_rfl) (by kernel_rfl) (by kernel_rfl) (fun _ _ _ h => h) (Or.inl ⟨by rfl, ?y6_39⟩) (by assumption) ?r6_39
                case y6_39 => intro w hSw; (try dsimp only at hSw); go_simp; try with_reducible rfl
                try simp only [Act.put, List.setIfInBounds_toArray, List.set_cons_zero, List.set_cons_succ]
                refine wpAnyH_take (i := 7) (oi := { dst := some 75, op := Op.pick (Operand.tmp 70) (Operand.const (Value.bool true)) (Operand.tmp 74), type := 4, pos := "ref.go:49", after := #[{ on := 2, ground := Ground.data }, { on := 6, ground := Ground.data }], guard := none }) (v := ?v7_40) rfl (by kernel_rfl) (by kernel_rfl) (by kernel_rfl) (fun _ _ _ h => h) (Or.inl ⟨by rfl, ?y7_40⟩) (by assumption) ?r7_40
                case y7_40 => intro w hSw; (try dsimp only at hSw); go_simp; try with_reducible rfl
                try simp only [Act.put, List.setIfInBounds_toArray, List.set_cons_zero, List.set_cons_succ]
                refine wpAnyH_take (i := 8) (oi := { dst := some 76, op := Op.move (Operand.tmp 75), type := 4, pos := "ref.go:49", after := #[{ on := 7, ground := Ground.data }, { on := 5, ground := Ground.chain }], guard := none }) (v := ?v8_41) rfl (by kernel_rfl) (by kernel_rfl) (by kernel_rfl) (fun _ _ _ h => h) (Or.inl ⟨by rfl, ?y8_41⟩) (by assumption) ?r8_41
                case y8_41 => intro w hSw; (try dsimp only at hSw); go_simp; try with_reducible rfl
                try simp only [Act.put, List.setIfInBounds_toArray, List.set_cons_zero, List.set_cons_succ]
                refine wpAnyH_take (i := 9) (oi := { dst := some 77, op := Op.fieldAddr 78 (Operand.tmp 10) 0, type := 0, pos := "ref.go:49", after := #[{ on := 8, ground := Ground.guard }], guard := some (8, false) }) (v := ?v9_42) rfl (by kernel_rfl) (by kernel_rfl) (by kernel_rfl) (fun _ _ _ h => h) (Or.inl ⟨by rfl, ?y9_42⟩) (by assumption) ?r9_42
                case y9_42 => intro w hSw; (try dsimp only at hSw); go_simp; try with_reducible rfl
                try simp only [Act.put, List.setIfInBounds_toArray, List.set_cons_zero, List.set_cons_succ]
                refine wpAnyH_take (i := 10) (oi := { dst := some 78, op := Op.load 9 (Operand.tmp 77), type := 9, pos := "ref.go:49", after := #[{ on := 9, ground := Ground.data }, { on := 8, ground := Ground.guard }], guard := some (8, false) }) (v := ?v10_43) rfl (by kernel_rfl) (by kernel_rfl) (by kernel_rfl) (fun _ _ _ h => h) (Or.inl ⟨by rfl, ?y10_43⟩) (by assumption) ?r10_43
                case y10_43 => intro w hSw; (try dsimp only at hSw); go_simp; try with_reducible rfl
                try simp only [Act.put, List.setIfInBounds_toArray, List.set_cons_zero, List.set_cons_succ]
                refine wpAnyH_take (i := 12) (oi := { dst := some 80, op := Op.fieldAddr 78 (Operand.tmp 10) 0, type := 0, pos := "ref.go:49", after := #[{ on := 8, ground := Ground.guard }], guard := some (8, false) }) (v := ?v12_44) rfl (by kernel_rfl) (by kernel_rfl) (by kernel_rfl) (fun _ _ _ h => h) (Or.inl ⟨by rfl, ?y12_44⟩) (by assumption) ?r12_44
                case y12_44 => intro w hSw; (try dsimp only at hSw); go_simp; try with_reducible rfl
                try simp only [Act.put, List.setIfInBounds_toArray, List.set_cons_zero, List.set_cons_succ]
                refine wpAnyH_take (i := 13) (oi := { dst := some 81, op := Op.load 9 (Operand.tmp 80), type := 9, pos := "ref.go:49", after := #[{ on := 12, ground := Ground.data }, { on := 8, ground := Ground.guard }], guard := some (8, false) }) (v := ?v13_45) rfl (by kernel_rfl) (by kernel_rfl) (by kernel_rfl) (fun _ _ _ h => h) (Or.inl ⟨by rfl, ?y13_45⟩) (by assumption) ?r13_45
                case y13_45 => intro w hSw; (try dsimp only at hSw); go_simp; try with_reducible rfl
                try simp only [Act.put, List.setIfInBounds_toArray, List.set_cons_zero, List.set_cons_succ]
                refine wpAnyH_ready (rs := [11]) (by kernel_rfl) (by simp) (AllReadyH.cons (o := { dst := some 79, op := Op.call { callee := Callee.value (Operand.func 65), args := #[Operand.tmp 78], argTypes := #[9] }, type := 9, pos := "ref.go:49", after := #[{ on := 10, ground := Ground.data }, { on := 8, ground := Ground.chain }, { on := 8, ground := Ground.guard }], guard := some (8, false) }) rfl (fun K hK => ?_) AllReadyH.nil)
                go_simp
                refine (HLOW.out _).mono ?_; rintro e w4 ⟨rfl, hb4⟩
                go_wp2_with fail
                refine hK.out _ _ ?_ (fun hHeld => ?_)
                · (try dsimp only); (go_split_ands; (repeat' apply And.intro) <;> first | assumption | exact Mine.call (by assumption) (by assumption) | exact Row.belowS (by assumption) (by assumption) | exact Row.cell0 (Row.belowS (by assumption) (by assumption)))
                clear hK K
                try simp only [Act.put, List.setIfInBounds_toArray, List.set_cons_zero, List.set_cons_succ]
                refine wpAnyH_take (i := 14) (oi := { dst := some 82, op := Op.binOp BinOp.neq 9 (Operand.tmp 79) (Operand.tmp 81) 9, type := 4, pos := "ref.go:49", after := #[{ on := 11, ground := Ground.data }, { on := 13, ground := Ground.data }, { on := 8, ground := Ground.guard }], guard := some (8, false) }) (v := ?v14_46) rfl (by kernel_rfl) (by kernel_rfl) (by kernel_rfl) (fun _ _ _ h => h) (Or.inl ⟨by rfl, ?y14_46⟩) (by assumption) ?r14_46
                case y14_46 => intro w hSw; (try dsimp only at hSw); go_simp; try with_reducible rfl
                try simp only [Act.put, List.setIfInBounds_toArray, List.set_cons_zero, List.set_cons_succ]
                refine wpAnyH_take (i := 15) (oi := { dst := some 83, op := Op.pick (Operand.tmp 76) (Operand.const (Value.bool true)) (Operand.tmp 82), type := 4, pos := "ref.go:49", after := #[{ on := 8, ground := Ground.data }, { on := 14, ground := Ground.data }], guard := none }) (v := ?v15_47) rfl (by kernel_rfl) (by kernel_rfl) (by kernel_rfl) (fun _ _ _ h => h) (Or.inl ⟨by rfl, ?y15_47⟩) (by assumption) ?r15_47
                case y15_47 => intro w hSw; (try dsimp only at hSw); go_simp; try with_reducible rfl
                try simp only [Act.put, List.setIfInBounds_toArray, List.set_cons_zero, List.set_cons_succ]
                refine wpAnyH_done (by kernel_rfl) ?_ _
                refine NoPanic.normal ?_
                have hm := hHeld.1.1
                have MM := Lib.hid hm
                clear hHeld hm
                go_wp2
                go_roundw
                case rel => exact ⟨j + 1, ⟨by go_num, by omega⟩, by rw [HSN.out, HRB.out, HDB.out, HLB.out]; rfl, MM.out⟩
                case measure => simp [intOf]; omega
        · have d0 : decide (j < m) = false := decide_eq_false hlt
          have hall2 : rs.all (ruleB cs) = true := by rw [← hno.out, List.take_of_length_le (by rw [HM.out]; omega)]
          have hfe : E = 0 := by
            rw [← HE.out]
            unfold checkE checkB
            rw [hall2, HALL.out, HN.out, HM.out]
            unfold numB
            rw [decide_eq_true h1, decide_eq_true h2, decide_eq_true h3]; rfl
          subst hfe
          have B1 := Lib.hid hmi.bel
          clear hall2 hno hmi
          go_wp2
          go_ret
          exact ⟨rfl, by first | exact B1.out | (rw [hB]; exact B1.out)⟩

set_option maxRecDepth 100000 in
set_option maxHeartbeats 2000000 in
theorem rcheck_any (v : Value) (cs : List Cl) (u : Value) (rs : List Ru) (w : World) (hv : PV w v (clV cs)) (hcs : ∀ c ∈ cs, in64 c.2 ∧ c.1.size ≤ maxLen) (hu : PV w u (ruV rs)) (hrs : ∀ c ∈ rs, c.1.size ≤ maxLen ∧ c.2.size ≤ maxLen) :
    Calls Try.prog 29 #[v, u] w fun e w' => e = .returned (.int .i64 (checkE cs rs)) ∧ Below w.heap.size w w' := by
  by_cases h1 : 1 ≤ cs.length
  · by_cases h2 : cs.length ≤ 100
    · by_cases h3 : rs.length ≤ 100
      · exact rcheck_in v cs u rs w hv hcs hu hrs h1 h2 h3
      · rw [checkE_num (by unfold numB; rw [decide_eq_false h3, Bool.and_false])]
        obtain ⟨A, c, rfl, hc1, -⟩ := hv
        obtain ⟨A', c', rfl, hc1', -⟩ := hu
        rw [clV_len, ruV_len]
        obtain ⟨n, hn⟩ : ∃ n, cs.length = n := ⟨_, rfl⟩
        obtain ⟨m, hm⟩ : ∃ m, rs.length = m := ⟨_, rfl⟩
        rw [hn] at h1 h2 ⊢
        rw [hm] at h3 ⊢
        have d1 : decide ((n : Int) < 1) = false := decide_eq_false (by omega)
        have d1' : decide (n < 1) = false := decide_eq_false (by omega)
        have d2 : decide ((100 : Int) < (n : Int)) = false := decide_eq_false (by omega)
        have d2' : decide (100 < n) = false := decide_eq_false (by omega)
        have d3 : decide ((100 : Int) < (m : Int)) = true := decide_eq_true (by omega)
        have d3' : decide (100 < m) = true := decide_eq_true (by omega)
        clear hn hm hcs hrs hc1 hc1'
        go_enter Try.func29, Try.ntmps29
        go_wp2
        go_ret
        exact ⟨rfl, Below.refl _ _⟩
    · rw [checkE_num (by unfold numB; rw [decide_eq_false h2, Bool.and_false]; rfl)]
      obtain ⟨A, c, rfl, hc1, -⟩ := hv
      obtain ⟨A', c', rfl, hc1', -⟩ := hu
      rw [clV_len, ruV_len]
      obtain ⟨n, hn⟩ : ∃ n, cs.length = n := ⟨_, rfl⟩
      rw [hn] at h1 h2 ⊢
      have d1 : decide ((n : Int) < 1) = false := decide_eq_false (by omega)
      have d1' : decide (n < 1) = false := decide_eq_false (by omega)
      have d2 : decide ((100 : Int) < (n : Int)) = true := decide_eq_true (by omega)
      have d2' : decide (100 < n) = true := decide_eq_true (by omega)
      clear hn hcs hrs hc1 hc1'
      go_enter Try.func29, Try.ntmps29
      go_wp2
      go_ret
      exact ⟨rfl, Below.refl _ _⟩
  · rw [checkE_num (by unfold numB; rw [decide_eq_false h1]; rfl)]
    obtain ⟨A, c, rfl, hc1, -⟩ := hv
    obtain ⟨A', c', rfl, hc1', -⟩ := hu
    rw [clV_len, ruV_len]
    obtain ⟨n, hn⟩ : ∃ n, cs.length = n := ⟨_, rfl⟩
    rw [hn] at h1 ⊢
    obtain rfl : n = 0 := by omega
    clear hn hcs hrs hc1 hc1' h1
    go_enter Try.func29, Try.ntmps29
    go_wp2
    go_ret
    exact ⟨rfl, Below.refl _ _⟩

end Go.Proofs.Ytofdfcngmkkfdaa
