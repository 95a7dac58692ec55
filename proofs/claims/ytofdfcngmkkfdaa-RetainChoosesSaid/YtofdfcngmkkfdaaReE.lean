/- Check. -/
import Derived.RangeFuncNested
import Derived.RangeFuncBound
import Derived.RangeFuncCalls
import Derived.RangeFuncLeaves
import Derived.Shelf.Abstract
import Derived.Shelf.RegionOpen
import Derived.WalkKit
import Derived.OwnWalkIn
import Derived.TacticsInMore
import Derived.LoopNIn
import Derived.LoopIn
import Derived.Outline
import Derived.Lib.Hide
import Derived.Lib.SliceRun
import Derived.IntWalk
import Derived.WalkLawsBesides
import Derived.WalkSpells
import Derived.Laws.BitsAllLaws
import Derived.Lib.ConvBytes
import Derived.Maps.AppendAt
import Derived.Lib.AppendStr
import Derived.Lib.SlBytesConst
import Derived.Laws.AppendOwnNone
import Derived.Laws.OwnMore
import Derived.Laws.BytesArg
import Derived.Deep.RegionHeld3
import Derived.BigQuiet
import Derived.Deep.RegionLaw
import Derived.Deep.QuietTactic
import Derived.Lib.OthersKept
import Derived.Test.YtofdfcngmkkfdaaProg
import Derived.Deep.DeepFit
import Derived.Test.YtofdfcngmkkfdaaReD
set_option linter.unusedVariables false
set_option linter.unusedSimpArgs false
namespace Go.Proofs.Ytofdfcngmkkfdaa
open Go Go.RowKit Go.Shelf

/-- whether class k may be -/
def clsB (cs : List Cl) (k : Nat) (nm : ByteArray) (kp : Int) : Bool := (findC (cs.take k) nm).isNone && smallB (bl nm) 20 && decide (1 ≤ kp)
def ruleB (cs : List Cl) (r : Ru) : Bool := (findC cs r.2).isSome && domB (bl r.1) && ofN notUp (bl r.1)
/-- the first k classes may be -/
def clsN (cs : List Cl) : Nat → Bool
  | 0 => true
  | k + 1 => clsN cs k && clsB cs k (cs[k]?.getD (ByteArray.empty, 0)).1 (cs[k]?.getD (ByteArray.empty, 0)).2
def numB (n m : Nat) : Bool := decide (1 ≤ n) && decide (n ≤ 100) && decide (m ≤ 100)
def checkB (cs : List Cl) (rs : List Ru) : Bool := numB cs.length rs.length && clsN cs cs.length && rs.all (ruleB cs)
def checkE (cs : List Cl) (rs : List Ru) : Int := if checkB cs rs then 0 else 130
theorem clsN_no (cs : List Cl) (k : Nat) (h : clsN cs k = false) : ∀ m, k ≤ m → clsN cs m = false
  | 0, hm => by obtain rfl : k = 0 := by omega
                exact h
  | m + 1, hm => by
    by_cases e : k = m + 1
    · rw [← e]; exact h
    · simp only [clsN, clsN_no cs k h m (by omega), Bool.false_and]
theorem checkE_num {cs : List Cl} {rs : List Ru} (h : numB cs.length rs.length = false) : checkE cs rs = 130 := by
  unfold checkE checkB; rw [h]; rfl
theorem checkE_cls {cs : List Cl} {rs : List Ru} (k : Nat) (hk : k < cs.length) (h : clsN cs (k + 1) = false) : checkE cs rs = 130 := by
  unfold checkE checkB; rw [clsN_no cs _ h _ hk, Bool.and_false]; rfl
theorem checkE_rule {cs : List Cl} {rs : List Ru} (k : Nat) (hk : k < rs.length) (h : ruleB cs rs[k] = false) : checkE cs rs = 130 := by
  unfold checkE checkB; rw [all_notS (ruleB cs) rs k hk h, Bool.and_false]; rfl

set_option maxRecDepth 100000 in
set_option maxHeartbeats 8000000 in
/-- **Check** -/
theorem check_in (v : Value) (cs : List Cl) (u : Value) (rs : List Ru) (w : World) (hv : PV w v (clV cs)) (hcs : ∀ c ∈ cs, in64 c.2 ∧ c.1.size ≤ maxLen) (hu : PV w u (ruV rs)) (hrs : ∀ c ∈ rs, c.1.size ≤ maxLen ∧ c.2.size ≤ maxLen)
    (h1 : 1 ≤ cs.length) (h2 : cs.length ≤ 100) (h3 : rs.length ≤ 100) :
    Calls Try.prog 28 #[v, u] w fun e w' => e = .returned (.int .i64 (checkE cs rs)) ∧ Below w.heap.size w w' := by
  have hv0 := hv
  have hu0 := hu
  obtain ⟨A, c, rfl, hc1, -⟩ := hv
  obtain ⟨A', c', rfl, hc1', -⟩ := hu
  obtain ⟨E, hE⟩ : ∃ E, checkE cs rs = E := ⟨_, rfl⟩
  have HE := Lib.hid hE
  rw [hE]
  obtain ⟨n, hn⟩ : ∃ n, cs.length = n := ⟨_, rfl⟩
  obtain ⟨m, hm⟩ : ∃ m, rs.length = m := ⟨_, rfl⟩
  have HV := Lib.hid hv0
  have HU := Lib.hid hu0
  have HCS := Lib.hid hcs
  have HRS := Lib.hid hrs
  rw [clV_len, hn] at HV hc1
  rw [ruV_len, hm] at HU hc1'
  rw [clV_len, ruV_len, hn, hm]
  rw [hn] at h1 h2
  rw [hm] at h3
  have HN := Lib.hid hn
  have HM := Lib.hid hm
  obtain ⟨B, hB⟩ : ∃ B, w.heap.size = B := ⟨_, rfl⟩
  have sm0 : SM (w.alloc (.map #[] 0)) B [] := by rw [← hB]; exact SM.new w
  have b0 : Below B w (w.alloc (.map #[] 0)) := (Below.refl _ _).alloc (by omega) _
  have S0 := Lib.hid sm0
  have B0 := Lib.hid b0
  have d1 : ((n : Int) == 0) = false := by simp; omega
  have d1' : (n == 0) = false := by simp; omega
  have d2 : decide ((100 : Int) < (n : Int)) = false := decide_eq_false (by omega)
  have d2' : decide (100 < n) = false := decide_eq_false (by omega)
  have d3 : decide ((100 : Int) < (m : Int)) = false := decide_eq_false (by omega)
  have d3' : decide (100 < m) = false := decide_eq_false (by omega)
  have hmm := @run_makeMap Try.prog
  clear hv0 hu0 hcs hrs hE hn hm sm0 b0
  go_enter Try.func28, Try.ntmps28
  go_wp2
  clear d1 d1' d2 d2' d3 d3' hmm
  go_loopw [26, 7] (fun i x wr => ∃ k : Nat, (i = .int .i64 (k : Int) ∧ k ≤ n) ∧ Hid (clsN cs k = true) ∧ SM wr B (cs.take k) ∧ Below B w wr) (fun i _ _ => n - (intOf i).toNat)
  case atStart => exact ⟨0, ⟨rfl, Nat.zero_le _⟩, rfl, S0.out, B0.out⟩
  case round =>
    clear S0 B0
    obtain ⟨k, ⟨rfl, hk⟩, hno, hsm, hb⟩ := hrel
    by_cases hlt : k < n
    · have hkc : k < cs.length := by rw [HN.out]; exact hlt
      obtain ⟨g, o, rfl, c0, c1⟩ := (HV.out.below (hB ▸ hb)).at_ k _ (clV_get cs k hkc)
      dsimp only at c0 c1
      obtain ⟨⟨a1, a2⟩, hsz⟩ := HCS.out _ (List.getElem_mem hkc)
      have hgd : cs[k]?.getD (ByteArray.empty, 0) = cs[k] := by rw [List.getElem?_eq_getElem hkc]; rfl
      have hcl : clsN cs (k + 1) = clsB cs k cs[k].1 cs[k].2 := by rw [clsN, hgd, hno.out, Bool.true_and]
      have htk := List.take_succ_eq_append_getElem hkc
      obtain ⟨nm, hnm⟩ : ∃ nm, cs[k].1 = nm := ⟨_, rfl⟩
      obtain ⟨kp, hkp⟩ : ∃ kp, cs[k].2 = kp := ⟨_, rfl⟩
      have hck : cs[k] = (nm, kp) := by rw [← hnm, ← hkp]
      rw [hck] at htk
      rw [hnm] at c0 hsz hcl
      rw [hkp] at c1 a1 a2 hcl
      have HCL := Lib.hid hcl
      have HTK := Lib.hid htk
      have HKC := Lib.hid hkc
      have hBlt := hsm.lt
      have hbs := hb.size
      obtain ⟨C, hC⟩ : ∃ C, wr.heap.size = C := ⟨_, rfl⟩
      have hrow : Row (wr.alloc (.cells #[.string nm, .int .i64 kp] 56)) C 56 [.string nm, .int .i64 kp] := by rw [← hC]; exact Row.new wr _ _
      have sm1 := hsm.alloc (.cells #[.string nm, .int .i64 kp] 56)
      have hl1 := sm1.look nm hsz
      obtain ⟨W2, hput, sm2, hg2⟩ := sm1.put (nm, kp) hsz (by rw [List.length_take]; omega)
      have hl2 := sm2.look nm hsz
      rw [cntN_snoc, if_pos (beq_self_eq_true _)] at hl2
      rw [← htk] at sm2
      have hrow2 : Row W2 C 56 [.string nm, .int .i64 kp] := by
        unfold Row
        rw [hg2.block C hrow.lt (by intro e; cases e; omega)]
        exact hrow
      have b2 : Below B w W2 := (hb.alloc (by omega) _).grown hg2 (by simp; omega) (fun j hj => by cases hj; exact Nat.le_refl _)
      have f0 := hrow2.cell 0
      have f1 := hrow2.cell 1
      simp at f0 f1
      obtain ⟨q, hq⟩ : ∃ q, cntN (cs.take k) nm = q := ⟨_, rfl⟩
      have hz0 := cntN_zero (cs.take k) nm
      rw [hq] at hl1 hput hl2 hz0
      have hq100 : q ≤ 100 := by rw [← hq]; have := cntN_le (cs.take k) nm; simp at this; omega
      have d0 : decide (k < n) = true := decide_eq_true hlt
      have k0 : (0 : Int) ≤ (k : Int) := by omega
      have k1 : (k : Int) < (n : Int) := by omega
      have SM2 := Lib.hid sm2
      have B2 := Lib.hid b2
      have HR2 := Lib.hid hrow2
      clear hgd hcl htk hkc hnm hkp hck hrow sm1 sm2 hg2 b2 hrow2 hno hsm hb hq hbs hBlt
      by_cases hq0 : q = 0
      · subst hq0
        have hfn := hz0.1 rfl
        have hl1' : (Instr.lookup 76 (.map (some B)) (.string nm) false).run Try.prog (wr.alloc (.cells #[.string nm, .int .i64 kp] 56)) = .ok (.int .i64 0) (wr.alloc (.cells #[.string nm, .int .i64 kp] 56)) := hl1
        have hput' : (Instr.mapUpdate 76 (.map (some B)) (.string nm) (.int .i64 1)).run Try.prog (wr.alloc (.cells #[.string nm, .int .i64 kp] 56)) = .ok () W2 := hput
        have hl2' : (Instr.lookup 76 (.map (some B)) (.string nm) false).run Try.prog W2 = .ok (.int .i64 1) W2 := hl2
        have hlet := fun w => letters_any nm hsz w
        obtain ⟨sb, hsb⟩ : ∃ sb, smallB (bl nm) 20 = sb := ⟨_, rfl⟩
        simp only [hsb] at hlet
        have HLET := Lib.hid hlet
        have hclb : clsN cs (k + 1) = (sb && decide (1 ≤ kp)) := by rw [HCL.out]; unfold clsB; rw [hfn, hsb]; rfl
        have HCLB := Lib.hid hclb
        clear hl1 hput hl2 hlet hsb hclb hz0 hfn hq100
        cases sb with
        | false =>
          have hfe : E = 130 := by rw [← HE.out]; exact checkE_cls k HKC.out (by rw [HCLB.out]; rfl)
          subst hfe
          go_wp2_with fail
          refine (HLET.out _).mono ?_
          rintro e w3 ⟨rfl, hb3⟩
          go_wp2
          go_ret
          exact ⟨rfl, by first | exact B2.out.trans (hb3.mono B2.out.size) | (rw [hB]; exact B2.out.trans (hb3.mono (by have := B2.out.size; omega)))⟩
        | true =>
          go_wp2_with fail
          refine (HLET.out _).mono ?_
          rintro e w3 ⟨rfl, hb3⟩
          have hr3 := HR2.out.belowS hb3
          have hs3 := SM2.out.below hb3 SM2.out.lt
          have b3 : Below B w w3 := B2.out.trans (hb3.mono (by have := B2.out.size; omega))
          have e1 := hr3.cell 1
          simp at e1
          have S3 := Lib.hid hs3
          have B3 := Lib.hid b3
          clear hr3 hs3 b3 hb3
          by_cases hkp1 : kp < 1
          · have e2 : decide (kp < 1) = true := decide_eq_true hkp1
            have hfe : E = 130 := by rw [← HE.out]; exact checkE_cls k HKC.out (by rw [HCLB.out, decide_eq_false (by omega)]; rfl)
            subst hfe
            go_wp2
            go_ret
            exact ⟨rfl, by first | exact B3.out | (rw [hB]; exact B3.out)⟩
          · have e2 : decide (kp < 1) = false := decide_eq_false hkp1
            have hcn : clsN cs (k + 1) = true := by rw [HCLB.out, decide_eq_true (by omega)]; rfl
            have HCN := Lib.hid hcn
            clear hcn
            go_wp2
            go_roundw
            case rel => exact ⟨k + 1, ⟨by go_num, by omega⟩, HCN.out, S3.out, B3.out⟩
            case measure => simp [intOf]; omega
      · have hfn : (findC (cs.take k) nm).isNone = false := by
          cases e : findC (cs.take k) nm with
          | none => exact absurd (hz0.2 e) hq0
          | some x => rfl
        have hfe : E = 130 := by rw [← HE.out]; exact checkE_cls k HKC.out (by rw [HCL.out]; unfold clsB; rw [hfn]; rfl)
        subst hfe
        have q1 : (0 : Int) ≤ (q : Int) := by omega
        have q2 : (q : Int) ≤ 100 := by omega
        have e2 : decide ((1 : Int) < (q : Int) + 1) = true := decide_eq_true (by omega)
        have e3 : decide (1 < q + 1) = true := decide_eq_true (by omega)
        have e4 : IntKind.i64.wrap ((q : Int) + 1) = (q : Int) + 1 := IntWalk.i64_in _ (by omega)
        have hl2' : (Instr.lookup 76 (.map (some B)) (.string nm) false).run Try.prog W2 = .ok (.int .i64 ((q : Int) + 1)) W2 := hl2
        clear hz0 hfn hl2 hq0
        go_wp2
        go_ret
        exact ⟨rfl, by first | exact B2.out | (rw [hB]; exact B2.out)⟩
    · have hkn : k = n := by omega
      subst hkn
      have hall : clsN cs cs.length = true := by rw [HN.out]; exact hno.out
      have HALL := Lib.hid hall
      have hsm' : SM wr B cs := by rw [List.take_of_length_le (by rw [HN.out]; omega)] at hsm; exact hsm
      have S1 := Lib.hid hsm'
      have B1 := Lib.hid hb
      clear hall hsm hsm' hb hno hlt
      go_wp2
      go_loopw [54, 9] (fun i x wr => ∃ j : Nat, (i = .int .i64 (j : Int) ∧ j ≤ m) ∧ Hid ((rs.take j).all (ruleB cs) = true) ∧ SM wr B cs ∧ Below B w wr) (fun i _ _ => m - (intOf i).toNat)
      case atStart => exact ⟨0, ⟨rfl, Nat.zero_le _⟩, rfl, S1.out, B1.out⟩
      case round =>
        clear S1 B1
        obtain ⟨j, ⟨rfl, hj⟩, hno, hsm, hb⟩ := hrel
        by_cases hlt : j < m
        · have hjc : j < rs.length := by rw [HM.out]; exact hlt
          obtain ⟨g, o, rfl, c0, c1⟩ := (HU.out.below (hB ▸ hb)).at_ j _ (ruV_get rs j hjc)
          dsimp only at c0 c1
          obtain ⟨hs1, hs2⟩ := HRS.out _ (List.getElem_mem hjc)
          have hsn := all_snocS (ruleB cs) rs j hjc
          rw [hno.out, Bool.true_and] at hsn
          have hxe := checkE_rule (cs := cs) j hjc
          obtain ⟨dm, hdm⟩ : ∃ nm, rs[j].1 = nm := ⟨_, rfl⟩
          obtain ⟨cl, hcl⟩ : ∃ nm, rs[j].2 = nm := ⟨_, rfl⟩
          have hrj : rs[j] = (dm, cl) := by rw [← hdm, ← hcl]
          rw [hdm] at c0 hs1
          rw [hcl] at c1 hs2
          rw [hrj] at hsn hxe
          have hlk := (hsm.alloc (.cells #[.string dm, .string cl] 78)).look cl hs2
          have hz0 := cntN_zero cs cl
          obtain ⟨q, hq⟩ : ∃ q, cntN cs cl = q := ⟨_, rfl⟩
          rw [hq] at hlk hz0
          obtain ⟨C, hC⟩ : ∃ C, wr.heap.size = C := ⟨_, rfl⟩
          have hrow : Row (wr.alloc (.cells #[.string dm, .string cl] 78)) C 78 [.string dm, .string cl] := by rw [← hC]; exact Row.new wr _ _
          have hbs := hb.size
          have b1 := hb.alloc (by omega) (.cells #[.string dm, .string cl] 78)
          have s1 := hsm.alloc (.cells #[.string dm, .string cl] 78)
          have S1 := Lib.hid s1
          have B1 := Lib.hid b1
          have HSN := Lib.hid hsn
          have HXE := Lib.hid hxe
          have HR1 := Lib.hid hrow
          have d0 : decide (j < m) = true := decide_eq_true hlt
          have k0 : (0 : Int) ≤ (j : Int) := by omega
          have k1 : (j : Int) < (m : Int) := by omega
          clear hsn hxe hdm hcl hrj hq s1 b1 hsm hb hno hjc hrow hbs
          by_cases hq0 : q = 0
          · subst hq0
            have hfn : (findC cs cl).isSome = false := by rw [hz0.1 rfl]; rfl
            have hfe : E = 130 := by rw [← HE.out]; exact HXE.out (by unfold ruleB; rw [hfn]; rfl)
            subst hfe
            have hlk' : (Instr.lookup 76 (.map (some B)) (.string cl) false).run Try.prog (wr.alloc (.cells #[.string dm, .string cl] 78)) = .ok (.int .i64 0) (wr.alloc (.cells #[.string dm, .string cl] 78)) := hlk
            clear hz0 hfn hlk
            go_wp2
            go_ret
            exact ⟨rfl, by first | exact B1.out | (rw [hB]; exact B1.out)⟩
          · have hfn : (findC cs cl).isSome = true := by
              cases e : findC cs cl with
              | none => exact absurd (hz0.2 e) hq0
              | some x => rfl
            have e1 : ((q : Int) == 0) = false := by simp; omega
            have e1' : (q == 0) = false := by simp; omega
            have hdom := fun w => domain_any dm hs1 w
            obtain ⟨db, hdb⟩ : ∃ db, domB (bl dm) = db := ⟨_, rfl⟩
            simp only [hdb] at hdom
            have HDOM := Lib.hid hdom
            have hrb : ruleB cs (dm, cl) = (db && ofN notUp (bl dm)) := by unfold ruleB; rw [hfn, hdb]; rfl
            rw [hrb] at HSN HXE
            cases db with
            | false =>
              have hfe : E = 130 := by rw [← HE.out]; exact HXE.out rfl
              subst hfe
              clear hz0 hfn hq0 hdom hdb hrb
              go_wp2_with fail
              refine (HDOM.out _).mono ?_
              rintro e w3 ⟨rfl, hb3⟩
              go_wp2
              go_ret
              exact ⟨rfl, by first | exact B1.out.trans (hb3.mono (by have := B1.out.size; omega)) | (rw [hB]; exact B1.out.trans (hb3.mono (by have := B1.out.size; omega)))⟩
            | true =>
              have hlow := fun w => lower13_any dm hs1 (fun j hj => dom_ascii hdb j (by rw [bl_len]; exact hj)) w
              obtain ⟨lb, hlb⟩ : ∃ lb, ofN notUp (bl dm) = lb := ⟨_, rfl⟩
              simp only [hlb] at hlow
              rw [hlb] at HSN HXE
              have HLOW := Lib.hid hlow
              clear hz0 hfn hq0 hdom hdb hrb hlb hlow
              go_wp2_with fail
              refine (HDOM.out _).mono ?_
              rintro e w3 ⟨rfl, hb3⟩
              have hr3 := HR1.out.belowS hb3
              have hs3 := S1.out.below hb3 S1.out.lt
              have b3 : Below B w w3 := B1.out.trans (hb3.mono (by have := B1.out.size; omega))
              have f0 := hr3.cell 0
              simp at f0
              have S3 := Lib.hid hs3
              have B3 := Lib.hid b3
              clear hr3 hs3 b3 hb3
              go_wp2_with fail
              refine (HLOW.out _).mono ?_
              rintro e w4 ⟨rfl, hb4⟩
              have hs4 := S3.out.below hb4 S3.out.lt
              have b4 : Below B w w4 := B3.out.trans (hb4.mono (by have := B3.out.size; omega))
              have S4 := Lib.hid hs4
              have B4 := Lib.hid b4
              clear hs4 b4 hb4
              cases lb with
              | false =>
                have hfe : E = 130 := by rw [← HE.out]; exact HXE.out rfl
                subst hfe
                go_wp2
                go_ret
                exact ⟨rfl, by first | exact B4.out | (rw [hB]; exact B4.out)⟩
              | true =>
                go_wp2
                go_roundw
                case rel => exact ⟨j + 1, ⟨by go_num, by omega⟩, HSN.out, S4.out, B4.out⟩
                case measure => simp [intOf]; omega
        · have d0 : decide (j < m) = false := decide_eq_false hlt
          have hall2 : rs.all (ruleB cs) = true := by rw [← hno.out, List.take_of_length_le (by rw [HM.out]; omega)]
          have hfe : E = 0 := by
            rw [← HE.out]
            unfold checkE checkB
            rw [hall2, HALL.out, HN.out, HM.out]
            unfold numB
            rw [decide_eq_true h1, decide_eq_true h2, decide_eq_true h3]; rfl
          subst hfe
          have B1 := Lib.hid hb
          clear hall2 hno hsm hb
          go_wp2
          go_ret
          exact ⟨rfl, by first | exact B1.out | (rw [hB]; exact B1.out)⟩
end Go.Proofs.Ytofdfcngmkkfdaa
