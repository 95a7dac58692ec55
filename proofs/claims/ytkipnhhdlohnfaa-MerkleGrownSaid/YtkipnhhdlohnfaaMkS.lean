/- merkle.Grown. -/
import Derived.RangeFuncNested
import Derived.RangeFuncBound
import Derived.RangeFuncCalls
import Derived.RangeFuncLeaves
import Derived.Shelf.Abstract
import Derived.Shelf.RegionOpen
import Derived.WalkKit
import Derived.OwnWalkIn
import Derived.TacticsInMore
import Derived.LoopNIn
import Derived.LoopIn
import Derived.Outline
import Derived.Lib.Hide
import Derived.Lib.SliceRun
import Derived.IntWalk
import Derived.WalkLawsBesides
import Derived.WalkSpells
import Derived.Laws.BitsAllLaws
import Derived.Lib.ConvBytes
import Derived.Maps.AppendAt
import Derived.Lib.AppendStr
import Derived.Lib.SlBytesConst
import Derived.Laws.AppendOwnNone
import Derived.Laws.OwnMore
import Derived.Laws.BytesArg
import Derived.Deep.RegionHeld3
import Derived.BigQuiet
import Derived.Deep.RegionLaw
import Derived.Deep.QuietTactic
import Derived.Lib.OthersKept
import Derived.Test.YtkipnhhdlohnfaaProg
import Derived.Deep.DeepFit
import Derived.Test.YtkipnhhdlohnfaaMkR
import Derived.Test.YtkipnhhdlohnfaaMkQ
set_option linter.unusedVariables false
set_option linter.unusedSimpArgs false
namespace Go.Proofs.Ytkipnhhdlohnfaa
open Go Go.RowKit Go.Shelf

theorem gR_len : ∀ (d n m : Nat) (w : Bool), n ≤ 2 ^ d → n ≤ 18446744073709551616 → (gR n m w).1.length ≤ d
  | 0, n, m, w, h, _ => by rw [gR_end n m w (by have : (2:Nat) ^ 0 = 1 := rfl; omega)]; simp
  | d + 1, n, m, w, h, hm => by
    by_cases h2 : 1 ≤ m ∧ m < n
    · have hk := hlf_range n (by omega)
      obtain ⟨⟨e, he⟩, h3⟩ := hlf_pow n hm
      have hkd : hlf n ≤ 2 ^ d := by
        rw [he]
        refine Nat.pow_le_pow_right (by omega) ?_
        by_cases hed : e ≤ d
        · exact hed
        · have : 2 ^ (d + 1) ≤ 2 ^ e := Nat.pow_le_pow_right (by omega) (by omega)
          omega
      by_cases hi : m ≤ hlf n
      · rw [gR_left n m w h2 hi]
        have := gR_len d (hlf n) m w hkd (by omega)
        simp only [List.length_cons]; omega
      · rw [gR_right n m w h2 hi]
        have := gR_len d (n - hlf n) (m - hlf n) false (by omega) (by omega)
        simp only [List.length_cons]; omega
    · rw [gR_end n m w h2]; simp
theorem gR_63 (n m : Nat) (w : Bool) (h : n ≤ 9223372036854775807) : (gR n m w).1.length ≤ 63 := gR_len 63 n m w (by omega) (by omega)
theorem two_length (ts : List Bool) (ps : List (List UInt8)) (x : List UInt8) (hx : x.length = 32) : ∀ q, (two ts ps x q).1.length = 32 ∧ (two ts ps x q).2.length = 32
  | 0 => ⟨hx, hx⟩
  | q + 1 => by
    unfold two
    split
    · exact ⟨nodeL_length _ _, nodeL_length _ _⟩
    · exact ⟨(two_length ts ps x hx q).1, nodeL_length _ _⟩
theorem Row.setCells_at {b : Nat} {t : TypeId} : ∀ (vs pre l : List Value) (w : World), Row w b t (pre ++ l) → vs.length = l.length → Row (w.setCells b pre.length vs) b t (pre ++ vs)
  | [], pre, l, w, h, hl => by
    obtain rfl : l = [] := List.eq_nil_of_length_eq_zero hl.symm
    exact h
  | v :: vs, pre, l, w, h, hl => by
    match l, hl with
    | x :: l, hl =>
      have h1 := h.set pre.length v
      have e : (pre ++ x :: l).set pre.length v = (pre ++ [v]) ++ l := by simp
      rw [e] at h1
      have h2 := Row.setCells_at vs (pre ++ [v]) l _ h1 (by simpa using hl)
      rw [List.length_append, List.length_singleton, List.append_assoc] at h2
      exact h2
theorem Row.setCells_same {w : World} {b : Nat} {t : TypeId} {l : List Value} (h : Row w b t l) (vs : List Value) (hl : vs.length = l.length) : Row (w.setCells b 0 vs) b t vs := Row.setCells_at vs [] l w h hl
theorem Row.setCells_other {b g : Nat} {t : TypeId} {l : List Value} : ∀ {w : World}, Row w b t l → ∀ (vs : List Value) (o : Nat), b ≠ g → Row (w.setCells g o vs) b t l
  | w, h, [], _, _ => h
  | w, h, v :: vs, o, hb => Row.setCells_other (h.other ⟨g, o, none⟩ v hb) vs (o + 1) hb
set_option maxHeartbeats 8000000 in
set_option maxRecDepth 100000 in
theorem grown_in (old root : List UInt8) (m n : Nat) (pv : Value) (ps : List (List UInt8)) (w : World) (ho : old.length = 32) (hr : root.length = 32) (hv : HS w pv ps) (h1 : 1 ≤ m) (h2 : m ≤ n) (hn : n ≤ 9223372036854775807) (hmax : ps.length ≤ 1000)
    (rt : List Bool) (wh : Bool) (hg : gR n m true = (rt, wh)) (res : Bool)
    (hres : res = if (wh = true ∨ ps ≠ []) ∧ (rest0 wh ps).length = rt.length then ((two rt.reverse (rest0 wh ps) (part0 wh old ps) (rest0 wh ps).length).1 == old && (two rt.reverse (rest0 wh ps) (part0 wh old ps) (rest0 wh ps).length).2 == root) else false) :
    Calls Try.prog 38 #[.agg (enc8 old).toArray, .int .i64 (m : Int), .agg (enc8 root).toArray, .int .i64 (n : Int), pv] w fun e w' => e = .returned (.bool res) ∧ Below w.heap.size w w' := by
  obtain ⟨C, c, rfl, hc, -⟩ := hv.form
  obtain ⟨W, A, hW, hA, hsz, r0, r1, hm⟩ := two_boxed w (enc8 old) (enc8 root)
  have h63 : rt.length ≤ 63 := by have := gR_63 n m true hn; rw [hg] at this; exact this
  obtain ⟨L, hL⟩ : ∃ L, ps.length = L := ⟨_, rfl⟩
  have i0 := info32 old ho
  have i1 := info32 root hr
  obtain ⟨ao, hao⟩ : ∃ ao, enc8 old = ao := ⟨_, rfl⟩
  obtain ⟨ar, har⟩ : ∃ ar, enc8 root = ar := ⟨_, rfl⟩
  have l0 : ao.length = 32 := by rw [← hao, enc8_len, ho]
  have f0 : ao.toArray.all (·.oneCell') = true := by rw [← hao]; exact enc8_all _
  rw [hao, har] at hW
  rw [hao] at r0 i0
  rw [har] at r1 i1
  rw [hL] at hc ⊢
  rw [hao, har]
  have HV := Lib.hid hv
  have HW := Lib.hid hW
  have HM := Lib.hid hm
  have R0 := Lib.hid r0
  have R1 := Lib.hid r1
  have I0 := Lib.hid i0
  have I1 := Lib.hid i1
  have L0 := Lib.hid l0
  have F0 := Lib.hid f0
  have HLL := Lib.hid hL
  have HAO := Lib.hid hao
  have HAR := Lib.hid har
  have HO := Lib.hid ho
  have HRR := Lib.hid hr
  have HRES := Lib.hid hres
  have HG : Hid (([] : List Bool) ++ (gR n m true).1 = rt ∧ (gR n m true).2 = wh) := by rw [hg]; exact ⟨rfl, rfl⟩
  clear hv hW hm r0 r1 i0 i1 l0 f0 hL hao har ho hr hres hg
  have g1 : decide ((m : Int) < 1) = false := decide_eq_false (by omega)
  have g2 : decide ((n : Int) < (m : Int)) = false := decide_eq_false (by omega)
  have g3 : decide (n < m) = false := decide_eq_false (by omega)
  have g4 : decide (m < 1) = false := decide_eq_false (by omega)
  have hB0 : W.heap.size = A + 2 := hsz
  have MW : Hid (Mine (A + 2) W W) := ⟨by omega, Below.refl _ _⟩
  go_enter Try.func38, Try.ntmps38
  go_wp2
  rw [HW.out]
  try rw [hA]
  go_loopw [11, 12, 13, 14, 15] (fun l wv x y z wr => ∃ (p j : Nat) (acc : List Bool) (wc : Bool), (x = .int .i64 (p : Int) ∧ y = .int .i64 (j : Int) ∧ wv = .bool wc ∧ 1 ≤ j ∧ j ≤ p ∧ p ≤ n) ∧ OT wr (A + 2) l acc ∧ Hid (acc ++ (gR p j wc).1 = rt ∧ (gR p j wc).2 = wh) ∧ Mine (A + 2) W wr) (fun _ _ x y _ _ => (intOf x).toNat)
  case atStart => exact ⟨n, m, [], true, ⟨rfl, rfl, rfl, h1, h2, Nat.le_refl _⟩, OT_nil _ _, HG.out, MW.out⟩
  case round =>
    clear HG MW
    obtain ⟨p, j, acc, wc, ⟨rfl, rfl, rfl, hj1, hjp, hp⟩, hot, hacc, hmi⟩ := hrel
    have hal : acc.length ≤ 63 := by have := hacc.out.1; rw [← this, List.length_append] at h63; omega
    by_cases hpj : p = j
    · subst hpj
      have hend := hacc.out
      rw [gR_end p p wc (by omega), List.append_nil] at hend
      obtain ⟨ha1, ha2⟩ := hend
      have ha2' : wc = wh := ha2
      subst ha1 ha2'
      clear hacc
      obtain ⟨wo, rfl⟩ : ∃ x, x = wr := ⟨_, rfl⟩
      obtain ⟨D, d, rfl, hd1, hd2, hcell⟩ := hot.form
      obtain ⟨W3, hW3, q12, hkeep, hb3⟩ := filled wo ao
      obtain ⟨Ba, hBa⟩ : ∃ B, wo.heap.size = B := ⟨_, rfl⟩
      have hAB : A + 2 ≤ Ba := by have := hmi.le; omega
      have hbw : Below A w wo := HM.out.bel.trans (hmi.bel.mono (by omega))
      have RA := Lib.hid (Row.belowN hmi.bel R0.out (by omega))
      have RB := Lib.hid (Row.belowN hmi.bel R1.out (by omega))
      have RN := Lib.hid (Row.new wo #[.int .u8 0, .int .u8 0, .int .u8 0, .int .u8 0, .int .u8 0, .int .u8 0, .int .u8 0, .int .u8 0, .int .u8 0, .int .u8 0, .int .u8 0, .int .u8 0, .int .u8 0, .int .u8 0, .int .u8 0, .int .u8 0, .int .u8 0, .int .u8 0, .int .u8 0, .int .u8 0, .int .u8 0, .int .u8 0, .int .u8 0, .int .u8 0, .int .u8 0, .int .u8 0, .int .u8 0, .int .u8 0, .int .u8 0, .int .u8 0, .int .u8 0, .int .u8 0] 24)
      have R3 := Lib.hid q12
      have M3 : Hid (Mine wo.heap.size wo W3) := ⟨hb3.size, hb3⟩
      have HW3 := Lib.hid hW3
      have HCELL := Lib.hid hcell
      have hvw : HS wo (.slice C ps.length c) ps := HV.out.below (by rw [hA]; exact hbw)
      rw [HLL.out] at hvw
      have HVW := Lib.hid hvw
      have HBW := Lib.hid hbw
      rw [hBa] at R3 M3 RN HW3
      obtain ⟨tl, htl⟩ : ∃ t, acc.length = t := ⟨_, rfl⟩
      rw [htl] at hd1 hal ⊢
      have HTL := Lib.hid htl
      clear hot hmi hcell hkeep hb3 q12 hW3 hbw R0 R1 HM htl hvw
      cases wc with
      | true =>
        have hrs0 := HRES.out
        rw [show rest0 true ps = ps from rfl, show part0 true old ps = old from rfl, HLL.out, HTL.out] at hrs0
        by_cases hlen : L = tl
        · subst hlen
          rw [if_pos ⟨.inl rfl, rfl⟩] at hrs0
          obtain ⟨xs, hxs⟩ : ∃ xs, ps = xs := ⟨_, rfl⟩
          obtain ⟨x0, hx0⟩ : ∃ x, old = x := ⟨_, rfl⟩
          obtain ⟨ax, hax⟩ : ∃ x, ao = x := ⟨_, rfl⟩
          obtain ⟨Wx, hWx⟩ : ∃ x, W3 = x := ⟨_, rfl⟩
          have RX : Hid (Row Wx Ba 24 ax) := by rw [← hWx, ← hax]; exact R3
          have MX : Hid (Mine Ba wo Wx) := by rw [← hWx]; exact M3
          have X32 : Hid (x0.length = 32) := by rw [← hx0]; exact HO
          have HAX : Hid (enc8 x0 = ax) := by rw [← hx0, ← hax]; exact HAO
          have IX : Hid ((Try.prog.info? 24).map (·.size) = some ax.length) := by rw [← hax]; exact I0
          have LX : Hid (ax.length = 32) := by rw [← hax]; exact L0
          have FX : Hid (ax.toArray.all (·.oneCell') = true) := by rw [← hax]; exact F0
          have HVX : Hid (HS wo (.slice C L c) xs) := by rw [← hxs]; exact HVW
          have HXL : Hid (xs.length = L) := by rw [← hxs]; exact HLL
          rw [hWx] at HW3
          have hrs : res = ((two acc.reverse xs x0 L).1 == old && (two acc.reverse xs x0 L).2 == root) := by rw [← hxs, ← hx0]; exact hrs0
          clear hrs0 hWx hax hxs hx0 R3 M3 HVW HV
          obtain ⟨W4, hW4, q14, hkeep4, hb4⟩ := filled Wx ax
          obtain ⟨Bb, hBb⟩ : ∃ B, Wx.heap.size = B := ⟨_, rfl⟩
          have hBab : Ba < Bb := by have := RX.out.lt; omega
          have RN2 := Lib.hid (Row.new Wx #[.int .u8 0, .int .u8 0, .int .u8 0, .int .u8 0, .int .u8 0, .int .u8 0, .int .u8 0, .int .u8 0, .int .u8 0, .int .u8 0, .int .u8 0, .int .u8 0, .int .u8 0, .int .u8 0, .int .u8 0, .int .u8 0, .int .u8 0, .int .u8 0, .int .u8 0, .int .u8 0, .int .u8 0, .int .u8 0, .int .u8 0, .int .u8 0, .int .u8 0, .int .u8 0, .int .u8 0, .int .u8 0, .int .u8 0, .int .u8 0, .int .u8 0, .int .u8 0] 24)
          have R4a := Lib.hid (hkeep4 _ _ _ RX.out)
          have R4b := Lib.hid q14
          have M4 : Hid (Mine Ba wo W4) := Mine.callN hb4 MX.out (by omega)
          have HW4 := Lib.hid hW4
          rw [hBb] at R4b RN2 HW4
          have htw := two_length acc.reverse xs x0 X32.out
          have hstep : ∀ q, two acc.reverse xs x0 (q + 1) = if (acc.reverse[q]?.getD false) = true then (nodeL (xs[q]?.getD []) (two acc.reverse xs x0 q).1, nodeL (xs[q]?.getD []) (two acc.reverse xs x0 q).2) else ((two acc.reverse xs x0 q).1, nodeL (two acc.reverse xs x0 q).2 (xs[q]?.getD [])) := fun q => rfl
          have hf0 : two acc.reverse xs x0 0 = (x0, x0) := rfl
          have heq1 := fun w => run_eql_sum (two acc.reverse xs x0 L).1 old (htw _).1 HO.out w
          have heq2 := fun w => run_eql_sum (two acc.reverse xs x0 L).2 root (htw _).2 HRR.out w
          obtain ⟨f, hf⟩ : ∃ f, two acc.reverse xs x0 = f := ⟨_, rfl⟩
          rw [hf] at htw hstep hf0 heq1 heq2 hrs
          obtain ⟨b1, hb1⟩ : ∃ b, ((f L).1 == old) = b := ⟨_, rfl⟩
          obtain ⟨b2, hb2⟩ : ∃ b, ((f L).2 == root) = b := ⟨_, rfl⟩
          rw [hb1, hb2] at hrs
          rw [hb1, HAO.out] at heq1
          rw [hb2, HAR.out] at heq2
          have R40 : Hid (Row W4 Ba 24 (enc8 (f 0).1) ∧ Row W4 Bb 24 (enc8 (f 0).2)) := by rw [hf0]; rw [HAX.out]; exact ⟨R4a.out, R4b.out⟩
          have HTW := Lib.hid htw
          have HST := Lib.hid hstep
          have HEQ1 := Lib.hid heq1
          have HEQ2 := Lib.hid heq2
          have HRS := Lib.hid hrs
          clear hW4 q14 hkeep4 hb4 htw hstep hf0 heq1 heq2 hf hb1 hb2 hrs R4a R4b
          go_wp2_with (first
            | (refine RA.out.load rfl 24 (.tmp 5) rfl rfl _ _ Try.underlying24 I0.out ?_)
            | (refine RN.out.store (m := ao) rfl 24 (.tmp 16) (.tmp 51) rfl rfl rfl I0.out (by rw [L0.out]; rfl) F0.out ?_)
            | (rw [HW3.out]; refine RX.out.load rfl 24 (.tmp 16) rfl rfl _ _ Try.underlying24 IX.out ?_)
            | (refine RN2.out.store (m := ax) rfl 24 (.tmp 18) (.tmp 68) rfl rfl rfl IX.out (by rw [LX.out]; rfl) FX.out ?_))
          rw [HW4.out]
          go_loopw [71, 19, 20] (fun x y z wr => ∃ q : Nat, (x = .int .i64 (q : Int) ∧ q ≤ L) ∧ Row wr Ba 24 (enc8 (f q).1) ∧ Row wr Bb 24 (enc8 (f q).2) ∧ Mine Ba wo wr) (fun x _ _ _ => L - (intOf x).toNat)
          case atStart => exact ⟨0, ⟨rfl, by omega⟩, R40.out.1, R40.out.2, M4.out⟩
          case round =>
            clear R40 M4 HW4 RN2 HW3 RN
            obtain ⟨q, ⟨rfl, hq⟩, rBa, rBb, mm⟩ := hrel
            by_cases hlt : q < L
            · have hbm : Below wo.heap.size wo wr := by rw [hBa]; exact mm.bel
              obtain ⟨y, hy⟩ : ∃ y, xs[q]? = some y := ⟨_, List.getElem?_eq_getElem (by rw [HXL.out]; exact hlt)⟩
              obtain ⟨y32, -, g, o, rfl, py⟩ := (HVX.out.below hbm).at_ q (by rw [HXL.out]; exact hlt) y hy
              obtain ⟨ix, hix⟩ : ∃ ix, L - 1 - q = ix := ⟨_, rfl⟩
              obtain ⟨t, ht⟩ : ∃ t, acc[ix]? = some t := ⟨_, List.getElem?_eq_getElem (by have := HTL.out; omega)⟩
              obtain ⟨gt, rfl, hBt, hct⟩ := HCELL.out (by have := HTL.out; omega)
              have hct := hct ix t ht
              have hlt1 := World.block_lt_of_cell? wo _ hct
              rw [hBa] at hlt1
              have hrev : acc.reverse[q]? = some t := by rw [List.getElem?_reverse (by have := HTL.out; omega), HTL.out, hix, ht]
              have hs := HST.out q
              rw [hrev, hy] at hs
              simp only [Option.getD_some] at hs
              have x1 : IntKind.i64.wrap ((L : Int) - 1) = (L : Int) - 1 := IntWalk.i64_in _ (by omega)
              have x2 : IntKind.i64.wrap ((L : Int) - 1 - (q : Int)) = (ix : Int) := by rw [IntWalk.i64_in _ (by omega)]; omega
              have hxl : ix < L := by omega
              have hi1 : IntKind.i64.wrap ((q : Int) + 1) = (q : Int) + 1 := IntWalk.i64_in _ (by omega)
              have i2 := info32 y y32
              have f2 := enc8_all y
              have n1 := fun w' => node_any y (f q).1 y32 (HTW.out q).1 w'
              have n2 := fun w' => node_any y (f q).2 y32 (HTW.out q).2 w'
              have n3 := fun w' => node_any (f q).2 y (HTW.out q).2 y32 w'
              obtain ⟨ay, hay⟩ : ∃ ay, enc8 y = ay := ⟨_, rfl⟩
              have l2 : ay.length = 32 := by rw [← hay, enc8_len, y32]
              have i3 := info32 (f q).1 (HTW.out q).1
              have i4 := info32 (f q).2 (HTW.out q).2
              obtain ⟨aa, haa⟩ : ∃ a, enc8 (f q).1 = a := ⟨_, rfl⟩
              obtain ⟨ab, hab⟩ : ∃ a, enc8 (f q).2 = a := ⟨_, rfl⟩
              have la : aa.length = 32 := by rw [← haa, enc8_len, (HTW.out q).1]
              have lb : ab.length = 32 := by rw [← hab, enc8_len, (HTW.out q).2]
              rw [hay] at py i2 f2 n1 n2 n3
              rw [haa] at i3 n1 rBa
              rw [hab] at i4 n2 n3 rBb
              obtain ⟨W5, hW5, r5c, hkp, hb5⟩ := filled wr ay
              obtain ⟨Bc, hBc⟩ : ∃ B, wr.heap.size = B := ⟨_, rfl⟩
              have hBc1 : Bb < Bc := by have := rBb.lt; omega
              have RBA5 := Lib.hid (hkp _ _ _ rBa)
              have RBB5 := Lib.hid (hkp _ _ _ rBb)
              have m5 : Mine Ba wo W5 := Mine.callN hb5 mm mm.le
              have hc5 : ((wr.alloc (.cells #[.int .u8 0, .int .u8 0, .int .u8 0, .int .u8 0, .int .u8 0, .int .u8 0, .int .u8 0, .int .u8 0, .int .u8 0, .int .u8 0, .int .u8 0, .int .u8 0, .int .u8 0, .int .u8 0, .int .u8 0, .int .u8 0, .int .u8 0, .int .u8 0, .int .u8 0, .int .u8 0, .int .u8 0, .int .u8 0, .int .u8 0, .int .u8 0, .int .u8 0, .int .u8 0, .int .u8 0, .int .u8 0, .int .u8 0, .int .u8 0, .int .u8 0, .int .u8 0] 24)).setRow wr.heap.size ay.toArray).cell? ⟨gt, ix, none⟩ = some (.bool t) := by
                rw [hW5]
                exact (m5.bel.cell (p := ⟨gt, ix, none⟩) hlt1).trans hct
              have RN5 := Lib.hid (Row.new wr #[.int .u8 0, .int .u8 0, .int .u8 0, .int .u8 0, .int .u8 0, .int .u8 0, .int .u8 0, .int .u8 0, .int .u8 0, .int .u8 0, .int .u8 0, .int .u8 0, .int .u8 0, .int .u8 0, .int .u8 0, .int .u8 0, .int .u8 0, .int .u8 0, .int .u8 0, .int .u8 0, .int .u8 0, .int .u8 0, .int .u8 0, .int .u8 0, .int .u8 0, .int .u8 0, .int .u8 0, .int .u8 0, .int .u8 0, .int .u8 0, .int .u8 0, .int .u8 0] 24)
              have R5C := Lib.hid r5c
              have M5 := Lib.hid m5
              have HW5 := Lib.hid hW5
              rw [hBc] at RN5 R5C HW5 hc5
              have PY := Lib.hid py
              have I2 := Lib.hid i2
              have F2 := Lib.hid f2
              have L2 := Lib.hid l2
              have I3 := Lib.hid i3
              have I4 := Lib.hid i4
              have LA := Lib.hid la
              have LB := Lib.hid lb
              clear hbm hy y32 py ht hct hrev i2 f2 l2 i3 i4 la lb hW5 r5c hkp hb5 m5 rBa rBb mm hix hay
              cases t with
              | true =>
                rw [if_pos rfl] at hs
                have s1 : nodeL y (f q).1 = (f (q + 1)).1 := by rw [hs]
                have s2 : nodeL y (f q).2 = (f (q + 1)).2 := by rw [hs]
                simp only [s1] at n1
                simp only [s2] at n2
                have h32 := HTW.out (q + 1)
                have hi6 := info32 (f (q + 1)).1 h32.1
                have hi7 := info32 (f (q + 1)).2 h32.2
                have ho6 := enc8_one (f (q + 1)).1
                have ho7 := enc8_one (f (q + 1)).2
                have hl6 : (enc8 (f (q + 1)).1).length = 32 := by rw [enc8_len, h32.1]
                have hl7 : (enc8 (f (q + 1)).2).length = 32 := by rw [enc8_len, h32.2]
                obtain ⟨an, han⟩ : ∃ a, enc8 (f (q + 1)).1 = a := ⟨_, rfl⟩
                obtain ⟨bn, hbn⟩ : ∃ a, enc8 (f (q + 1)).2 = a := ⟨_, rfl⟩
                rw [han] at n1 hi6 ho6 hl6
                rw [hbn] at n2 hi7 ho7 hl7
                have HN1 := Lib.hid n1
                have HN2 := Lib.hid n2
                have HI6 := Lib.hid hi6
                have HI7 := Lib.hid hi7
                have HO6 := Lib.hid ho6
                have HO7 := Lib.hid ho7
                have HL6 := Lib.hid hl6
                have HL7 := Lib.hid hl7
                have HAN := Lib.hid han
                have HBN := Lib.hid hbn
                clear n1 n2 n3 hs s1 s2 h32 hi6 hi7 ho6 ho7 hl6 hl7 han hbn haa hab
                go_wp2_with (first
                  | (refine wpList_load_mid rfl 24 (.tmp 74) rfl g (o + q * 32) rfl ay _ PY.out Try.underlying24 rfl I2.out ?_)
                  | (refine RN5.out.store (m := ay) rfl 24 (.tmp 20) (.tmp 75) rfl rfl rfl I2.out (by rw [L2.out]; rfl) F2.out ?_))
                rw [HW5.out]
                have hu := Try.underlying24
                have ia := I3.out
                have ib := I4.out
                have ic := I2.out
                have pa : W5.drew.rangeAt Ba 0 aa := (World.rangeAt_drew _ _ _ _).2 RBA5.out.range
                have pb : W5.drew.rangeAt Bb 0 ab := (World.rangeAt_drew _ _ _ _).2 RBB5.out.range
                refine wp_region_noPanic ?_
                refine wp_region_held_drew (S := (fun w' => Mine Ba wo w' ∧ w'.rangeAt Bc 0 ay ∧ w'.there Ba 0 32 ∧ w'.there Bb 0 32)) (by kernel_rfl) ?_ (fun hHeld => ?_)
                · exact ⟨⟨M5.out.le, M5.out.bel.drew⟩, (World.rangeAt_drew _ _ _ _).2 R5C.out.range, (World.there_drew _ _ _ _).2 (RBA5.out.there 32 LA.out.symm), (World.there_drew _ _ _ _).2 (RBB5.out.there 32 LB.out.symm)⟩
                refine wpAnyH_take (i := 0) (oi := { dst := some 84, op := Op.load 24 (Operand.tmp 20), type := 24, pos := "merkle.go:147", after := #[], guard := none }) (v := _) rfl (by kernel_rfl) (by kernel_rfl) (by kernel_rfl) (fun _ _ _ h => h) (yieldsIf_load_mid (by rfl) _ _ rfl _ _ rfl _ _ (by intro w hSw; (try dsimp only at hSw); go_split_ands; assumption) (by assumption) rfl (by first | assumption | (simp only [*]; done))) (by assumption) ?_
                try simp only [Act.put, List.setIfInBounds_toArray, List.set_cons_zero, List.set_cons_succ]
                refine wpAnyH_take (i := 3) (oi := { dst := some 87, op := Op.load 24 (Operand.tmp 20), type := 24, pos := "merkle.go:147", after := #[], guard := none }) (v := _) rfl (by kernel_rfl) (by kernel_rfl) (by kernel_rfl) (fun _ _ _ h => h) (yieldsIf_load_mid (by rfl) _ _ rfl _ _ rfl _ _ (by intro w hSw; (try dsimp only at hSw); go_split_ands; assumption) (by assumption) rfl (by first | assumption | (simp only [*]; done))) (by assumption) ?_
                try simp only [Act.put, List.setIfInBounds_toArray, List.set_cons_zero, List.set_cons_succ]
                refine wpAnyH_ready (rs := [1, 4]) (by kernel_rfl) (by simp) (AllReadyH.cons (o := { dst := some 85, op := Op.load 24 (Operand.tmp 16), type := 24, pos := "merkle.go:147", after := #[], guard := none }) rfl (fun K hK => ?_) (AllReadyH.cons (o := { dst := some 88, op := Op.load 24 (Operand.tmp 18), type := 24, pos := "merkle.go:147", after := #[], guard := none }) rfl (fun K hK => ?_) (AllReadyH.nil)))
                ·
                  rw [if_pos (by rfl)]
                  refine wp_load_mid _ _ rfl _ _ rfl _ _ (by assumption) (by assumption) rfl (by first | assumption | (simp only [*]; done)) ?_
                  try simp only [Act.put, List.setIfInBounds_toArray, List.set_cons_zero, List.set_cons_succ]
                  refine hK.out _ _ ?_ (fun hHeld => ?_)
                  · (try dsimp only); (go_split_ands; (repeat' apply And.intro) <;> first | assumption | exact Mine.call (by assumption) (by assumption) | exact Mine.alloc (by assumption) _ | exact Mine.setCells (by assumption) _ _ _ (by omega) | exact Mine.callN (by assumption) (by assumption) (by omega) | exact Row.belowN (by assumption) (by assumption) (by omega) | exact there_belowN (by assumption) (by assumption) (by omega) | exact rangeAt_below (by assumption) (by assumption) | exact World.rangeAt_alloc (by assumption) _ | exact World.rangeAt_setCells_apart (by assumption) _ _ _ (Or.inl (by omega)) | exact there_below (by assumption) (by assumption) | exact World.there_alloc (by assumption) _ | exact World.there_setCells (by assumption) _ _ _ | exact Row.belowS (by assumption) (by assumption) | exact Row.alloc (by assumption) _ | exact Row.setCells (by assumption) _ _ (by omega) | exact HS.below (by assumption) (by assumption) | exact SB.below (by assumption) (by assumption) | exact HS.alloc (by assumption) _ | exact Box.call (by assumption) (by assumption) | exact Box.alloc (by assumption) _ | exact Box.put (by assumption) _ (by assumption) | exact cell_below (by assumption) (by assumption) | exact Lib.cell?_alloc_some _ (by assumption))
                  clear hK K
                  refine wpAnyH_ready (rs := [2, 4]) (by kernel_rfl) (by simp) (AllReadyH.cons (o := { dst := some 86, op := Op.call { callee := Callee.value (Operand.func 24), args := #[Operand.tmp 84, Operand.tmp 85], argTypes := #[24, 24] }, type := 24, pos := "merkle.go:147", after := #[{ on := 0, ground := Ground.data }, { on := 1, ground := Ground.data }], guard := none }) rfl (fun K hK => ?_) (AllReadyH.cons (o := { dst := some 88, op := Op.load 24 (Operand.tmp 18), type := 24, pos := "merkle.go:147", after := #[], guard := none }) rfl (fun K hK => ?_) (AllReadyH.nil)))
                  ·
                    go_simp
                    refine (HN1.out _).mono ?_; rintro e w6 ⟨rfl, hb6⟩; have pb6 := rangeAt_below pb hb6
                    go_wp2_with fail
                    refine hK.out _ _ ?_ (fun hHeld => ?_)
                    · (try dsimp only); (go_split_ands; (repeat' apply And.intro) <;> first | assumption | exact Mine.call (by assumption) (by assumption) | exact Mine.alloc (by assumption) _ | exact Mine.setCells (by assumption) _ _ _ (by omega) | exact Mine.callN (by assumption) (by assumption) (by omega) | exact Row.belowN (by assumption) (by assumption) (by omega) | exact there_belowN (by assumption) (by assumption) (by omega) | exact rangeAt_below (by assumption) (by assumption) | exact World.rangeAt_alloc (by assumption) _ | exact World.rangeAt_setCells_apart (by assumption) _ _ _ (Or.inl (by omega)) | exact there_below (by assumption) (by assumption) | exact World.there_alloc (by assumption) _ | exact World.there_setCells (by assumption) _ _ _ | exact Row.belowS (by assumption) (by assumption) | exact Row.alloc (by assumption) _ | exact Row.setCells (by assumption) _ _ (by omega) | exact HS.below (by assumption) (by assumption) | exact SB.below (by assumption) (by assumption) | exact HS.alloc (by assumption) _ | exact Box.call (by assumption) (by assumption) | exact Box.alloc (by assumption) _ | exact Box.put (by assumption) _ (by assumption) | exact cell_below (by assumption) (by assumption) | exact Lib.cell?_alloc_some _ (by assumption))
                    clear hK K
                    try simp only [Act.put, List.setIfInBounds_toArray, List.set_cons_zero, List.set_cons_succ]
                    refine wpAnyH_ready (rs := [4]) (by kernel_rfl) (by simp) (AllReadyH.cons (o := { dst := some 88, op := Op.load 24 (Operand.tmp 18), type := 24, pos := "merkle.go:147", after := #[], guard := none }) rfl (fun K hK => ?_) (AllReadyH.nil))
                    rw [if_pos (by rfl)]
                    refine wp_load_mid _ _ rfl _ _ rfl _ _ (by assumption) (by assumption) rfl (by first | assumption | (simp only [*]; done)) ?_
                    try simp only [Act.put, List.setIfInBounds_toArray, List.set_cons_zero, List.set_cons_succ]
                    refine hK.out _ _ ?_ (fun hHeld => ?_)
                    · (try dsimp only); (go_split_ands; (repeat' apply And.intro) <;> first | assumption | exact Mine.call (by assumption) (by assumption) | exact Mine.alloc (by assumption) _ | exact Mine.setCells (by assumption) _ _ _ (by omega) | exact Mine.callN (by assumption) (by assumption) (by omega) | exact Row.belowN (by assumption) (by assumption) (by omega) | exact there_belowN (by assumption) (by assumption) (by omega) | exact rangeAt_below (by assumption) (by assumption) | exact World.rangeAt_alloc (by assumption) _ | exact World.rangeAt_setCells_apart (by assumption) _ _ _ (Or.inl (by omega)) | exact there_below (by assumption) (by assumption) | exact World.there_alloc (by assumption) _ | exact World.there_setCells (by assumption) _ _ _ | exact Row.belowS (by assumption) (by assumption) | exact Row.alloc (by assumption) _ | exact Row.setCells (by assumption) _ _ (by omega) | exact HS.below (by assumption) (by assumption) | exact SB.below (by assumption) (by assumption) | exact HS.alloc (by assumption) _ | exact Box.call (by assumption) (by assumption) | exact Box.alloc (by assumption) _ | exact Box.put (by assumption) _ (by assumption) | exact cell_below (by assumption) (by assumption) | exact Lib.cell?_alloc_some _ (by assumption))
                    clear hK K
                    refine wpAnyH_ready (rs := [5]) (by kernel_rfl) (by simp) (AllReadyH.cons (o := { dst := some 89, op := Op.call { callee := Callee.value (Operand.func 24), args := #[Operand.tmp 87, Operand.tmp 88], argTypes := #[24, 24] }, type := 24, pos := "merkle.go:147", after := #[{ on := 3, ground := Ground.data }, { on := 4, ground := Ground.data }, { on := 2, ground := Ground.chain }], guard := none }) rfl (fun K hK => ?_) AllReadyH.nil)
                    go_simp
                    refine (HN2.out _).mono ?_; rintro e w7 ⟨rfl, hb7⟩; have hi6 := HI6.out; have hi7 := HI7.out; have ho6 := HO6.out; have ho7 := HO7.out; have hl6 := HL6.out; have hl7 := HL7.out
                    go_wp2_with fail
                    refine hK.out _ _ ?_ (fun hHeld => ?_)
                    · (try dsimp only); (go_split_ands; (repeat' apply And.intro) <;> first | assumption | exact Mine.call (by assumption) (by assumption) | exact Mine.alloc (by assumption) _ | exact Mine.setCells (by assumption) _ _ _ (by omega) | exact Mine.callN (by assumption) (by assumption) (by omega) | exact Row.belowN (by assumption) (by assumption) (by omega) | exact there_belowN (by assumption) (by assumption) (by omega) | exact rangeAt_below (by assumption) (by assumption) | exact World.rangeAt_alloc (by assumption) _ | exact World.rangeAt_setCells_apart (by assumption) _ _ _ (Or.inl (by omega)) | exact there_below (by assumption) (by assumption) | exact World.there_alloc (by assumption) _ | exact World.there_setCells (by assumption) _ _ _ | exact Row.belowS (by assumption) (by assumption) | exact Row.alloc (by assumption) _ | exact Row.setCells (by assumption) _ _ (by omega) | exact HS.below (by assumption) (by assumption) | exact SB.below (by assumption) (by assumption) | exact HS.alloc (by assumption) _ | exact Box.call (by assumption) (by assumption) | exact Box.alloc (by assumption) _ | exact Box.put (by assumption) _ (by assumption) | exact cell_below (by assumption) (by assumption) | exact Lib.cell?_alloc_some _ (by assumption))
                    clear hK K
                    try simp only [Act.put, List.setIfInBounds_toArray, List.set_cons_zero, List.set_cons_succ]
                    have hPre := hHeld
                    refine wpAnyH_ready (rs := [6]) (by kernel_rfl) (by simp) (AllReadyH.cons (o := { dst := none, op := Op.store 24 (Operand.tmp 16) (Operand.tmp 86), type := 0, pos := "merkle.go:147", after := #[{ on := 2, ground := Ground.data }, { on := 5, ground := Ground.chain }, { on := 0, ground := Ground.phase }, { on := 1, ground := Ground.phase }, { on := 2, ground := Ground.phase }, { on := 3, ground := Ground.textOnly Departure.lateStores }, { on := 4, ground := Ground.textOnly Departure.lateStores }, { on := 5, ground := Ground.textOnly Departure.lateStoresUnsure }], guard := none }) rfl (fun K hK => ?_) AllReadyH.nil)
                    rw [if_pos (by rfl)]
                    refine wp_store_mid _ _ _ rfl _ _ (List.toArray _) rfl rfl (by go_split_ands; first | assumption | (simp only [List.size_toArray, *] <;> assumption)) (by first | assumption | (simp only [List.size_toArray] <;> assumption) | (simp only [List.size_toArray, *]; done)) (all_oneCell_toArray (by assumption)) ?_
                    simp only [Act.put, List.setIfInBounds_toArray, List.set_cons_zero, List.set_cons_succ, List.toList_toArray]
                    refine hK.out _ _ ?_ (fun hHeld => ?_)
                    · (try dsimp only); (go_split_ands; (repeat' apply And.intro) <;> first | assumption | exact Mine.call (by assumption) (by assumption) | exact Mine.alloc (by assumption) _ | exact Mine.setCells (by assumption) _ _ _ (by omega) | exact Mine.callN (by assumption) (by assumption) (by omega) | exact Row.belowN (by assumption) (by assumption) (by omega) | exact there_belowN (by assumption) (by assumption) (by omega) | exact rangeAt_below (by assumption) (by assumption) | exact World.rangeAt_alloc (by assumption) _ | exact World.rangeAt_setCells_apart (by assumption) _ _ _ (Or.inl (by omega)) | exact there_below (by assumption) (by assumption) | exact World.there_alloc (by assumption) _ | exact World.there_setCells (by assumption) _ _ _ | exact Row.belowS (by assumption) (by assumption) | exact Row.alloc (by assumption) _ | exact Row.setCells (by assumption) _ _ (by omega) | exact HS.below (by assumption) (by assumption) | exact SB.below (by assumption) (by assumption) | exact HS.alloc (by assumption) _ | exact Box.call (by assumption) (by assumption) | exact Box.alloc (by assumption) _ | exact Box.put (by assumption) _ (by assumption) | exact cell_below (by assumption) (by assumption) | exact Lib.cell?_alloc_some _ (by assumption))
                    clear hK K
                    have hPre := hHeld
                    refine wpAnyH_ready (rs := [7]) (by kernel_rfl) (by simp) (AllReadyH.cons (o := { dst := none, op := Op.store 24 (Operand.tmp 18) (Operand.tmp 89), type := 0, pos := "merkle.go:147", after := #[{ on := 5, ground := Ground.data }, { on := 6, ground := Ground.chain }, { on := 0, ground := Ground.phase }, { on := 1, ground := Ground.phase }, { on := 2, ground := Ground.phase }, { on := 3, ground := Ground.phase }, { on := 4, ground := Ground.phase }, { on := 5, ground := Ground.phase }, { on := 6, ground := Ground.phase }], guard := none }) rfl (fun K hK => ?_) AllReadyH.nil)
                    rw [if_pos (by rfl)]
                    refine wp_store_mid _ _ _ rfl _ _ (List.toArray _) rfl rfl (by go_split_ands; first | assumption | (simp only [List.size_toArray, *] <;> assumption)) (by first | assumption | (simp only [List.size_toArray] <;> assumption) | (simp only [List.size_toArray, *]; done)) (all_oneCell_toArray (by assumption)) ?_
                    simp only [Act.put, List.setIfInBounds_toArray, List.set_cons_zero, List.set_cons_succ, List.toList_toArray]
                    refine hK.out _ _ ?_ (fun hHeld => ?_)
                    · (try dsimp only); (go_split_ands; (repeat' apply And.intro) <;> first | assumption | exact Mine.call (by assumption) (by assumption) | exact Mine.alloc (by assumption) _ | exact Mine.setCells (by assumption) _ _ _ (by omega) | exact Mine.callN (by assumption) (by assumption) (by omega) | exact Row.belowN (by assumption) (by assumption) (by omega) | exact there_belowN (by assumption) (by assumption) (by omega) | exact rangeAt_below (by assumption) (by assumption) | exact World.rangeAt_alloc (by assumption) _ | exact World.rangeAt_setCells_apart (by assumption) _ _ _ (Or.inl (by omega)) | exact there_below (by assumption) (by assumption) | exact World.there_alloc (by assumption) _ | exact World.there_setCells (by assumption) _ _ _ | exact Row.belowS (by assumption) (by assumption) | exact Row.alloc (by assumption) _ | exact Row.setCells (by assumption) _ _ (by omega) | exact HS.below (by assumption) (by assumption) | exact SB.below (by assumption) (by assumption) | exact HS.alloc (by assumption) _ | exact Box.call (by assumption) (by assumption) | exact Box.alloc (by assumption) _ | exact Box.put (by assumption) _ (by assumption) | exact cell_below (by assumption) (by assumption) | exact Lib.cell?_alloc_some _ (by assumption))
                    clear hK K
                    refine wpAnyH_done (by kernel_rfl) ?_ _
                    refine NoPanic.normal ?_
                    have hrA : Row W5.drew Ba 24 aa := RBA5.out
                    have hrB : Row W5.drew Bb 24 ab := RBB5.out
                    have q7 := ((hrA.belowS hb6).belowS hb7).setCells_same an (by rw [HL6.out, LA.out])
                    have p7 := ((hrB.belowS hb6).belowS hb7).setCells_other an 0 (g := Ba) (by omega)
                    have q8 := q7.setCells_other bn 0 (g := Bb) (by omega)
                    have p8 := p7.setCells_same bn (by rw [HL7.out, LB.out])
                    have QF := Lib.hid q8
                    have PF := Lib.hid p8
                    have MF := Lib.hid hHeld.1
                    clear hHeld hPre q7 p7 q8 p8 hrA hrB pa pb pb6
                    go_wp2
                    go_roundw
                    case rel => exact ⟨q + 1, ⟨by go_num, by omega⟩, by rw [HAN.out]; exact QF.out, by rw [HBN.out]; exact PF.out, MF.out⟩
                    case measure => simp [intOf]; omega
                  ·
                    rw [if_pos (by rfl)]
                    refine wp_load_mid _ _ rfl _ _ rfl _ _ (by assumption) (by assumption) rfl (by first | assumption | (simp only [*]; done)) ?_
                    try simp only [Act.put, List.setIfInBounds_toArray, List.set_cons_zero, List.set_cons_succ]
                    refine hK.out _ _ ?_ (fun hHeld => ?_)
                    · (try dsimp only); (go_split_ands; (repeat' apply And.intro) <;> first | assumption | exact Mine.call (by assumption) (by assumption) | exact Mine.alloc (by assumption) _ | exact Mine.setCells (by assumption) _ _ _ (by omega) | exact Mine.callN (by assumption) (by assumption) (by omega) | exact Row.belowN (by assumption) (by assumption) (by omega) | exact there_belowN (by assumption) (by assumption) (by omega) | exact rangeAt_below (by assumption) (by assumption) | exact World.rangeAt_alloc (by assumption) _ | exact World.rangeAt_setCells_apart (by assumption) _ _ _ (Or.inl (by omega)) | exact there_below (by assumption) (by assumption) | exact World.there_alloc (by assumption) _ | exact World.there_setCells (by assumption) _ _ _ | exact Row.belowS (by assumption) (by assumption) | exact Row.alloc (by assumption) _ | exact Row.setCells (by assumption) _ _ (by omega) | exact HS.below (by assumption) (by assumption) | exact SB.below (by assumption) (by assumption) | exact HS.alloc (by assumption) _ | exact Box.call (by assumption) (by assumption) | exact Box.alloc (by assumption) _ | exact Box.put (by assumption) _ (by assumption) | exact cell_below (by assumption) (by assumption) | exact Lib.cell?_alloc_some _ (by assumption))
                    clear hK K
                    refine wpAnyH_ready (rs := [2]) (by kernel_rfl) (by simp) (AllReadyH.cons (o := { dst := some 86, op := Op.call { callee := Callee.value (Operand.func 24), args := #[Operand.tmp 84, Operand.tmp 85], argTypes := #[24, 24] }, type := 24, pos := "merkle.go:147", after := #[{ on := 0, ground := Ground.data }, { on := 1, ground := Ground.data }], guard := none }) rfl (fun K hK => ?_) (AllReadyH.nil))
                    go_simp
                    refine (HN1.out _).mono ?_; rintro e w6 ⟨rfl, hb6⟩; have pb6 := rangeAt_below pb hb6
                    go_wp2_with fail
                    refine hK.out _ _ ?_ (fun hHeld => ?_)
                    · (try dsimp only); (go_split_ands; (repeat' apply And.intro) <;> first | assumption | exact Mine.call (by assumption) (by assumption) | exact Mine.alloc (by assumption) _ | exact Mine.setCells (by assumption) _ _ _ (by omega) | exact Mine.callN (by assumption) (by assumption) (by omega) | exact Row.belowN (by assumption) (by assumption) (by omega) | exact there_belowN (by assumption) (by assumption) (by omega) | exact rangeAt_below (by assumption) (by assumption) | exact World.rangeAt_alloc (by assumption) _ | exact World.rangeAt_setCells_apart (by assumption) _ _ _ (Or.inl (by omega)) | exact there_below (by assumption) (by assumption) | exact World.there_alloc (by assumption) _ | exact World.there_setCells (by assumption) _ _ _ | exact Row.belowS (by assumption) (by assumption) | exact Row.alloc (by assumption) _ | exact Row.setCells (by assumption) _ _ (by omega) | exact HS.below (by assumption) (by assumption) | exact SB.below (by assumption) (by assumption) | exact HS.alloc (by assumption) _ | exact Box.call (by assumption) (by assumption) | exact Box.alloc (by assumption) _ | exact Box.put (by assumption) _ (by assumption) | exact cell_below (by assumption) (by assumption) | exact Lib.cell?_alloc_some _ (by assumption))
                    clear hK K
                    try simp only [Act.put, List.setIfInBounds_toArray, List.set_cons_zero, List.set_cons_succ]
                    refine wpAnyH_ready (rs := [5]) (by kernel_rfl) (by simp) (AllReadyH.cons (o := { dst := some 89, op := Op.call { callee := Callee.value (Operand.func 24), args := #[Operand.tmp 87, Operand.tmp 88], argTypes := #[24, 24] }, type := 24, pos := "merkle.go:147", after := #[{ on := 3, ground := Ground.data }, { on := 4, ground := Ground.data }, { on := 2, ground := Ground.chain }], guard := none }) rfl (fun K hK => ?_) AllReadyH.nil)
                    go_simp
                    refine (HN2.out _).mono ?_; rintro e w7 ⟨rfl, hb7⟩; have hi6 := HI6.out; have hi7 := HI7.out; have ho6 := HO6.out; have ho7 := HO7.out; have hl6 := HL6.out; have hl7 := HL7.out
                    go_wp2_with fail
                    refine hK.out _ _ ?_ (fun hHeld => ?_)
                    · (try dsimp only); (go_split_ands; (repeat' apply And.intro) <;> first | assumption | exact Mine.call (by assumption) (by assumption) | exact Mine.alloc (by assumption) _ | exact Mine.setCells (by assumption) _ _ _ (by omega) | exact Mine.callN (by assumption) (by assumption) (by omega) | exact Row.belowN (by assumption) (by assumption) (by omega) | exact there_belowN (by assumption) (by assumption) (by omega) | exact rangeAt_below (by assumption) (by assumption) | exact World.rangeAt_alloc (by assumption) _ | exact World.rangeAt_setCells_apart (by assumption) _ _ _ (Or.inl (by omega)) | exact there_below (by assumption) (by assumption) | exact World.there_alloc (by assumption) _ | exact World.there_setCells (by assumption) _ _ _ | exact Row.belowS (by assumption) (by assumption) | exact Row.alloc (by assumption) _ | exact Row.setCells (by assumption) _ _ (by omega) | exact HS.below (by assumption) (by assumption) | exact SB.below (by assumption) (by assumption) | exact HS.alloc (by assumption) _ | exact Box.call (by assumption) (by assumption) | exact Box.alloc (by assumption) _ | exact Box.put (by assumption) _ (by assumption) | exact cell_below (by assumption) (by assumption) | exact Lib.cell?_alloc_some _ (by assumption))
                    clear hK K
                    try simp only [Act.put, List.setIfInBounds_toArray, List.set_cons_zero, List.set_cons_succ]
                    have hPre := hHeld
                    refine wpAnyH_ready (rs := [6]) (by kernel_rfl) (by simp) (AllReadyH.cons (o := { dst := none, op := Op.store 24 (Operand.tmp 16) (Operand.tmp 86), type := 0, pos := "merkle.go:147", after := #[{ on := 2, ground := Ground.data }, { on := 5, ground := Ground.chain }, { on := 0, ground := Ground.phase }, { on := 1, ground := Ground.phase }, { on := 2, ground := Ground.phase }, { on := 3, ground := Ground.textOnly Departure.lateStores }, { on := 4, ground := Ground.textOnly Departure.lateStores }, { on := 5, ground := Ground.textOnly Departure.lateStoresUnsure }], guard := none }) rfl (fun K hK => ?_) AllReadyH.nil)
                    rw [if_pos (by rfl)]
                    refine wp_store_mid _ _ _ rfl _ _ (List.toArray _) rfl rfl (by go_split_ands; first | assumption | (simp only [List.size_toArray, *] <;> assumption)) (by first | assumption | (simp only [List.size_toArray] <;> assumption) | (simp only [List.size_toArray, *]; done)) (all_oneCell_toArray (by assumption)) ?_
                    simp only [Act.put, List.setIfInBounds_toArray, List.set_cons_zero, List.set_cons_succ, List.toList_toArray]
                    refine hK.out _ _ ?_ (fun hHeld => ?_)
                    · (try dsimp only); (go_split_ands; (repeat' apply And.intro) <;> first | assumption | exact Mine.call (by assumption) (by assumption) | exact Mine.alloc (by assumption) _ | exact Mine.setCells (by assumption) _ _ _ (by omega) | exact Mine.callN (by assumption) (by assumption) (by omega) | exact Row.belowN (by assumption) (by assumption) (by omega) | exact there_belowN (by assumption) (by assumption) (by omega) | exact rangeAt_below (by assumption) (by assumption) | exact World.rangeAt_alloc (by assumption) _ | exact World.rangeAt_setCells_apart (by assumption) _ _ _ (Or.inl (by omega)) | exact there_below (by assumption) (by assumption) | exact World.there_alloc (by assumption) _ | exact World.there_setCells (by assumption) _ _ _ | exact Row.belowS (by assumption) (by assumption) | exact Row.alloc (by assumption) _ | exact Row.setCells (by assumption) _ _ (by omega) | exact HS.below (by assumption) (by assumption) | exact SB.below (by assumption) (by assumption) | exact HS.alloc (by assumption) _ | exact Box.call (by assumption) (by assumption) | exact Box.alloc (by assumption) _ | exact Box.put (by assumption) _ (by assumption) | exact cell_below (by assumption) (by assumption) | exact Lib.cell?_alloc_some _ (by assumption))
                    clear hK K
                    have hPre := hHeld
                    refine wpAnyH_ready (rs := [7]) (by kernel_rfl) (by simp) (AllReadyH.cons (o := { dst := none, op := Op.store 24 (Operand.tmp 18) (Operand.tmp 89), type := 0, pos := "merkle.go:147", after := #[{ on := 5, ground := Ground.data }, { on := 6, ground := Ground.chain }, { on := 0, ground := Ground.phase }, { on := 1, ground := Ground.phase }, { on := 2, ground := Ground.phase }, { on := 3, ground := Ground.phase }, { on := 4, ground := Ground.phase }, { on := 5, ground := Ground.phase }, { on := 6, ground := Ground.phase }], guard := none }) rfl (fun K hK => ?_) AllReadyH.nil)
                    rw [if_pos (by rfl)]
                    refine wp_store_mid _ _ _ rfl _ _ (List.toArray _) rfl rfl (by go_split_ands; first | assumption | (simp only [List.size_toArray, *] <;> assumption)) (by first | assumption | (simp only [List.size_toArray] <;> assumption) | (simp only [List.size_toArray, *]; done)) (all_oneCell_toArray (by assumption)) ?_
                    simp only [Act.put, List.setIfInBounds_toArray, List.set_cons_zero, List.set_cons_succ, List.toList_toArray]
                    refine hK.out _ _ ?_ (fun hHeld => ?_)
                    · (try dsimp only); (go_split_ands; (repeat' apply And.intro) <;> first | assumption | exact Mine.call (by assumption) (by assumption) | exact Mine.alloc (by assumption) _ | exact Mine.setCells (by assumption) _ _ _ (by omega) | exact Mine.callN (by assumption) (by assumption) (by omega) | exact Row.belowN (by assumption) (by assumption) (by omega) | exact there_belowN (by assumption) (by assumption) (by omega) | exact rangeAt_below (by assumption) (by assumption) | exact World.rangeAt_alloc (by assumption) _ | exact World.rangeAt_setCells_apart (by assumption) _ _ _ (Or.inl (by omega)) | exact there_below (by assumption) (by assumption) | exact World.there_alloc (by assumption) _ | exact World.there_setCells (by assumption) _ _ _ | exact Row.belowS (by assumption) (by assumption) | exact Row.alloc (by assumption) _ | exact Row.setCells (by assumption) _ _ (by omega) | exact HS.below (by assumption) (by assumption) | exact SB.below (by assumption) (by assumption) | exact HS.alloc (by assumption) _ | exact Box.call (by assumption) (by assumption) | exact Box.alloc (by assumption) _ | exact Box.put (by assumption) _ (by assumption) | exact cell_below (by assumption) (by assumption) | exact Lib.cell?_alloc_some _ (by assumption))
                    clear hK K
                    refine wpAnyH_done (by kernel_rfl) ?_ _
                    refine NoPanic.normal ?_
                    have hrA : Row W5.drew Ba 24 aa := RBA5.out
                    have hrB : Row W5.drew Bb 24 ab := RBB5.out
                    have q7 := ((hrA.belowS hb6).belowS hb7).setCells_same an (by rw [HL6.out, LA.out])
                    have p7 := ((hrB.belowS hb6).belowS hb7).setCells_other an 0 (g := Ba) (by omega)
                    have q8 := q7.setCells_other bn 0 (g := Bb) (by omega)
                    have p8 := p7.setCells_same bn (by rw [HL7.out, LB.out])
                    have QF := Lib.hid q8
                    have PF := Lib.hid p8
                    have MF := Lib.hid hHeld.1
                    clear hHeld hPre q7 p7 q8 p8 hrA hrB pa pb pb6
                    go_wp2
                    go_roundw
                    case rel => exact ⟨q + 1, ⟨by go_num, by omega⟩, by rw [HAN.out]; exact QF.out, by rw [HBN.out]; exact PF.out, MF.out⟩
                    case measure => simp [intOf]; omega
                ·
                  rw [if_pos (by rfl)]
                  refine wp_load_mid _ _ rfl _ _ rfl _ _ (by assumption) (by assumption) rfl (by first | assumption | (simp only [*]; done)) ?_
                  try simp only [Act.put, List.setIfInBounds_toArray, List.set_cons_zero, List.set_cons_succ]
                  refine hK.out _ _ ?_ (fun hHeld => ?_)
                  · (try dsimp only); (go_split_ands; (repeat' apply And.intro) <;> first | assumption | exact Mine.call (by assumption) (by assumption) | exact Mine.alloc (by assumption) _ | exact Mine.setCells (by assumption) _ _ _ (by omega) | exact Mine.callN (by assumption) (by assumption) (by omega) | exact Row.belowN (by assumption) (by assumption) (by omega) | exact there_belowN (by assumption) (by assumption) (by omega) | exact rangeAt_below (by assumption) (by assumption) | exact World.rangeAt_alloc (by assumption) _ | exact World.rangeAt_setCells_apart (by assumption) _ _ _ (Or.inl (by omega)) | exact there_below (by assumption) (by assumption) | exact World.there_alloc (by assumption) _ | exact World.there_setCells (by assumption) _ _ _ | exact Row.belowS (by assumption) (by assumption) | exact Row.alloc (by assumption) _ | exact Row.setCells (by assumption) _ _ (by omega) | exact HS.below (by assumption) (by assumption) | exact SB.below (by assumption) (by assumption) | exact HS.alloc (by assumption) _ | exact Box.call (by assumption) (by assumption) | exact Box.alloc (by assumption) _ | exact Box.put (by assumption) _ (by assumption) | exact cell_below (by assumption) (by assumption) | exact Lib.cell?_alloc_some _ (by assumption))
                  clear hK K
                  refine wpAnyH_ready (rs := [1]) (by kernel_rfl) (by simp) (AllReadyH.cons (o := { dst := some 85, op := Op.load 24 (Operand.tmp 16), type := 24, pos := "merkle.go:147", after := #[], guard := none }) rfl (fun K hK => ?_) (AllReadyH.nil))
                  rw [if_pos (by rfl)]
                  refine wp_load_mid _ _ rfl _ _ rfl _ _ (by assumption) (by assumption) rfl (by first | assumption | (simp only [*]; done)) ?_
                  try simp only [Act.put, List.setIfInBounds_toArray, List.set_cons_zero, List.set_cons_succ]
                  refine hK.out _ _ ?_ (fun hHeld => ?_)
                  · (try dsimp only); (go_split_ands; (repeat' apply And.intro) <;> first | assumption | exact Mine.call (by assumption) (by assumption) | exact Mine.alloc (by assumption) _ | exact Mine.setCells (by assumption) _ _ _ (by omega) | exact Mine.callN (by assumption) (by assumption) (by omega) | exact Row.belowN (by assumption) (by assumption) (by omega) | exact there_belowN (by assumption) (by assumption) (by omega) | exact rangeAt_below (by assumption) (by assumption) | exact World.rangeAt_alloc (by assumption) _ | exact World.rangeAt_setCells_apart (by assumption) _ _ _ (Or.inl (by omega)) | exact there_below (by assumption) (by assumption) | exact World.there_alloc (by assumption) _ | exact World.there_setCells (by assumption) _ _ _ | exact Row.belowS (by assumption) (by assumption) | exact Row.alloc (by assumption) _ | exact Row.setCells (by assumption) _ _ (by omega) | exact HS.below (by assumption) (by assumption) | exact SB.below (by assumption) (by assumption) | exact HS.alloc (by assumption) _ | exact Box.call (by assumption) (by assumption) | exact Box.alloc (by assumption) _ | exact Box.put (by assumption) _ (by assumption) | exact cell_below (by assumption) (by assumption) | exact Lib.cell?_alloc_some _ (by assumption))
                  clear hK K
                  refine wpAnyH_ready (rs := [2]) (by kernel_rfl) (by simp) (AllReadyH.cons (o := { dst := some 86, op := Op.call { callee := Callee.value (Operand.func 24), args := #[Operand.tmp 84, Operand.tmp 85], argTypes := #[24, 24] }, type := 24, pos := "merkle.go:147", after := #[{ on := 0, ground := Ground.data }, { on := 1, ground := Ground.data }], guard := none }) rfl (fun K hK => ?_) (AllReadyH.nil))
                  go_simp
                  refine (HN1.out _).mono ?_; rintro e w6 ⟨rfl, hb6⟩; have pb6 := rangeAt_below pb hb6
                  go_wp2_with fail
                  refine hK.out _ _ ?_ (fun hHeld => ?_)
                  · (try dsimp only); (go_split_ands; (repeat' apply And.intro) <;> first | assumption | exact Mine.call (by assumption) (by assumption) | exact Mine.alloc (by assumption) _ | exact Mine.setCells (by assumption) _ _ _ (by omega) | exact Mine.callN (by assumption) (by assumption) (by omega) | exact Row.belowN (by assumption) (by assumption) (by omega) | exact there_belowN (by assumption) (by assumption) (by omega) | exact rangeAt_below (by assumption) (by assumption) | exact World.rangeAt_alloc (by assumption) _ | exact World.rangeAt_setCells_apart (by assumption) _ _ _ (Or.inl (by omega)) | exact there_below (by assumption) (by assumption) | exact World.there_alloc (by assumption) _ | exact World.there_setCells (by assumption) _ _ _ | exact Row.belowS (by assumption) (by assumption) | exact Row.alloc (by assumption) _ | exact Row.setCells (by assumption) _ _ (by omega) | exact HS.below (by assumption) (by assumption) | exact SB.below (by assumption) (by assumption) | exact HS.alloc (by assumption) _ | exact Box.call (by assumption) (by assumption) | exact Box.alloc (by assumption) _ | exact Box.put (by assumption) _ (by assumption) | exact cell_below (by assumption) (by assumption) | exact Lib.cell?_alloc_some _ (by assumption))
                  clear hK K
                  try simp only [Act.put, List.setIfInBounds_toArray, List.set_cons_zero, List.set_cons_succ]
                  refine wpAnyH_ready (rs := [5]) (by kernel_rfl) (by simp) (AllReadyH.cons (o := { dst := some 89, op := Op.call { callee := Callee.value (Operand.func 24), args := #[Operand.tmp 87, Operand.tmp 88], argTypes := #[24, 24] }, type := 24, pos := "merkle.go:147", after := #[{ on := 3, ground := Ground.data }, { on := 4, ground := Ground.data }, { on := 2, ground := Ground.chain }], guard := none }) rfl (fun K hK => ?_) AllReadyH.nil)
                  go_simp
                  refine (HN2.out _).mono ?_; rintro e w7 ⟨rfl, hb7⟩; have hi6 := HI6.out; have hi7 := HI7.out; have ho6 := HO6.out; have ho7 := HO7.out; have hl6 := HL6.out; have hl7 := HL7.out
                  go_wp2_with fail
                  refine hK.out _ _ ?_ (fun hHeld => ?_)
                  · (try dsimp only); (go_split_ands; (repeat' apply And.intro) <;> first | assumption | exact Mine.call (by assumption) (by assumption) | exact Mine.alloc (by assumption) _ | exact Mine.setCells (by assumption) _ _ _ (by omega) | exact Mine.callN (by assumption) (by assumption) (by omega) | exact Row.belowN (by assumption) (by assumption) (by omega) | exact there_belowN (by assumption) (by assumption) (by omega) | exact rangeAt_below (by assumption) (by assumption) | exact World.rangeAt_alloc (by assumption) _ | exact World.rangeAt_setCells_apart (by assumption) _ _ _ (Or.inl (by omega)) | exact there_below (by assumption) (by assumption) | exact World.there_alloc (by assumption) _ | exact World.there_setCells (by assumption) _ _ _ | exact Row.belowS (by assumption) (by assumption) | exact Row.alloc (by assumption) _ | exact Row.setCells (by assumption) _ _ (by omega) | exact HS.below (by assumption) (by assumption) | exact SB.below (by assumption) (by assumption) | exact HS.alloc (by assumption) _ | exact Box.call (by assumption) (by assumption) | exact Box.alloc (by assumption) _ | exact Box.put (by assumption) _ (by assumption) | exact cell_below (by assumption) (by assumption) | exact Lib.cell?_alloc_some _ (by assumption))
                  clear hK K
                  try simp only [Act.put, List.setIfInBounds_toArray, List.set_cons_zero, List.set_cons_succ]
                  have hPre := hHeld
                  refine wpAnyH_ready (rs := [6]) (by kernel_rfl) (by simp) (AllReadyH.cons (o := { dst := none, op := Op.store 24 (Operand.tmp 16) (Operand.tmp 86), type := 0, pos := "merkle.go:147", after := #[{ on := 2, ground := Ground.data }, { on := 5, ground := Ground.chain }, { on := 0, ground := Ground.phase }, { on := 1, ground := Ground.phase }, { on := 2, ground := Ground.phase }, { on := 3, ground := Ground.textOnly Departure.lateStores }, { on := 4, ground := Ground.textOnly Departure.lateStores }, { on := 5, ground := Ground.textOnly Departure.lateStoresUnsure }], guard := none }) rfl (fun K hK => ?_) AllReadyH.nil)
                  rw [if_pos (by rfl)]
                  refine wp_store_mid _ _ _ rfl _ _ (List.toArray _) rfl rfl (by go_split_ands; first | assumption | (simp only [List.size_toArray, *] <;> assumption)) (by first | assumption | (simp only [List.size_toArray] <;> assumption) | (simp only [List.size_toArray, *]; done)) (all_oneCell_toArray (by assumption)) ?_
                  simp only [Act.put, List.setIfInBounds_toArray, List.set_cons_zero, List.set_cons_succ, List.toList_toArray]
                  refine hK.out _ _ ?_ (fun hHeld => ?_)
                  · (try dsimp only); (go_split_ands; (repeat' apply And.intro) <;> first | assumption | exact Mine.call (by assumption) (by assumption) | exact Mine.alloc (by assumption) _ | exact Mine.setCells (by assumption) _ _ _ (by omega) | exact Mine.callN (by assumption) (by assumption) (by omega) | exact Row.belowN (by assumption) (by assumption) (by omega) | exact there_belowN (by assumption) (by assumption) (by omega) | exact rangeAt_below (by assumption) (by assumption) | exact World.rangeAt_alloc (by assumption) _ | exact World.rangeAt_setCells_apart (by assumption) _ _ _ (Or.inl (by omega)) | exact there_below (by assumption) (by assumption) | exact World.there_alloc (by assumption) _ | exact World.there_setCells (by assumption) _ _ _ | exact Row.belowS (by assumption) (by assumption) | exact Row.alloc (by assumption) _ | exact Row.setCells (by assumption) _ _ (by omega) | exact HS.below (by assumption) (by assumption) | exact SB.below (by assumption) (by assumption) | exact HS.alloc (by assumption) _ | exact Box.call (by assumption) (by assumption) | exact Box.alloc (by assumption) _ | exact Box.put (by assumption) _ (by assumption) | exact cell_below (by assumption) (by assumption) | exact Lib.cell?_alloc_some _ (by assumption))
                  clear hK K
                  have hPre := hHeld
                  refine wpAnyH_ready (rs := [7]) (by kernel_rfl) (by simp) (AllReadyH.cons (o := { dst := none, op := Op.store 24 (Operand.tmp 18) (Operand.tmp 89), type := 0, pos := "merkle.go:147", after := #[{ on := 5, ground := Ground.data }, { on := 6, ground := Ground.chain }, { on := 0, ground := Ground.phase }, { on := 1, ground := Ground.phase }, { on := 2, ground := Ground.phase }, { on := 3, ground := Ground.phase }, { on := 4, ground := Ground.phase }, { on := 5, ground := Ground.phase }, { on := 6, ground := Ground.phase }], guard := none }) rfl (fun K hK => ?_) AllReadyH.nil)
                  rw [if_pos (by rfl)]
                  refine wp_store_mid _ _ _ rfl _ _ (List.toArray _) rfl rfl (by go_split_ands; first | assumption | (simp only [List.size_toArray, *] <;> assumption)) (by first | assumption | (simp only [List.size_toArray] <;> assumption) | (simp only [List.size_toArray, *]; done)) (all_oneCell_toArray (by assumption)) ?_
                  simp only [Act.put, List.setIfInBounds_toArray, List.set_cons_zero, List.set_cons_succ, List.toList_toArray]
                  refine hK.out _ _ ?_ (fun hHeld => ?_)
                  · (try dsimp only); (go_split_ands; (repeat' apply And.intro) <;> first | assumption | exact Mine.call (by assumption) (by assumption) | exact Mine.alloc (by assumption) _ | exact Mine.setCells (by assumption) _ _ _ (by omega) | exact Mine.callN (by assumption) (by assumption) (by omega) | exact Row.belowN (by assumption) (by assumption) (by omega) | exact there_belowN (by assumption) (by assumption) (by omega) | exact rangeAt_below (by assumption) (by assumption) | exact World.rangeAt_alloc (by assumption) _ | exact World.rangeAt_setCells_apart (by assumption) _ _ _ (Or.inl (by omega)) | exact there_below (by assumption) (by assumption) | exact World.there_alloc (by assumption) _ | exact World.there_setCells (by assumption) _ _ _ | exact Row.belowS (by assumption) (by assumption) | exact Row.alloc (by assumption) _ | exact Row.setCells (by assumption) _ _ (by omega) | exact HS.below (by assumption) (by assumption) | exact SB.below (by assumption) (by assumption) | exact HS.alloc (by assumption) _ | exact Box.call (by assumption) (by assumption) | exact Box.alloc (by assumption) _ | exact Box.put (by assumption) _ (by assumption) | exact cell_below (by assumption) (by assumption) | exact Lib.cell?_alloc_some _ (by assumption))
                  clear hK K
                  refine wpAnyH_done (by kernel_rfl) ?_ _
                  refine NoPanic.normal ?_
                  have hrA : Row W5.drew Ba 24 aa := RBA5.out
                  have hrB : Row W5.drew Bb 24 ab := RBB5.out
                  have q7 := ((hrA.belowS hb6).belowS hb7).setCells_same an (by rw [HL6.out, LA.out])
                  have p7 := ((hrB.belowS hb6).belowS hb7).setCells_other an 0 (g := Ba) (by omega)
                  have q8 := q7.setCells_other bn 0 (g := Bb) (by omega)
                  have p8 := p7.setCells_same bn (by rw [HL7.out, LB.out])
                  have QF := Lib.hid q8
                  have PF := Lib.hid p8
                  have MF := Lib.hid hHeld.1
                  clear hHeld hPre q7 p7 q8 p8 hrA hrB pa pb pb6
                  go_wp2
                  go_roundw
                  case rel => exact ⟨q + 1, ⟨by go_num, by omega⟩, by rw [HAN.out]; exact QF.out, by rw [HBN.out]; exact PF.out, MF.out⟩
                  case measure => simp [intOf]; omega
              | false =>
                rw [if_neg (by decide)] at hs
                have s1 : (f (q + 1)).1 = (f q).1 := by rw [hs]
                have s2 : nodeL (f q).2 y = (f (q + 1)).2 := by rw [hs]
                simp only [s2] at n3
                have HN := Lib.hid n3
                have haa' : enc8 (f (q + 1)).1 = aa := by rw [s1]; exact haa
                have HAA := Lib.hid haa'
                have HC1 := Lib.hid (HTW.out (q + 1)).2
                have I5 := Lib.hid (info32 (f (q + 1)).2 (HTW.out (q + 1)).2)
                clear n1 n2 n3 hs s1 s2 haa haa' hab
                go_wp2_with (first
                  | (refine wpList_load_mid rfl 24 (.tmp 74) rfl g (o + q * 32) rfl ay _ PY.out Try.underlying24 rfl I2.out ?_)
                  | (refine RN5.out.store (m := ay) rfl 24 (.tmp 20) (.tmp 75) rfl rfl rfl I2.out (by rw [L2.out]; rfl) F2.out ?_)
                  | (rw [HW5.out]; refine RBB5.out.load rfl 24 (.tmp 18) rfl rfl _ _ Try.underlying24 I4.out ?_)
                  | (refine R5C.out.load rfl 24 (.tmp 20) rfl rfl _ _ Try.underlying24 I2.out ?_))
                refine (HN.out _).mono ?_
                rintro e w6 ⟨rfl, hb6⟩
                have rbb6 := RBB5.out.belowS hb6
                have rba6 := RBA5.out.belowS hb6
                have m6 := M5.out.call hb6
                have R6 := Lib.hid rbb6
                have RXX := Lib.hid (rbb6.setRow (enc8 (f (q + 1)).2))
                have RYY := Lib.hid (rba6.setRow_ne (enc8 (f (q + 1)).2).toArray (g := Bb) (by omega))
                have MXX : Hid (Mine Ba wo (w6.setRow Bb (enc8 (f (q + 1)).2).toArray)) := ⟨by rw [setRow_size]; exact m6.le, below_setRow m6.bel (by omega) _⟩
                clear rbb6 rba6 m6 hb6 RBA5 RBB5 M5 HN
                go_wp2_with (refine R6.out.store (m := enc8 (f (q + 1)).2) rfl 24 (.tmp 18) (.tmp 92) rfl rfl rfl I5.out (by rw [enc8_len, HC1.out, LB.out]) (enc8_all _) ?_)
                go_roundw
                case rel => exact ⟨q + 1, ⟨by go_num, by omega⟩, by rw [HAA.out]; exact RYY.out, RXX.out, MXX.out⟩
                case measure => simp [intOf]; omega
            · obtain rfl : q = L := by omega
              have i3 := info32 (f q).1 (HTW.out q).1
              have i4 := info32 (f q).2 (HTW.out q).2
              have heq1 := HEQ1.out
              have heq2 := HEQ2.out
              have hrs := HRS.out
              have RP := Lib.hid rBa
              have RQ := Lib.hid rBb
              have RA1 := Lib.hid (Row.belowN mm.bel RA.out (by omega))
              have RB1 := Lib.hid (Row.belowN mm.bel RB.out (by omega))
              have I3 := Lib.hid i3
              have I4 := Lib.hid i4
              have HF := Lib.hid (HBW.out.trans (mm.bel.mono (by omega)))
              clear rBa rBb mm i3 i4
              cases b1 with
              | false =>
                rw [Bool.false_and] at hrs
                subst hrs
                go_wp2_with (first
                  | (refine RP.out.load rfl 24 (.tmp 16) rfl rfl _ _ Try.underlying24 I3.out ?_)
                  | (refine RA1.out.load rfl 24 (.tmp 5) rfl rfl _ _ Try.underlying24 I0.out ?_))
                go_ret
                exact ⟨rfl, by first | exact HF.out | (rw [hA]; exact HF.out)⟩
              | true =>
                rw [Bool.true_and] at hrs
                subst hrs
                go_wp2_with (first
                  | (refine RP.out.load rfl 24 (.tmp 16) rfl rfl _ _ Try.underlying24 I3.out ?_)
                  | (refine RA1.out.load rfl 24 (.tmp 5) rfl rfl _ _ Try.underlying24 I0.out ?_)
                  | (refine RQ.out.loadg rfl 24 (.tmp 18) rfl rfl _ _ Try.underlying24 I4.out ?_)
                  | (refine RB1.out.loadg rfl 24 (.tmp 7) rfl rfl _ _ Try.underlying24 I1.out ?_))
                go_ret
                exact ⟨rfl, by first | exact HF.out | (rw [hA]; exact HF.out)⟩
        · have hq : ((L : Int) != (tl : Int)) = true := by simp; omega
          rw [if_neg (fun h => hlen h.2)] at hrs0
          subst hrs0
          go_wp2_with (first
          | (refine RA.out.load rfl 24 (.tmp 5) rfl rfl _ _ Try.underlying24 I0.out ?_)
          | (refine RN.out.store (m := ao) rfl 24 (.tmp 16) (.tmp 51) rfl rfl rfl I0.out (by rw [L0.out]; rfl) F0.out ?_))
          rw [HW3.out]
          go_ret
          exact ⟨rfl, by first | exact HBW.out.trans (M3.out.bel.mono (by omega)) | (rw [hA]; exact HBW.out.trans (M3.out.bel.mono (by omega)))⟩
      | false =>
        have hrs0 := HRES.out
        rw [show rest0 false ps = ps.drop 1 from rfl, show part0 false old ps = (ps[0]?.getD []) from rfl, HTL.out] at hrs0
        by_cases hL0 : L = 0
        · subst hL0
          have hps : ps = [] := List.eq_nil_of_length_eq_zero HLL.out
          rw [if_neg (fun h => h.1.elim (by simp) (fun h' => h' hps))] at hrs0
          subst hrs0
          clear hps
          go_wp2_with (first
          | (refine RA.out.load rfl 24 (.tmp 5) rfl rfl _ _ Try.underlying24 I0.out ?_)
          | (refine RN.out.store (m := ao) rfl 24 (.tmp 16) (.tmp 51) rfl rfl rfl I0.out (by rw [L0.out]; rfl) F0.out ?_))
          rw [HW3.out]
          go_ret
          exact ⟨rfl, by first | exact HBW.out.trans (M3.out.bel.mono (by omega)) | (rw [hA]; exact HBW.out.trans (M3.out.bel.mono (by omega)))⟩
        · obtain ⟨x0, hy⟩ : ∃ y, ps[0]? = some y := ⟨_, List.getElem?_eq_getElem (by rw [HLL.out]; omega)⟩
          obtain ⟨x32, -, g, o, rfl, py⟩ := HVW.out.at_ 0 (by rw [HLL.out]; omega) x0 hy
          rw [hy, Option.getD_some] at hrs0
          rw [Nat.zero_mul, Nat.add_zero] at py
          have hvd := HVW.out.drop 1 (L - 1) (c - 1) (by rw [HLL.out]; omega) (by rw [HLL.out]) rfl
          have kb := fun w => sums_run1 (some ⟨g, o, none⟩) L c 1 (by omega) 1 rfl (L - 1) (c - 1) rfl rfl w
          obtain ⟨xs, hxs⟩ : ∃ xs, ps.drop 1 = xs := ⟨_, rfl⟩
          have hxl : xs.length = L - 1 := by rw [← hxs, List.length_drop, HLL.out]
          rw [hxs] at hvd hrs0
          obtain ⟨CX, hCX⟩ : ∃ x, cutS (some ⟨g, o, none⟩) c 1 = x := ⟨_, rfl⟩
          obtain ⟨L2, hL2⟩ : ∃ x, L - 1 = x := ⟨_, rfl⟩
          obtain ⟨c2, hc2⟩ : ∃ x, c - 1 = x := ⟨_, rfl⟩
          rw [hCX, hL2, hc2] at hvd
          simp only [hCX, hL2, hc2] at kb
          rw [hL2] at hxl
          rw [hxl] at hrs0
          have hne : ps ≠ [] := fun h => by rw [h] at hy; cases hy
          have ix := info32 x0 x32
          have fx := enc8_all x0
          have oneX := enc8_one x0
          obtain ⟨ax, hax⟩ : ∃ ax, enc8 x0 = ax := ⟨_, rfl⟩
          have lx : ax.length = 32 := by rw [← hax, enc8_len, x32]
          rw [hax] at py ix fx oneX
          have hL0' : ((L : Int) == 0) = false := by simp; omega
          have hL0'' : (L == 0) = false := by simp; omega
          have hLp : (0 : Int) < (L : Int) := by omega
          have hLp2 : 0 < L := by omega
          have hgB : g < Ba := by have h0 : ax[0]? = some ax[0] := List.getElem?_eq_getElem (by omega); have := World.block_lt_of_cell? wo _ (py 0 _ h0); rw [← hBa]; exact this
          have PY := Lib.hid (rangeAt_below py (hBa ▸ M3.out.bel))
          have X32 := Lib.hid x32
          have HAX := Lib.hid hax
          have IX := Lib.hid ix
          have LX := Lib.hid lx
          have FX := Lib.hid fx
          have OX := Lib.hid oneX
          have HVX := Lib.hid hvd
          have HXL := Lib.hid hxl
          have HNE := Lib.hid hne
          clear hy py hvd hxs hxl hCX hL2 hc2 hne x32 hax ix fx lx oneX hL0
          go_wp2_with (first
          | (refine RA.out.load rfl 24 (.tmp 5) rfl rfl _ _ Try.underlying24 I0.out ?_)
          | (refine RN.out.store (m := ao) rfl 24 (.tmp 16) (.tmp 51) rfl rfl rfl I0.out (by rw [L0.out]; rfl) F0.out ?_))
          rw [HW3.out]
          have hu := Try.underlying24
          have ix := IX.out
          have ox := OX.out
          have lx := LX.out
          refine wp_region_noPanic ?_
          refine wp_region_held_drew (S := (fun w' => Mine Ba wo w' ∧ w'.rangeAt g o ax ∧ w'.there Ba 0 32)) (by kernel_rfl) ?_ (fun hHeld => ?_)
          · exact ⟨⟨M3.out.le, M3.out.bel.drew⟩, (World.rangeAt_drew _ _ _ _).2 PY.out, (World.there_drew _ _ _ _).2 (R3.out.there 32 L0.out.symm)⟩
          refine wpAnyH_take (i := 0) (oi := { dst := some 58, op := Op.move (Operand.tmp 17), type := 29, pos := "merkle.go:139", after := #[], guard := none }) (v := ?v0_0) rfl (by kernel_rfl) (by kernel_rfl) (by kernel_rfl) (fun _ _ _ h => h) (Or.inl ⟨by rfl, ?y0_0⟩) (by assumption) ?r0_0
          case y0_0 => intro w hSw; (try dsimp only at hSw); go_simp; try with_reducible rfl
          try simp only [Act.put, List.setIfInBounds_toArray, List.set_cons_zero, List.set_cons_succ]
          refine wpAnyH_take (i := 1) (oi := { dst := some 59, op := Op.indexAddr 29 (Operand.tmp 58) (Operand.const (Value.int IntKind.i64 0)), type := 0, pos := "merkle.go:139", after := #[{ on := 0, ground := Ground.data }], guard := none }) (v := ?v1_1) rfl (by kernel_rfl) (by kernel_rfl) (by kernel_rfl) (fun _ _ _ h => h) (Or.inl ⟨by rfl, ?y1_1⟩) (by assumption) ?r1_1
          case y1_1 => intro w hSw; (try dsimp only at hSw); go_simp; try with_reducible rfl
          try simp only [Act.put, List.setIfInBounds_toArray, List.set_cons_zero, List.set_cons_succ]
          refine wpAnyH_take (i := 2) (oi := { dst := some 60, op := Op.load 24 (Operand.tmp 59), type := 24, pos := "merkle.go:139", after := #[{ on := 1, ground := Ground.data }], guard := none }) (v := _) rfl (by kernel_rfl) (by kernel_rfl) (by kernel_rfl) (fun _ _ _ h => h) (yieldsIf_load_mid (by rfl) _ _ rfl _ _ rfl _ _ (by intro w hSw; (try dsimp only at hSw); go_split_ands; assumption) (by assumption) rfl (by first | assumption | (simp only [*]; done))) (by assumption) ?_
          try simp only [Act.put, List.setIfInBounds_toArray, List.set_cons_zero, List.set_cons_succ]
          refine wpAnyH_take (i := 3) (oi := { dst := some 61, op := Op.move (Operand.tmp 17), type := 29, pos := "merkle.go:139", after := #[], guard := none }) (v := ?v3_2) rfl (by kernel_rfl) (by kernel_rfl) (by kernel_rfl) (fun _ _ _ h => h) (Or.inl ⟨by rfl, ?y3_2⟩) (by assumption) ?r3_2
          case y3_2 => intro w hSw; (try dsimp only at hSw); go_simp; try with_reducible rfl
          try simp only [Act.put, List.setIfInBounds_toArray, List.set_cons_zero, List.set_cons_succ]
          refine wpAnyH_take (i := 4) (oi := { dst := some 62, op := Op.slice 29 (Operand.tmp 61) (some (Operand.const (Value.int IntKind.i64 1))) none none, type := 29, pos := "merkle.go:139", after := #[{ on := 3, ground := Ground.data }], guard := none }) (v := ?v4_3) rfl (by kernel_rfl) (by kernel_rfl) (by kernel_rfl) (fun _ _ _ h => h) (Or.inl ⟨by rfl, ?y4_3⟩) (by assumption) ?r4_3
          case y4_3 => intro w hSw; (try dsimp only at hSw); go_simp; try with_reducible rfl
          try simp only [Act.put, List.setIfInBounds_toArray, List.set_cons_zero, List.set_cons_succ]
          have hPre := hHeld
          refine wpAnyH_ready (rs := [5]) (by kernel_rfl) (by simp) (AllReadyH.cons (o := { dst := none, op := Op.store 24 (Operand.tmp 16) (Operand.tmp 60), type := 0, pos := "merkle.go:139", after := #[{ on := 2, ground := Ground.data }, { on := 0, ground := Ground.phase }, { on := 1, ground := Ground.phase }, { on := 2, ground := Ground.phase }, { on := 3, ground := Ground.textOnly Departure.lateStores }, { on := 4, ground := Ground.textOnly Departure.lateStoresUnsure }], guard := none }) rfl (fun K hK => ?_) AllReadyH.nil)
          rw [if_pos (by rfl)]
          refine wp_store_mid _ _ _ rfl _ _ (List.toArray _) rfl rfl (by go_split_ands; first | assumption | (simp only [List.size_toArray, *] <;> assumption)) (by first | assumption | (simp only [List.size_toArray] <;> assumption) | (simp only [List.size_toArray, *]; done)) (all_oneCell_toArray (by assumption)) ?_
          simp only [Act.put, List.setIfInBounds_toArray, List.set_cons_zero, List.set_cons_succ, List.toList_toArray]
          refine hK.out _ _ ?_ (fun hHeld => ?_)
          · (try dsimp only); (go_split_ands; (repeat' apply And.intro) <;> first | assumption | exact Mine.call (by assumption) (by assumption) | exact Mine.alloc (by assumption) _ | exact Mine.setCells (by assumption) _ _ _ (by omega) | exact Mine.callN (by assumption) (by assumption) (by omega) | exact Row.belowN (by assumption) (by assumption) (by omega) | exact there_belowN (by assumption) (by assumption) (by omega) | exact rangeAt_below (by assumption) (by assumption) | exact World.rangeAt_alloc (by assumption) _ | exact World.rangeAt_setCells_apart (by assumption) _ _ _ (Or.inl (by omega)) | exact there_below (by assumption) (by assumption) | exact World.there_alloc (by assumption) _ | exact World.there_setCells (by assumption) _ _ _ | exact Row.belowS (by assumption) (by assumption) | exact Row.alloc (by assumption) _ | exact Row.setCells (by assumption) _ _ (by omega) | exact HS.below (by assumption) (by assumption) | exact SB.below (by assumption) (by assumption) | exact HS.alloc (by assumption) _ | exact Box.call (by assumption) (by assumption) | exact Box.alloc (by assumption) _ | exact Box.put (by assumption) _ (by assumption) | exact cell_below (by assumption) (by assumption) | exact Lib.cell?_alloc_some _ (by assumption))
          clear hK K
          refine wpAnyH_take (i := 6) (oi := { dst := some 17, op := Op.assign (Operand.tmp 62), type := 29, pos := "merkle.go:139", after := #[{ on := 4, ground := Ground.data }, { on := 5, ground := Ground.chain }, { on := 0, ground := Ground.phase }, { on := 1, ground := Ground.phase }, { on := 2, ground := Ground.phase }, { on := 3, ground := Ground.phase }, { on := 4, ground := Ground.phase }, { on := 5, ground := Ground.phase }], guard := none }) (v := ?v6_4) rfl (by kernel_rfl) (by kernel_rfl) (by kernel_rfl) (fun _ _ _ h => h) (Or.inl ⟨by rfl, ?y6_4⟩) (by assumption) ?r6_4
          case y6_4 => intro w hSw; (try dsimp only at hSw); go_simp; try with_reducible rfl
          try simp only [Act.put, List.setIfInBounds_toArray, List.set_cons_zero, List.set_cons_succ]
          refine wpAnyH_done (by kernel_rfl) ?_ _
          refine NoPanic.normal ?_
          have hrA : Row W3.drew Ba 24 ao := R3.out
          have RX := Lib.hid (hrA.setCells_same ax (by rw [LX.out, L0.out]))
          have MX := Lib.hid hHeld.1
          clear hHeld hPre hrA hu ix ox lx
          obtain ⟨Wx, hWx⟩ : ∃ Wx, W3.drew.setCells Ba 0 ax = Wx := ⟨_, rfl⟩
          rw [hWx] at RX MX ⊢
          by_cases hlen : L2 = tl
          · subst hlen
            rw [if_pos ⟨.inr HNE.out, rfl⟩] at hrs0
            have hrs : res = ((two acc.reverse xs x0 L2).1 == old && (two acc.reverse xs x0 L2).2 == root) := hrs0
            clear hrs0 R3 M3 HVW HV HW3 RN
            obtain ⟨W4, hW4, q14, hkeep4, hb4⟩ := filled Wx ax
            obtain ⟨Bb, hBb⟩ : ∃ B, Wx.heap.size = B := ⟨_, rfl⟩
            have hBab : Ba < Bb := by have := RX.out.lt; omega
            have RN2 := Lib.hid (Row.new Wx #[.int .u8 0, .int .u8 0, .int .u8 0, .int .u8 0, .int .u8 0, .int .u8 0, .int .u8 0, .int .u8 0, .int .u8 0, .int .u8 0, .int .u8 0, .int .u8 0, .int .u8 0, .int .u8 0, .int .u8 0, .int .u8 0, .int .u8 0, .int .u8 0, .int .u8 0, .int .u8 0, .int .u8 0, .int .u8 0, .int .u8 0, .int .u8 0, .int .u8 0, .int .u8 0, .int .u8 0, .int .u8 0, .int .u8 0, .int .u8 0, .int .u8 0, .int .u8 0] 24)
            have R4a := Lib.hid (hkeep4 _ _ _ RX.out)
            have R4b := Lib.hid q14
            have M4 : Hid (Mine Ba wo W4) := Mine.callN hb4 MX.out (by omega)
            have HW4 := Lib.hid hW4
            rw [hBb] at R4b RN2 HW4
            have htw := two_length acc.reverse xs x0 X32.out
            have hstep : ∀ q, two acc.reverse xs x0 (q + 1) = if (acc.reverse[q]?.getD false) = true then (nodeL (xs[q]?.getD []) (two acc.reverse xs x0 q).1, nodeL (xs[q]?.getD []) (two acc.reverse xs x0 q).2) else ((two acc.reverse xs x0 q).1, nodeL (two acc.reverse xs x0 q).2 (xs[q]?.getD [])) := fun q => rfl
            have hf0 : two acc.reverse xs x0 0 = (x0, x0) := rfl
            have heq1 := fun w => run_eql_sum (two acc.reverse xs x0 L2).1 old (htw _).1 HO.out w
            have heq2 := fun w => run_eql_sum (two acc.reverse xs x0 L2).2 root (htw _).2 HRR.out w
            obtain ⟨f, hf⟩ : ∃ f, two acc.reverse xs x0 = f := ⟨_, rfl⟩
            rw [hf] at htw hstep hf0 heq1 heq2 hrs
            obtain ⟨b1, hb1⟩ : ∃ b, ((f L2).1 == old) = b := ⟨_, rfl⟩
            obtain ⟨b2, hb2⟩ : ∃ b, ((f L2).2 == root) = b := ⟨_, rfl⟩
            rw [hb1, hb2] at hrs
            rw [hb1, HAO.out] at heq1
            rw [hb2, HAR.out] at heq2
            have R40 : Hid (Row W4 Ba 24 (enc8 (f 0).1) ∧ Row W4 Bb 24 (enc8 (f 0).2)) := by rw [hf0]; rw [HAX.out]; exact ⟨R4a.out, R4b.out⟩
            have HTW := Lib.hid htw
            have HST := Lib.hid hstep
            have HEQ1 := Lib.hid heq1
            have HEQ2 := Lib.hid heq2
            have HRS := Lib.hid hrs
            clear hW4 q14 hkeep4 hb4 htw hstep hf0 heq1 heq2 hf hb1 hb2 hrs R4a R4b
            go_wp2_with (first
              | (refine RX.out.load rfl 24 (.tmp 16) rfl rfl _ _ Try.underlying24 IX.out ?_)
              | (refine RN2.out.store (m := ax) rfl 24 (.tmp 18) (.tmp 68) rfl rfl rfl IX.out (by rw [LX.out]; rfl) FX.out ?_))
            rw [HW4.out]
            go_loopw [71, 19, 20] (fun x y z wr => ∃ q : Nat, (x = .int .i64 (q : Int) ∧ q ≤ L2) ∧ Row wr Ba 24 (enc8 (f q).1) ∧ Row wr Bb 24 (enc8 (f q).2) ∧ Mine Ba wo wr) (fun x _ _ _ => L2 - (intOf x).toNat)
            case atStart => exact ⟨0, ⟨rfl, by omega⟩, R40.out.1, R40.out.2, M4.out⟩
            case round =>
              clear R40 M4 HW4 RN2 
              obtain ⟨q, ⟨rfl, hq⟩, rBa, rBb, mm⟩ := hrel
              by_cases hlt : q < L2
              · have hbm : Below wo.heap.size wo wr := by rw [hBa]; exact mm.bel
                obtain ⟨y, hy⟩ : ∃ y, xs[q]? = some y := ⟨_, List.getElem?_eq_getElem (by rw [HXL.out]; exact hlt)⟩
                obtain ⟨y32, -, g, o, rfl, py⟩ := (HVX.out.below hbm).at_ q (by rw [HXL.out]; exact hlt) y hy
                obtain ⟨ix, hix⟩ : ∃ ix, L2 - 1 - q = ix := ⟨_, rfl⟩
                obtain ⟨t, ht⟩ : ∃ t, acc[ix]? = some t := ⟨_, List.getElem?_eq_getElem (by have := HTL.out; omega)⟩
                obtain ⟨gt, rfl, hBt, hct⟩ := HCELL.out (by have := HTL.out; omega)
                have hct := hct ix t ht
                have hlt1 := World.block_lt_of_cell? wo _ hct
                rw [hBa] at hlt1
                have hrev : acc.reverse[q]? = some t := by rw [List.getElem?_reverse (by have := HTL.out; omega), HTL.out, hix, ht]
                have hs := HST.out q
                rw [hrev, hy] at hs
                simp only [Option.getD_some] at hs
                have x1 : IntKind.i64.wrap ((L2 : Int) - 1) = (L2 : Int) - 1 := IntWalk.i64_in _ (by omega)
                have x2 : IntKind.i64.wrap ((L2 : Int) - 1 - (q : Int)) = (ix : Int) := by rw [IntWalk.i64_in _ (by omega)]; omega
                have hxl : ix < L2 := by omega
                have hi1 : IntKind.i64.wrap ((q : Int) + 1) = (q : Int) + 1 := IntWalk.i64_in _ (by omega)
                have i2 := info32 y y32
                have f2 := enc8_all y
                have n1 := fun w' => node_any y (f q).1 y32 (HTW.out q).1 w'
                have n2 := fun w' => node_any y (f q).2 y32 (HTW.out q).2 w'
                have n3 := fun w' => node_any (f q).2 y (HTW.out q).2 y32 w'
                obtain ⟨ay, hay⟩ : ∃ ay, enc8 y = ay := ⟨_, rfl⟩
                have l2 : ay.length = 32 := by rw [← hay, enc8_len, y32]
                have i3 := info32 (f q).1 (HTW.out q).1
                have i4 := info32 (f q).2 (HTW.out q).2
                obtain ⟨aa, haa⟩ : ∃ a, enc8 (f q).1 = a := ⟨_, rfl⟩
                obtain ⟨ab, hab⟩ : ∃ a, enc8 (f q).2 = a := ⟨_, rfl⟩
                have la : aa.length = 32 := by rw [← haa, enc8_len, (HTW.out q).1]
                have lb : ab.length = 32 := by rw [← hab, enc8_len, (HTW.out q).2]
                rw [hay] at py i2 f2 n1 n2 n3
                rw [haa] at i3 n1 rBa
                rw [hab] at i4 n2 n3 rBb
                obtain ⟨W5, hW5, r5c, hkp, hb5⟩ := filled wr ay
                obtain ⟨Bc, hBc⟩ : ∃ B, wr.heap.size = B := ⟨_, rfl⟩
                have hBc1 : Bb < Bc := by have := rBb.lt; omega
                have RBA5 := Lib.hid (hkp _ _ _ rBa)
                have RBB5 := Lib.hid (hkp _ _ _ rBb)
                have m5 : Mine Ba wo W5 := Mine.callN hb5 mm mm.le
                have hc5 : ((wr.alloc (.cells #[.int .u8 0, .int .u8 0, .int .u8 0, .int .u8 0, .int .u8 0, .int .u8 0, .int .u8 0, .int .u8 0, .int .u8 0, .int .u8 0, .int .u8 0, .int .u8 0, .int .u8 0, .int .u8 0, .int .u8 0, .int .u8 0, .int .u8 0, .int .u8 0, .int .u8 0, .int .u8 0, .int .u8 0, .int .u8 0, .int .u8 0, .int .u8 0, .int .u8 0, .int .u8 0, .int .u8 0, .int .u8 0, .int .u8 0, .int .u8 0, .int .u8 0, .int .u8 0] 24)).setRow wr.heap.size ay.toArray).cell? ⟨gt, ix, none⟩ = some (.bool t) := by
                  rw [hW5]
                  exact (m5.bel.cell (p := ⟨gt, ix, none⟩) hlt1).trans hct
                have RN5 := Lib.hid (Row.new wr #[.int .u8 0, .int .u8 0, .int .u8 0, .int .u8 0, .int .u8 0, .int .u8 0, .int .u8 0, .int .u8 0, .int .u8 0, .int .u8 0, .int .u8 0, .int .u8 0, .int .u8 0, .int .u8 0, .int .u8 0, .int .u8 0, .int .u8 0, .int .u8 0, .int .u8 0, .int .u8 0, .int .u8 0, .int .u8 0, .int .u8 0, .int .u8 0, .int .u8 0, .int .u8 0, .int .u8 0, .int .u8 0, .int .u8 0, .int .u8 0, .int .u8 0, .int .u8 0] 24)
                have R5C := Lib.hid r5c
                have M5 := Lib.hid m5
                have HW5 := Lib.hid hW5
                rw [hBc] at RN5 R5C HW5 hc5
                have PY := Lib.hid py
                have I2 := Lib.hid i2
                have F2 := Lib.hid f2
                have L2 := Lib.hid l2
                have I3 := Lib.hid i3
                have I4 := Lib.hid i4
                have LA := Lib.hid la
                have LB := Lib.hid lb
                clear hbm hy y32 py ht hct hrev i2 f2 l2 i3 i4 la lb hW5 r5c hkp hb5 m5 rBa rBb mm hix hay
                cases t with
                | true =>
                  rw [if_pos rfl] at hs
                  have s1 : nodeL y (f q).1 = (f (q + 1)).1 := by rw [hs]
                  have s2 : nodeL y (f q).2 = (f (q + 1)).2 := by rw [hs]
                  simp only [s1] at n1
                  simp only [s2] at n2
                  have h32 := HTW.out (q + 1)
                  have hi6 := info32 (f (q + 1)).1 h32.1
                  have hi7 := info32 (f (q + 1)).2 h32.2
                  have ho6 := enc8_one (f (q + 1)).1
                  have ho7 := enc8_one (f (q + 1)).2
                  have hl6 : (enc8 (f (q + 1)).1).length = 32 := by rw [enc8_len, h32.1]
                  have hl7 : (enc8 (f (q + 1)).2).length = 32 := by rw [enc8_len, h32.2]
                  obtain ⟨an, han⟩ : ∃ a, enc8 (f (q + 1)).1 = a := ⟨_, rfl⟩
                  obtain ⟨bn, hbn⟩ : ∃ a, enc8 (f (q + 1)).2 = a := ⟨_, rfl⟩
                  rw [han] at n1 hi6 ho6 hl6
                  rw [hbn] at n2 hi7 ho7 hl7
                  have HN1 := Lib.hid n1
                  have HN2 := Lib.hid n2
                  have HI6 := Lib.hid hi6
                  have HI7 := Lib.hid hi7
                  have HO6 := Lib.hid ho6
                  have HO7 := Lib.hid ho7
                  have HL6 := Lib.hid hl6
                  have HL7 := Lib.hid hl7
                  have HAN := Lib.hid han
                  have HBN := Lib.hid hbn
                  clear n1 n2 n3 hs s1 s2 h32 hi6 hi7 ho6 ho7 hl6 hl7 han hbn haa hab
                  go_wp2_with (first
                    | (refine wpList_load_mid rfl 24 (.tmp 74) rfl g (o + q * 32) rfl ay _ PY.out Try.underlying24 rfl I2.out ?_)
                    | (refine RN5.out.store (m := ay) rfl 24 (.tmp 20) (.tmp 75) rfl rfl rfl I2.out (by rw [L2.out]; rfl) F2.out ?_))
                  rw [HW5.out]
                  have hu := Try.underlying24
                  have ia := I3.out
                  have ib := I4.out
                  have ic := I2.out
                  have pa : W5.drew.rangeAt Ba 0 aa := (World.rangeAt_drew _ _ _ _).2 RBA5.out.range
                  have pb : W5.drew.rangeAt Bb 0 ab := (World.rangeAt_drew _ _ _ _).2 RBB5.out.range
                  refine wp_region_noPanic ?_
                  refine wp_region_held_drew (S := (fun w' => Mine Ba wo w' ∧ w'.rangeAt Bc 0 ay ∧ w'.there Ba 0 32 ∧ w'.there Bb 0 32)) (by kernel_rfl) ?_ (fun hHeld => ?_)
                  · exact ⟨⟨M5.out.le, M5.out.bel.drew⟩, (World.rangeAt_drew _ _ _ _).2 R5C.out.range, (World.there_drew _ _ _ _).2 (RBA5.out.there 32 LA.out.symm), (World.there_drew _ _ _ _).2 (RBB5.out.there 32 LB.out.symm)⟩
                  refine wpAnyH_take (i := 0) (oi := { dst := some 84, op := Op.load 24 (Operand.tmp 20), type := 24, pos := "merkle.go:147", after := #[], guard := none }) (v := _) rfl (by kernel_rfl) (by kernel_rfl) (by kernel_rfl) (fun _ _ _ h => h) (yieldsIf_load_mid (by rfl) _ _ rfl _ _ rfl _ _ (by intro w hSw; (try dsimp only at hSw); go_split_ands; assumption) (by assumption) rfl (by first | assumption | (simp only [*]; done))) (by assumption) ?_
                  try simp only [Act.put, List.setIfInBounds_toArray, List.set_cons_zero, List.set_cons_succ]
                  refine wpAnyH_take (i := 3) (oi := { dst := some 87, op := Op.load 24 (Operand.tmp 20), type := 24, pos := "merkle.go:147", after := #[], guard := none }) (v := _) rfl (by kernel_rfl) (by kernel_rfl) (by kernel_rfl) (fun _ _ _ h => h) (yieldsIf_load_mid (by rfl) _ _ rfl _ _ rfl _ _ (by intro w hSw; (try dsimp only at hSw); go_split_ands; assumption) (by assumption) rfl (by first | assumption | (simp only [*]; done))) (by assumption) ?_
                  try simp only [Act.put, List.setIfInBounds_toArray, List.set_cons_zero, List.set_cons_succ]
                  refine wpAnyH_ready (rs := [1, 4]) (by kernel_rfl) (by simp) (AllReadyH.cons (o := { dst := some 85, op := Op.load 24 (Operand.tmp 16), type := 24, pos := "merkle.go:147", after := #[], guard := none }) rfl (fun K hK => ?_) (AllReadyH.cons (o := { dst := some 88, op := Op.load 24 (Operand.tmp 18), type := 24, pos := "merkle.go:147", after := #[], guard := none }) rfl (fun K hK => ?_) (AllReadyH.nil)))
                  ·
                    rw [if_pos (by rfl)]
                    refine wp_load_mid _ _ rfl _ _ rfl _ _ (by assumption) (by assumption) rfl (by first | assumption | (simp only [*]; done)) ?_
                    try simp only [Act.put, List.setIfInBounds_toArray, List.set_cons_zero, List.set_cons_succ]
                    refine hK.out _ _ ?_ (fun hHeld => ?_)
                    · (try dsimp only); (go_split_ands; (repeat' apply And.intro) <;> first | assumption | exact Mine.call (by assumption) (by assumption) | exact Mine.alloc (by assumption) _ | exact Mine.setCells (by assumption) _ _ _ (by omega) | exact Mine.callN (by assumption) (by assumption) (by omega) | exact Row.belowN (by assumption) (by assumption) (by omega) | exact there_belowN (by assumption) (by assumption) (by omega) | exact rangeAt_below (by assumption) (by assumption) | exact World.rangeAt_alloc (by assumption) _ | exact World.rangeAt_setCells_apart (by assumption) _ _ _ (Or.inl (by omega)) | exact there_below (by assumption) (by assumption) | exact World.there_alloc (by assumption) _ | exact World.there_setCells (by assumption) _ _ _ | exact Row.belowS (by assumption) (by assumption) | exact Row.alloc (by assumption) _ | exact Row.setCells (by assumption) _ _ (by omega) | exact HS.below (by assumption) (by assumption) | exact SB.below (by assumption) (by assumption) | exact HS.alloc (by assumption) _ | exact Box.call (by assumption) (by assumption) | exact Box.alloc (by assumption) _ | exact Box.put (by assumption) _ (by assumption) | exact cell_below (by assumption) (by assumption) | exact Lib.cell?_alloc_some _ (by assumption))
                    clear hK K
                    refine wpAnyH_ready (rs := [2, 4]) (by kernel_rfl) (by simp) (AllReadyH.cons (o := { dst := some 86, op := Op.call { callee := Callee.value (Operand.func 24), args := #[Operand.tmp 84, Operand.tmp 85], argTypes := #[24, 24] }, type := 24, pos := "merkle.go:147", after := #[{ on := 0, ground := Ground.data }, { on := 1, ground := Ground.data }], guard := none }) rfl (fun K hK => ?_) (AllReadyH.cons (o := { dst := some 88, op := Op.load 24 (Operand.tmp 18), type := 24, pos := "merkle.go:147", after := #[], guard := none }) rfl (fun K hK => ?_) (AllReadyH.nil)))
                    ·
                      go_simp
                      refine (HN1.out _).mono ?_; rintro e w6 ⟨rfl, hb6⟩; have pb6 := rangeAt_below pb hb6
                      go_wp2_with fail
                      refine hK.out _ _ ?_ (fun hHeld => ?_)
                      · (try dsimp only); (go_split_ands; (repeat' apply And.intro) <;> first | assumption | exact Mine.call (by assumption) (by assumption) | exact Mine.alloc (by assumption) _ | exact Mine.setCells (by assumption) _ _ _ (by omega) | exact Mine.callN (by assumption) (by assumption) (by omega) | exact Row.belowN (by assumption) (by assumption) (by omega) | exact there_belowN (by assumption) (by assumption) (by omega) | exact rangeAt_below (by assumption) (by assumption) | exact World.rangeAt_alloc (by assumption) _ | exact World.rangeAt_setCells_apart (by assumption) _ _ _ (Or.inl (by omega)) | exact there_below (by assumption) (by assumption) | exact World.there_alloc (by assumption) _ | exact World.there_setCells (by assumption) _ _ _ | exact Row.belowS (by assumption) (by assumption) | exact Row.alloc (by assumption) _ | exact Row.setCells (by assumption) _ _ (by omega) | exact HS.below (by assumption) (by assumption) | exact SB.below (by assumption) (by assumption) | exact HS.alloc (by assumption) _ | exact Box.call (by assumption) (by assumption) | exact Box.alloc (by assumption) _ | exact Box.put (by assumption) _ (by assumption) | exact cell_below (by assumption) (by assumption) | exact Lib.cell?_alloc_some _ (by assumption))
                      clear hK K
                      try simp only [Act.put, List.setIfInBounds_toArray, List.set_cons_zero, List.set_cons_succ]
                      refine wpAnyH_ready (rs := [4]) (by kernel_rfl) (by simp) (AllReadyH.cons (o := { dst := some 88, op := Op.load 24 (Operand.tmp 18), type := 24, pos := "merkle.go:147", after := #[], guard := none }) rfl (fun K hK => ?_) (AllReadyH.nil))
                      rw [if_pos (by rfl)]
                      refine wp_load_mid _ _ rfl _ _ rfl _ _ (by assumption) (by assumption) rfl (by first | assumption | (simp only [*]; done)) ?_
                      try simp only [Act.put, List.setIfInBounds_toArray, List.set_cons_zero, List.set_cons_succ]
                      refine hK.out _ _ ?_ (fun hHeld => ?_)
                      · (try dsimp only); (go_split_ands; (repeat' apply And.intro) <;> first | assumption | exact Mine.call (by assumption) (by assumption) | exact Mine.alloc (by assumption) _ | exact Mine.setCells (by assumption) _ _ _ (by omega) | exact Mine.callN (by assumption) (by assumption) (by omega) | exact Row.belowN (by assumption) (by assumption) (by omega) | exact there_belowN (by assumption) (by assumption) (by omega) | exact rangeAt_below (by assumption) (by assumption) | exact World.rangeAt_alloc (by assumption) _ | exact World.rangeAt_setCells_apart (by assumption) _ _ _ (Or.inl (by omega)) | exact there_below (by assumption) (by assumption) | exact World.there_alloc (by assumption) _ | exact World.there_setCells (by assumption) _ _ _ | exact Row.belowS (by assumption) (by assumption) | exact Row.alloc (by assumption) _ | exact Row.setCells (by assumption) _ _ (by omega) | exact HS.below (by assumption) (by assumption) | exact SB.below (by assumption) (by assumption) | exact HS.alloc (by assumption) _ | exact Box.call (by assumption) (by assumption) | exact Box.alloc (by assumption) _ | exact Box.put (by assumption) _ (by assumption) | exact cell_below (by assumption) (by assumption) | exact Lib.cell?_alloc_some _ (by assumption))
                      clear hK K
                      refine wpAnyH_ready (rs := [5]) (by kernel_rfl) (by simp) (AllReadyH.cons (o := { dst := some 89, op := Op.call { callee := Callee.value (Operand.func 24), args := #[Operand.tmp 87, Operand.tmp 88], argTypes := #[24, 24] }, type := 24, pos := "merkle.go:147", after := #[{ on := 3, ground := Ground.data }, { on := 4, ground := Ground.data }, { on := 2, ground := Ground.chain }], guard := none }) rfl (fun K hK => ?_) AllReadyH.nil)
                      go_simp
                      refine (HN2.out _).mono ?_; rintro e w7 ⟨rfl, hb7⟩; have hi6 := HI6.out; have hi7 := HI7.out; have ho6 := HO6.out; have ho7 := HO7.out; have hl6 := HL6.out; have hl7 := HL7.out
                      go_wp2_with fail
                      refine hK.out _ _ ?_ (fun hHeld => ?_)
                      · (try dsimp only); (go_split_ands; (repeat' apply And.intro) <;> first | assumption | exact Mine.call (by assumption) (by assumption) | exact Mine.alloc (by assumption) _ | exact Mine.setCells (by assumption) _ _ _ (by omega) | exact Mine.callN (by assumption) (by assumption) (by omega) | exact Row.belowN (by assumption) (by assumption) (by omega) | exact there_belowN (by assumption) (by assumption) (by omega) | exact rangeAt_below (by assumption) (by assumption) | exact World.rangeAt_alloc (by assumption) _ | exact World.rangeAt_setCells_apart (by assumption) _ _ _ (Or.inl (by omega)) | exact there_below (by assumption) (by assumption) | exact World.there_alloc (by assumption) _ | exact World.there_setCells (by assumption) _ _ _ | exact Row.belowS (by assumption) (by assumption) | exact Row.alloc (by assumption) _ | exact Row.setCells (by assumption) _ _ (by omega) | exact HS.below (by assumption) (by assumption) | exact SB.below (by assumption) (by assumption) | exact HS.alloc (by assumption) _ | exact Box.call (by assumption) (by assumption) | exact Box.alloc (by assumption) _ | exact Box.put (by assumption) _ (by assumption) | exact cell_below (by assumption) (by assumption) | exact Lib.cell?_alloc_some _ (by assumption))
                      clear hK K
                      try simp only [Act.put, List.setIfInBounds_toArray, List.set_cons_zero, List.set_cons_succ]
                      have hPre := hHeld
                      refine wpAnyH_ready (rs := [6]) (by kernel_rfl) (by simp) (AllReadyH.cons (o := { dst := none, op := Op.store 24 (Operand.tmp 16) (Operand.tmp 86), type := 0, pos := "merkle.go:147", after := #[{ on := 2, ground := Ground.data }, { on := 5, ground := Ground.chain }, { on := 0, ground := Ground.phase }, { on := 1, ground := Ground.phase }, { on := 2, ground := Ground.phase }, { on := 3, ground := Ground.textOnly Departure.lateStores }, { on := 4, ground := Ground.textOnly Departure.lateStores }, { on := 5, ground := Ground.textOnly Departure.lateStoresUnsure }], guard := none }) rfl (fun K hK => ?_) AllReadyH.nil)
                      rw [if_pos (by rfl)]
                      refine wp_store_mid _ _ _ rfl _ _ (List.toArray _) rfl rfl (by go_split_ands; first | assumption | (simp only [List.size_toArray, *] <;> assumption)) (by first | assumption | (simp only [List.size_toArray] <;> assumption) | (simp only [List.size_toArray, *]; done)) (all_oneCell_toArray (by assumption)) ?_
                      simp only [Act.put, List.setIfInBounds_toArray, List.set_cons_zero, List.set_cons_succ, List.toList_toArray]
                      refine hK.out _ _ ?_ (fun hHeld => ?_)
                      · (try dsimp only); (go_split_ands; (repeat' apply And.intro) <;> first | assumption | exact Mine.call (by assumption) (by assumption) | exact Mine.alloc (by assumption) _ | exact Mine.setCells (by assumption) _ _ _ (by omega) | exact Mine.callN (by assumption) (by assumption) (by omega) | exact Row.belowN (by assumption) (by assumption) (by omega) | exact there_belowN (by assumption) (by assumption) (by omega) | exact rangeAt_below (by assumption) (by assumption) | exact World.rangeAt_alloc (by assumption) _ | exact World.rangeAt_setCells_apart (by assumption) _ _ _ (Or.inl (by omega)) | exact there_below (by assumption) (by assumption) | exact World.there_alloc (by assumption) _ | exact World.there_setCells (by assumption) _ _ _ | exact Row.belowS (by assumption) (by assumption) | exact Row.alloc (by assumption) _ | exact Row.setCells (by assumption) _ _ (by omega) | exact HS.below (by assumption) (by assumption) | exact SB.below (by assumption) (by assumption) | exact HS.alloc (by assumption) _ | exact Box.call (by assumption) (by assumption) | exact Box.alloc (by assumption) _ | exact Box.put (by assumption) _ (by assumption) | exact cell_below (by assumption) (by assumption) | exact Lib.cell?_alloc_some _ (by assumption))
                      clear hK K
                      have hPre := hHeld
                      refine wpAnyH_ready (rs := [7]) (by kernel_rfl) (by simp) (AllReadyH.cons (o := { dst := none, op := Op.store 24 (Operand.tmp 18) (Operand.tmp 89), type := 0, pos := "merkle.go:147", after := #[{ on := 5, ground := Ground.data }, { on := 6, ground := Ground.chain }, { on := 0, ground := Ground.phase }, { on := 1, ground := Ground.phase }, { on := 2, ground := Ground.phase }, { on := 3, ground := Ground.phase }, { on := 4, ground := Ground.phase }, { on := 5, ground := Ground.phase }, { on := 6, ground := Ground.phase }], guard := none }) rfl (fun K hK => ?_) AllReadyH.nil)
                      rw [if_pos (by rfl)]
                      refine wp_store_mid _ _ _ rfl _ _ (List.toArray _) rfl rfl (by go_split_ands; first | assumption | (simp only [List.size_toArray, *] <;> assumption)) (by first | assumption | (simp only [List.size_toArray] <;> assumption) | (simp only [List.size_toArray, *]; done)) (all_oneCell_toArray (by assumption)) ?_
                      simp only [Act.put, List.setIfInBounds_toArray, List.set_cons_zero, List.set_cons_succ, List.toList_toArray]
                      refine hK.out _ _ ?_ (fun hHeld => ?_)
                      · (try dsimp only); (go_split_ands; (repeat' apply And.intro) <;> first | assumption | exact Mine.call (by assumption) (by assumption) | exact Mine.alloc (by assumption) _ | exact Mine.setCells (by assumption) _ _ _ (by omega) | exact Mine.callN (by assumption) (by assumption) (by omega) | exact Row.belowN (by assumption) (by assumption) (by omega) | exact there_belowN (by assumption) (by assumption) (by omega) | exact rangeAt_below (by assumption) (by assumption) | exact World.rangeAt_alloc (by assumption) _ | exact World.rangeAt_setCells_apart (by assumption) _ _ _ (Or.inl (by omega)) | exact there_below (by assumption) (by assumption) | exact World.there_alloc (by assumption) _ | exact World.there_setCells (by assumption) _ _ _ | exact Row.belowS (by assumption) (by assumption) | exact Row.alloc (by assumption) _ | exact Row.setCells (by assumption) _ _ (by omega) | exact HS.below (by assumption) (by assumption) | exact SB.below (by assumption) (by assumption) | exact HS.alloc (by assumption) _ | exact Box.call (by assumption) (by assumption) | exact Box.alloc (by assumption) _ | exact Box.put (by assumption) _ (by assumption) | exact cell_below (by assumption) (by assumption) | exact Lib.cell?_alloc_some _ (by assumption))
                      clear hK K
                      refine wpAnyH_done (by kernel_rfl) ?_ _
                      refine NoPanic.normal ?_
                      have hrA : Row W5.drew Ba 24 aa := RBA5.out
                      have hrB : Row W5.drew Bb 24 ab := RBB5.out
                      have q7 := ((hrA.belowS hb6).belowS hb7).setCells_same an (by rw [HL6.out, LA.out])
                      have p7 := ((hrB.belowS hb6).belowS hb7).setCells_other an 0 (g := Ba) (by omega)
                      have q8 := q7.setCells_other bn 0 (g := Bb) (by omega)
                      have p8 := p7.setCells_same bn (by rw [HL7.out, LB.out])
                      have QF := Lib.hid q8
                      have PF := Lib.hid p8
                      have MF := Lib.hid hHeld.1
                      clear hHeld hPre q7 p7 q8 p8 hrA hrB pa pb pb6
                      go_wp2
                      go_roundw
                      case rel => exact ⟨q + 1, ⟨by go_num, by omega⟩, by rw [HAN.out]; exact QF.out, by rw [HBN.out]; exact PF.out, MF.out⟩
                      case measure => simp [intOf]; omega
                    ·
                      rw [if_pos (by rfl)]
                      refine wp_load_mid _ _ rfl _ _ rfl _ _ (by assumption) (by assumption) rfl (by first | assumption | (simp only [*]; done)) ?_
                      try simp only [Act.put, List.setIfInBounds_toArray, List.set_cons_zero, List.set_cons_succ]
                      refine hK.out _ _ ?_ (fun hHeld => ?_)
                      · (try dsimp only); (go_split_ands; (repeat' apply And.intro) <;> first | assumption | exact Mine.call (by assumption) (by assumption) | exact Mine.alloc (by assumption) _ | exact Mine.setCells (by assumption) _ _ _ (by omega) | exact Mine.callN (by assumption) (by assumption) (by omega) | exact Row.belowN (by assumption) (by assumption) (by omega) | exact there_belowN (by assumption) (by assumption) (by omega) | exact rangeAt_below (by assumption) (by assumption) | exact World.rangeAt_alloc (by assumption) _ | exact World.rangeAt_setCells_apart (by assumption) _ _ _ (Or.inl (by omega)) | exact there_below (by assumption) (by assumption) | exact World.there_alloc (by assumption) _ | exact World.there_setCells (by assumption) _ _ _ | exact Row.belowS (by assumption) (by assumption) | exact Row.alloc (by assumption) _ | exact Row.setCells (by assumption) _ _ (by omega) | exact HS.below (by assumption) (by assumption) | exact SB.below (by assumption) (by assumption) | exact HS.alloc (by assumption) _ | exact Box.call (by assumption) (by assumption) | exact Box.alloc (by assumption) _ | exact Box.put (by assumption) _ (by assumption) | exact cell_below (by assumption) (by assumption) | exact Lib.cell?_alloc_some _ (by assumption))
                      clear hK K
                      refine wpAnyH_ready (rs := [2]) (by kernel_rfl) (by simp) (AllReadyH.cons (o := { dst := some 86, op := Op.call { callee := Callee.value (Operand.func 24), args := #[Operand.tmp 84, Operand.tmp 85], argTypes := #[24, 24] }, type := 24, pos := "merkle.go:147", after := #[{ on := 0, ground := Ground.data }, { on := 1, ground := Ground.data }], guard := none }) rfl (fun K hK => ?_) (AllReadyH.nil))
                      go_simp
                      refine (HN1.out _).mono ?_; rintro e w6 ⟨rfl, hb6⟩; have pb6 := rangeAt_below pb hb6
                      go_wp2_with fail
                      refine hK.out _ _ ?_ (fun hHeld => ?_)
                      · (try dsimp only); (go_split_ands; (repeat' apply And.intro) <;> first | assumption | exact Mine.call (by assumption) (by assumption) | exact Mine.alloc (by assumption) _ | exact Mine.setCells (by assumption) _ _ _ (by omega) | exact Mine.callN (by assumption) (by assumption) (by omega) | exact Row.belowN (by assumption) (by assumption) (by omega) | exact there_belowN (by assumption) (by assumption) (by omega) | exact rangeAt_below (by assumption) (by assumption) | exact World.rangeAt_alloc (by assumption) _ | exact World.rangeAt_setCells_apart (by assumption) _ _ _ (Or.inl (by omega)) | exact there_below (by assumption) (by assumption) | exact World.there_alloc (by assumption) _ | exact World.there_setCells (by assumption) _ _ _ | exact Row.belowS (by assumption) (by assumption) | exact Row.alloc (by assumption) _ | exact Row.setCells (by assumption) _ _ (by omega) | exact HS.below (by assumption) (by assumption) | exact SB.below (by assumption) (by assumption) | exact HS.alloc (by assumption) _ | exact Box.call (by assumption) (by assumption) | exact Box.alloc (by assumption) _ | exact Box.put (by assumption) _ (by assumption) | exact cell_below (by assumption) (by assumption) | exact Lib.cell?_alloc_some _ (by assumption))
                      clear hK K
                      try simp only [Act.put, List.setIfInBounds_toArray, List.set_cons_zero, List.set_cons_succ]
                      refine wpAnyH_ready (rs := [5]) (by kernel_rfl) (by simp) (AllReadyH.cons (o := { dst := some 89, op := Op.call { callee := Callee.value (Operand.func 24), args := #[Operand.tmp 87, Operand.tmp 88], argTypes := #[24, 24] }, type := 24, pos := "merkle.go:147", after := #[{ on := 3, ground := Ground.data }, { on := 4, ground := Ground.data }, { on := 2, ground := Ground.chain }], guard := none }) rfl (fun K hK => ?_) AllReadyH.nil)
                      go_simp
                      refine (HN2.out _).mono ?_; rintro e w7 ⟨rfl, hb7⟩; have hi6 := HI6.out; have hi7 := HI7.out; have ho6 := HO6.out; have ho7 := HO7.out; have hl6 := HL6.out; have hl7 := HL7.out
                      go_wp2_with fail
                      refine hK.out _ _ ?_ (fun hHeld => ?_)
                      · (try dsimp only); (go_split_ands; (repeat' apply And.intro) <;> first | assumption | exact Mine.call (by assumption) (by assumption) | exact Mine.alloc (by assumption) _ | exact Mine.setCells (by assumption) _ _ _ (by omega) | exact Mine.callN (by assumption) (by assumption) (by omega) | exact Row.belowN (by assumption) (by assumption) (by omega) | exact there_belowN (by assumption) (by assumption) (by omega) | exact rangeAt_below (by assumption) (by assumption) | exact World.rangeAt_alloc (by assumption) _ | exact World.rangeAt_setCells_apart (by assumption) _ _ _ (Or.inl (by omega)) | exact there_below (by assumption) (by assumption) | exact World.there_alloc (by assumption) _ | exact World.there_setCells (by assumption) _ _ _ | exact Row.belowS (by assumption) (by assumption) | exact Row.alloc (by assumption) _ | exact Row.setCells (by assumption) _ _ (by omega) | exact HS.below (by assumption) (by assumption) | exact SB.below (by assumption) (by assumption) | exact HS.alloc (by assumption) _ | exact Box.call (by assumption) (by assumption) | exact Box.alloc (by assumption) _ | exact Box.put (by assumption) _ (by assumption) | exact cell_below (by assumption) (by assumption) | exact Lib.cell?_alloc_some _ (by assumption))
                      clear hK K
                      try simp only [Act.put, List.setIfInBounds_toArray, List.set_cons_zero, List.set_cons_succ]
                      have hPre := hHeld
                      refine wpAnyH_ready (rs := [6]) (by kernel_rfl) (by simp) (AllReadyH.cons (o := { dst := none, op := Op.store 24 (Operand.tmp 16) (Operand.tmp 86), type := 0, pos := "merkle.go:147", after := #[{ on := 2, ground := Ground.data }, { on := 5, ground := Ground.chain }, { on := 0, ground := Ground.phase }, { on := 1, ground := Ground.phase }, { on := 2, ground := Ground.phase }, { on := 3, ground := Ground.textOnly Departure.lateStores }, { on := 4, ground := Ground.textOnly Departure.lateStores }, { on := 5, ground := Ground.textOnly Departure.lateStoresUnsure }], guard := none }) rfl (fun K hK => ?_) AllReadyH.nil)
                      rw [if_pos (by rfl)]
                      refine wp_store_mid _ _ _ rfl _ _ (List.toArray _) rfl rfl (by go_split_ands; first | assumption | (simp only [List.size_toArray, *] <;> assumption)) (by first | assumption | (simp only [List.size_toArray] <;> assumption) | (simp only [List.size_toArray, *]; done)) (all_oneCell_toArray (by assumption)) ?_
                      simp only [Act.put, List.setIfInBounds_toArray, List.set_cons_zero, List.set_cons_succ, List.toList_toArray]
                      refine hK.out _ _ ?_ (fun hHeld => ?_)
                      · (try dsimp only); (go_split_ands; (repeat' apply And.intro) <;> first | assumption | exact Mine.call (by assumption) (by assumption) | exact Mine.alloc (by assumption) _ | exact Mine.setCells (by assumption) _ _ _ (by omega) | exact Mine.callN (by assumption) (by assumption) (by omega) | exact Row.belowN (by assumption) (by assumption) (by omega) | exact there_belowN (by assumption) (by assumption) (by omega) | exact rangeAt_below (by assumption) (by assumption) | exact World.rangeAt_alloc (by assumption) _ | exact World.rangeAt_setCells_apart (by assumption) _ _ _ (Or.inl (by omega)) | exact there_below (by assumption) (by assumption) | exact World.there_alloc (by assumption) _ | exact World.there_setCells (by assumption) _ _ _ | exact Row.belowS (by assumption) (by assumption) | exact Row.alloc (by assumption) _ | exact Row.setCells (by assumption) _ _ (by omega) | exact HS.below (by assumption) (by assumption) | exact SB.below (by assumption) (by assumption) | exact HS.alloc (by assumption) _ | exact Box.call (by assumption) (by assumption) | exact Box.alloc (by assumption) _ | exact Box.put (by assumption) _ (by assumption) | exact cell_below (by assumption) (by assumption) | exact Lib.cell?_alloc_some _ (by assumption))
                      clear hK K
                      have hPre := hHeld
                      refine wpAnyH_ready (rs := [7]) (by kernel_rfl) (by simp) (AllReadyH.cons (o := { dst := none, op := Op.store 24 (Operand.tmp 18) (Operand.tmp 89), type := 0, pos := "merkle.go:147", after := #[{ on := 5, ground := Ground.data }, { on := 6, ground := Ground.chain }, { on := 0, ground := Ground.phase }, { on := 1, ground := Ground.phase }, { on := 2, ground := Ground.phase }, { on := 3, ground := Ground.phase }, { on := 4, ground := Ground.phase }, { on := 5, ground := Ground.phase }, { on := 6, ground := Ground.phase }], guard := none }) rfl (fun K hK => ?_) AllReadyH.nil)
                      rw [if_pos (by rfl)]
                      refine wp_store_mid _ _ _ rfl _ _ (List.toArray _) rfl rfl (by go_split_ands; first | assumption | (simp only [List.size_toArray, *] <;> assumption)) (by first | assumption | (simp only [List.size_toArray] <;> assumption) | (simp only [List.size_toArray, *]; done)) (all_oneCell_toArray (by assumption)) ?_
                      simp only [Act.put, List.setIfInBounds_toArray, List.set_cons_zero, List.set_cons_succ, List.toList_toArray]
                      refine hK.out _ _ ?_ (fun hHeld => ?_)
                      · (try dsimp only); (go_split_ands; (repeat' apply And.intro) <;> first | assumption | exact Mine.call (by assumption) (by assumption) | exact Mine.alloc (by assumption) _ | exact Mine.setCells (by assumption) _ _ _ (by omega) | exact Mine.callN (by assumption) (by assumption) (by omega) | exact Row.belowN (by assumption) (by assumption) (by omega) | exact there_belowN (by assumption) (by assumption) (by omega) | exact rangeAt_below (by assumption) (by assumption) | exact World.rangeAt_alloc (by assumption) _ | exact World.rangeAt_setCells_apart (by assumption) _ _ _ (Or.inl (by omega)) | exact there_below (by assumption) (by assumption) | exact World.there_alloc (by assumption) _ | exact World.there_setCells (by assumption) _ _ _ | exact Row.belowS (by assumption) (by assumption) | exact Row.alloc (by assumption) _ | exact Row.setCells (by assumption) _ _ (by omega) | exact HS.below (by assumption) (by assumption) | exact SB.below (by assumption) (by assumption) | exact HS.alloc (by assumption) _ | exact Box.call (by assumption) (by assumption) | exact Box.alloc (by assumption) _ | exact Box.put (by assumption) _ (by assumption) | exact cell_below (by assumption) (by assumption) | exact Lib.cell?_alloc_some _ (by assumption))
                      clear hK K
                      refine wpAnyH_done (by kernel_rfl) ?_ _
                      refine NoPanic.normal ?_
                      have hrA : Row W5.drew Ba 24 aa := RBA5.out
                      have hrB : Row W5.drew Bb 24 ab := RBB5.out
                      have q7 := ((hrA.belowS hb6).belowS hb7).setCells_same an (by rw [HL6.out, LA.out])
                      have p7 := ((hrB.belowS hb6).belowS hb7).setCells_other an 0 (g := Ba) (by omega)
                      have q8 := q7.setCells_other bn 0 (g := Bb) (by omega)
                      have p8 := p7.setCells_same bn (by rw [HL7.out, LB.out])
                      have QF := Lib.hid q8
                      have PF := Lib.hid p8
                      have MF := Lib.hid hHeld.1
                      clear hHeld hPre q7 p7 q8 p8 hrA hrB pa pb pb6
                      go_wp2
                      go_roundw
                      case rel => exact ⟨q + 1, ⟨by go_num, by omega⟩, by rw [HAN.out]; exact QF.out, by rw [HBN.out]; exact PF.out, MF.out⟩
                      case measure => simp [intOf]; omega
                  ·
                    rw [if_pos (by rfl)]
                    refine wp_load_mid _ _ rfl _ _ rfl _ _ (by assumption) (by assumption) rfl (by first | assumption | (simp only [*]; done)) ?_
                    try simp only [Act.put, List.setIfInBounds_toArray, List.set_cons_zero, List.set_cons_succ]
                    refine hK.out _ _ ?_ (fun hHeld => ?_)
                    · (try dsimp only); (go_split_ands; (repeat' apply And.intro) <;> first | assumption | exact Mine.call (by assumption) (by assumption) | exact Mine.alloc (by assumption) _ | exact Mine.setCells (by assumption) _ _ _ (by omega) | exact Mine.callN (by assumption) (by assumption) (by omega) | exact Row.belowN (by assumption) (by assumption) (by omega) | exact there_belowN (by assumption) (by assumption) (by omega) | exact rangeAt_below (by assumption) (by assumption) | exact World.rangeAt_alloc (by assumption) _ | exact World.rangeAt_setCells_apart (by assumption) _ _ _ (Or.inl (by omega)) | exact there_below (by assumption) (by assumption) | exact World.there_alloc (by assumption) _ | exact World.there_setCells (by assumption) _ _ _ | exact Row.belowS (by assumption) (by assumption) | exact Row.alloc (by assumption) _ | exact Row.setCells (by assumption) _ _ (by omega) | exact HS.below (by assumption) (by assumption) | exact SB.below (by assumption) (by assumption) | exact HS.alloc (by assumption) _ | exact Box.call (by assumption) (by assumption) | exact Box.alloc (by assumption) _ | exact Box.put (by assumption) _ (by assumption) | exact cell_below (by assumption) (by assumption) | exact Lib.cell?_alloc_some _ (by assumption))
                    clear hK K
                    refine wpAnyH_ready (rs := [1]) (by kernel_rfl) (by simp) (AllReadyH.cons (o := { dst := some 85, op := Op.load 24 (Operand.tmp 16), type := 24, pos := "merkle.go:147", after := #[], guard := none }) rfl (fun K hK => ?_) (AllReadyH.nil))
                    rw [if_pos (by rfl)]
                    refine wp_load_mid _ _ rfl _ _ rfl _ _ (by assumption) (by assumption) rfl (by first | assumption | (simp only [*]; done)) ?_
                    try simp only [Act.put, List.setIfInBounds_toArray, List.set_cons_zero, List.set_cons_succ]
                    refine hK.out _ _ ?_ (fun hHeld => ?_)
                    · (try dsimp only); (go_split_ands; (repeat' apply And.intro) <;> first | assumption | exact Mine.call (by assumption) (by assumption) | exact Mine.alloc (by assumption) _ | exact Mine.setCells (by assumption) _ _ _ (by omega) | exact Mine.callN (by assumption) (by assumption) (by omega) | exact Row.belowN (by assumption) (by assumption) (by omega) | exact there_belowN (by assumption) (by assumption) (by omega) | exact rangeAt_below (by assumption) (by assumption) | exact World.rangeAt_alloc (by assumption) _ | exact World.rangeAt_setCells_apart (by assumption) _ _ _ (Or.inl (by omega)) | exact there_below (by assumption) (by assumption) | exact World.there_alloc (by assumption) _ | exact World.there_setCells (by assumption) _ _ _ | exact Row.belowS (by assumption) (by assumption) | exact Row.alloc (by assumption) _ | exact Row.setCells (by assumption) _ _ (by omega) | exact HS.below (by assumption) (by assumption) | exact SB.below (by assumption) (by assumption) | exact HS.alloc (by assumption) _ | exact Box.call (by assumption) (by assumption) | exact Box.alloc (by assumption) _ | exact Box.put (by assumption) _ (by assumption) | exact cell_below (by assumption) (by assumption) | exact Lib.cell?_alloc_some _ (by assumption))
                    clear hK K
                    refine wpAnyH_ready (rs := [2]) (by kernel_rfl) (by simp) (AllReadyH.cons (o := { dst := some 86, op := Op.call { callee := Callee.value (Operand.func 24), args := #[Operand.tmp 84, Operand.tmp 85], argTypes := #[24, 24] }, type := 24, pos := "merkle.go:147", after := #[{ on := 0, ground := Ground.data }, { on := 1, ground := Ground.data }], guard := none }) rfl (fun K hK => ?_) (AllReadyH.nil))
                    go_simp
                    refine (HN1.out _).mono ?_; rintro e w6 ⟨rfl, hb6⟩; have pb6 := rangeAt_below pb hb6
                    go_wp2_with fail
                    refine hK.out _ _ ?_ (fun hHeld => ?_)
                    · (try dsimp only); (go_split_ands; (repeat' apply And.intro) <;> first | assumption | exact Mine.call (by assumption) (by assumption) | exact Mine.alloc (by assumption) _ | exact Mine.setCells (by assumption) _ _ _ (by omega) | exact Mine.callN (by assumption) (by assumption) (by omega) | exact Row.belowN (by assumption) (by assumption) (by omega) | exact there_belowN (by assumption) (by assumption) (by omega) | exact rangeAt_below (by assumption) (by assumption) | exact World.rangeAt_alloc (by assumption) _ | exact World.rangeAt_setCells_apart (by assumption) _ _ _ (Or.inl (by omega)) | exact there_below (by assumption) (by assumption) | exact World.there_alloc (by assumption) _ | exact World.there_setCells (by assumption) _ _ _ | exact Row.belowS (by assumption) (by assumption) | exact Row.alloc (by assumption) _ | exact Row.setCells (by assumption) _ _ (by omega) | exact HS.below (by assumption) (by assumption) | exact SB.below (by assumption) (by assumption) | exact HS.alloc (by assumption) _ | exact Box.call (by assumption) (by assumption) | exact Box.alloc (by assumption) _ | exact Box.put (by assumption) _ (by assumption) | exact cell_below (by assumption) (by assumption) | exact Lib.cell?_alloc_some _ (by assumption))
                    clear hK K
                    try simp only [Act.put, List.setIfInBounds_toArray, List.set_cons_zero, List.set_cons_succ]
                    refine wpAnyH_ready (rs := [5]) (by kernel_rfl) (by simp) (AllReadyH.cons (o := { dst := some 89, op := Op.call { callee := Callee.value (Operand.func 24), args := #[Operand.tmp 87, Operand.tmp 88], argTypes := #[24, 24] }, type := 24, pos := "merkle.go:147", after := #[{ on := 3, ground := Ground.data }, { on := 4, ground := Ground.data }, { on := 2, ground := Ground.chain }], guard := none }) rfl (fun K hK => ?_) AllReadyH.nil)
                    go_simp
                    refine (HN2.out _).mono ?_; rintro e w7 ⟨rfl, hb7⟩; have hi6 := HI6.out; have hi7 := HI7.out; have ho6 := HO6.out; have ho7 := HO7.out; have hl6 := HL6.out; have hl7 := HL7.out
                    go_wp2_with fail
                    refine hK.out _ _ ?_ (fun hHeld => ?_)
                    · (try dsimp only); (go_split_ands; (repeat' apply And.intro) <;> first | assumption | exact Mine.call (by assumption) (by assumption) | exact Mine.alloc (by assumption) _ | exact Mine.setCells (by assumption) _ _ _ (by omega) | exact Mine.callN (by assumption) (by assumption) (by omega) | exact Row.belowN (by assumption) (by assumption) (by omega) | exact there_belowN (by assumption) (by assumption) (by omega) | exact rangeAt_below (by assumption) (by assumption) | exact World.rangeAt_alloc (by assumption) _ | exact World.rangeAt_setCells_apart (by assumption) _ _ _ (Or.inl (by omega)) | exact there_below (by assumption) (by assumption) | exact World.there_alloc (by assumption) _ | exact World.there_setCells (by assumption) _ _ _ | exact Row.belowS (by assumption) (by assumption) | exact Row.alloc (by assumption) _ | exact Row.setCells (by assumption) _ _ (by omega) | exact HS.below (by assumption) (by assumption) | exact SB.below (by assumption) (by assumption) | exact HS.alloc (by assumption) _ | exact Box.call (by assumption) (by assumption) | exact Box.alloc (by assumption) _ | exact Box.put (by assumption) _ (by assumption) | exact cell_below (by assumption) (by assumption) | exact Lib.cell?_alloc_some _ (by assumption))
                    clear hK K
                    try simp only [Act.put, List.setIfInBounds_toArray, List.set_cons_zero, List.set_cons_succ]
                    have hPre := hHeld
                    refine wpAnyH_ready (rs := [6]) (by kernel_rfl) (by simp) (AllReadyH.cons (o := { dst := none, op := Op.store 24 (Operand.tmp 16) (Operand.tmp 86), type := 0, pos := "merkle.go:147", after := #[{ on := 2, ground := Ground.data }, { on := 5, ground := Ground.chain }, { on := 0, ground := Ground.phase }, { on := 1, ground := Ground.phase }, { on := 2, ground := Ground.phase }, { on := 3, ground := Ground.textOnly Departure.lateStores }, { on := 4, ground := Ground.textOnly Departure.lateStores }, { on := 5, ground := Ground.textOnly Departure.lateStoresUnsure }], guard := none }) rfl (fun K hK => ?_) AllReadyH.nil)
                    rw [if_pos (by rfl)]
                    refine wp_store_mid _ _ _ rfl _ _ (List.toArray _) rfl rfl (by go_split_ands; first | assumption | (simp only [List.size_toArray, *] <;> assumption)) (by first | assumption | (simp only [List.size_toArray] <;> assumption) | (simp only [List.size_toArray, *]; done)) (all_oneCell_toArray (by assumption)) ?_
                    simp only [Act.put, List.setIfInBounds_toArray, List.set_cons_zero, List.set_cons_succ, List.toList_toArray]
                    refine hK.out _ _ ?_ (fun hHeld => ?_)
                    · (try dsimp only); (go_split_ands; (repeat' apply And.intro) <;> first | assumption | exact Mine.call (by assumption) (by assumption) | exact Mine.alloc (by assumption) _ | exact Mine.setCells (by assumption) _ _ _ (by omega) | exact Mine.callN (by assumption) (by assumption) (by omega) | exact Row.belowN (by assumption) (by assumption) (by omega) | exact there_belowN (by assumption) (by assumption) (by omega) | exact rangeAt_below (by assumption) (by assumption) | exact World.rangeAt_alloc (by assumption) _ | exact World.rangeAt_setCells_apart (by assumption) _ _ _ (Or.inl (by omega)) | exact there_below (by assumption) (by assumption) | exact World.there_alloc (by assumption) _ | exact World.there_setCells (by assumption) _ _ _ | exact Row.belowS (by assumption) (by assumption) | exact Row.alloc (by assumption) _ | exact Row.setCells (by assumption) _ _ (by omega) | exact HS.below (by assumption) (by assumption) | exact SB.below (by assumption) (by assumption) | exact HS.alloc (by assumption) _ | exact Box.call (by assumption) (by assumption) | exact Box.alloc (by assumption) _ | exact Box.put (by assumption) _ (by assumption) | exact cell_below (by assumption) (by assumption) | exact Lib.cell?_alloc_some _ (by assumption))
                    clear hK K
                    have hPre := hHeld
                    refine wpAnyH_ready (rs := [7]) (by kernel_rfl) (by simp) (AllReadyH.cons (o := { dst := none, op := Op.store 24 (Operand.tmp 18) (Operand.tmp 89), type := 0, pos := "merkle.go:147", after := #[{ on := 5, ground := Ground.data }, { on := 6, ground := Ground.chain }, { on := 0, ground := Ground.phase }, { on := 1, ground := Ground.phase }, { on := 2, ground := Ground.phase }, { on := 3, ground := Ground.phase }, { on := 4, ground := Ground.phase }, { on := 5, ground := Ground.phase }, { on := 6, ground := Ground.phase }], guard := none }) rfl (fun K hK => ?_) AllReadyH.nil)
                    rw [if_pos (by rfl)]
                    refine wp_store_mid _ _ _ rfl _ _ (List.toArray _) rfl rfl (by go_split_ands; first | assumption | (simp only [List.size_toArray, *] <;> assumption)) (by first | assumption | (simp only [List.size_toArray] <;> assumption) | (simp only [List.size_toArray, *]; done)) (all_oneCell_toArray (by assumption)) ?_
                    simp only [Act.put, List.setIfInBounds_toArray, List.set_cons_zero, List.set_cons_succ, List.toList_toArray]
                    refine hK.out _ _ ?_ (fun hHeld => ?_)
                    · (try dsimp only); (go_split_ands; (repeat' apply And.intro) <;> first | assumption | exact Mine.call (by assumption) (by assumption) | exact Mine.alloc (by assumption) _ | exact Mine.setCells (by assumption) _ _ _ (by omega) | exact Mine.callN (by assumption) (by assumption) (by omega) | exact Row.belowN (by assumption) (by assumption) (by omega) | exact there_belowN (by assumption) (by assumption) (by omega) | exact rangeAt_below (by assumption) (by assumption) | exact World.rangeAt_alloc (by assumption) _ | exact World.rangeAt_setCells_apart (by assumption) _ _ _ (Or.inl (by omega)) | exact there_below (by assumption) (by assumption) | exact World.there_alloc (by assumption) _ | exact World.there_setCells (by assumption) _ _ _ | exact Row.belowS (by assumption) (by assumption) | exact Row.alloc (by assumption) _ | exact Row.setCells (by assumption) _ _ (by omega) | exact HS.below (by assumption) (by assumption) | exact SB.below (by assumption) (by assumption) | exact HS.alloc (by assumption) _ | exact Box.call (by assumption) (by assumption) | exact Box.alloc (by assumption) _ | exact Box.put (by assumption) _ (by assumption) | exact cell_below (by assumption) (by assumption) | exact Lib.cell?_alloc_some _ (by assumption))
                    clear hK K
                    refine wpAnyH_done (by kernel_rfl) ?_ _
                    refine NoPanic.normal ?_
                    have hrA : Row W5.drew Ba 24 aa := RBA5.out
                    have hrB : Row W5.drew Bb 24 ab := RBB5.out
                    have q7 := ((hrA.belowS hb6).belowS hb7).setCells_same an (by rw [HL6.out, LA.out])
                    have p7 := ((hrB.belowS hb6).belowS hb7).setCells_other an 0 (g := Ba) (by omega)
                    have q8 := q7.setCells_other bn 0 (g := Bb) (by omega)
                    have p8 := p7.setCells_same bn (by rw [HL7.out, LB.out])
                    have QF := Lib.hid q8
                    have PF := Lib.hid p8
                    have MF := Lib.hid hHeld.1
                    clear hHeld hPre q7 p7 q8 p8 hrA hrB pa pb pb6
                    go_wp2
                    go_roundw
                    case rel => exact ⟨q + 1, ⟨by go_num, by omega⟩, by rw [HAN.out]; exact QF.out, by rw [HBN.out]; exact PF.out, MF.out⟩
                    case measure => simp [intOf]; omega
                | false =>
                  rw [if_neg (by decide)] at hs
                  have s1 : (f (q + 1)).1 = (f q).1 := by rw [hs]
                  have s2 : nodeL (f q).2 y = (f (q + 1)).2 := by rw [hs]
                  simp only [s2] at n3
                  have HN := Lib.hid n3
                  have haa' : enc8 (f (q + 1)).1 = aa := by rw [s1]; exact haa
                  have HAA := Lib.hid haa'
                  have HC1 := Lib.hid (HTW.out (q + 1)).2
                  have I5 := Lib.hid (info32 (f (q + 1)).2 (HTW.out (q + 1)).2)
                  clear n1 n2 n3 hs s1 s2 haa haa' hab
                  go_wp2_with (first
                    | (refine wpList_load_mid rfl 24 (.tmp 74) rfl g (o + q * 32) rfl ay _ PY.out Try.underlying24 rfl I2.out ?_)
                    | (refine RN5.out.store (m := ay) rfl 24 (.tmp 20) (.tmp 75) rfl rfl rfl I2.out (by rw [L2.out]; rfl) F2.out ?_)
                    | (rw [HW5.out]; refine RBB5.out.load rfl 24 (.tmp 18) rfl rfl _ _ Try.underlying24 I4.out ?_)
                    | (refine R5C.out.load rfl 24 (.tmp 20) rfl rfl _ _ Try.underlying24 I2.out ?_))
                  refine (HN.out _).mono ?_
                  rintro e w6 ⟨rfl, hb6⟩
                  have rbb6 := RBB5.out.belowS hb6
                  have rba6 := RBA5.out.belowS hb6
                  have m6 := M5.out.call hb6
                  have R6 := Lib.hid rbb6
                  have RXX := Lib.hid (rbb6.setRow (enc8 (f (q + 1)).2))
                  have RYY := Lib.hid (rba6.setRow_ne (enc8 (f (q + 1)).2).toArray (g := Bb) (by omega))
                  have MXX : Hid (Mine Ba wo (w6.setRow Bb (enc8 (f (q + 1)).2).toArray)) := ⟨by rw [setRow_size]; exact m6.le, below_setRow m6.bel (by omega) _⟩
                  clear rbb6 rba6 m6 hb6 RBA5 RBB5 M5 HN
                  go_wp2_with (refine R6.out.store (m := enc8 (f (q + 1)).2) rfl 24 (.tmp 18) (.tmp 92) rfl rfl rfl I5.out (by rw [enc8_len, HC1.out, LB.out]) (enc8_all _) ?_)
                  go_roundw
                  case rel => exact ⟨q + 1, ⟨by go_num, by omega⟩, by rw [HAA.out]; exact RYY.out, RXX.out, MXX.out⟩
                  case measure => simp [intOf]; omega
              · obtain rfl : q = L2 := by omega
                have i3 := info32 (f q).1 (HTW.out q).1
                have i4 := info32 (f q).2 (HTW.out q).2
                have heq1 := HEQ1.out
                have heq2 := HEQ2.out
                have hrs := HRS.out
                have RP := Lib.hid rBa
                have RQ := Lib.hid rBb
                have RA1 := Lib.hid (Row.belowN mm.bel RA.out (by omega))
                have RB1 := Lib.hid (Row.belowN mm.bel RB.out (by omega))
                have I3 := Lib.hid i3
                have I4 := Lib.hid i4
                have HF := Lib.hid (HBW.out.trans (mm.bel.mono (by omega)))
                clear rBa rBb mm i3 i4
                cases b1 with
                | false =>
                  rw [Bool.false_and] at hrs
                  subst hrs
                  go_wp2_with (first
                    | (refine RP.out.load rfl 24 (.tmp 16) rfl rfl _ _ Try.underlying24 I3.out ?_)
                    | (refine RA1.out.load rfl 24 (.tmp 5) rfl rfl _ _ Try.underlying24 I0.out ?_))
                  go_ret
                  exact ⟨rfl, by first | exact HF.out | (rw [hA]; exact HF.out)⟩
                | true =>
                  rw [Bool.true_and] at hrs
                  subst hrs
                  go_wp2_with (first
                    | (refine RP.out.load rfl 24 (.tmp 16) rfl rfl _ _ Try.underlying24 I3.out ?_)
                    | (refine RA1.out.load rfl 24 (.tmp 5) rfl rfl _ _ Try.underlying24 I0.out ?_)
                    | (refine RQ.out.loadg rfl 24 (.tmp 18) rfl rfl _ _ Try.underlying24 I4.out ?_)
                    | (refine RB1.out.loadg rfl 24 (.tmp 7) rfl rfl _ _ Try.underlying24 I1.out ?_))
                  go_ret
                  exact ⟨rfl, by first | exact HF.out | (rw [hA]; exact HF.out)⟩
          · have hq : ((L2 : Int) != (tl : Int)) = true := by simp; omega
            rw [if_neg (fun h => hlen h.2)] at hrs0
            subst hrs0
            go_wp2
            go_ret
            exact ⟨rfl, by first | exact HBW.out.trans (MX.out.bel.mono (by omega)) | (rw [hA]; exact HBW.out.trans (MX.out.bel.mono (by omega)))⟩
    · have hk := hlf_range p (by omega)
      have hh := fun w => half_any p (by omega) w
      have dn1 : ((p : Int) != (j : Int)) = true := by simp; omega
      have dn2 : (p != j) = true := by simp; omega
      by_cases hjk : j ≤ hlf p
      · have hac := hacc.out
        rw [gR_left p j wc ⟨hj1, by omega⟩ hjk] at hac
        obtain ⟨k, hke⟩ : ∃ k, hlf p = k := ⟨_, rfl⟩
        rw [hke] at hk hjk hac
        simp only [hke] at hh
        have d1 : decide ((k : Int) < (j : Int)) = false := decide_eq_false (by omega)
        have d2 : decide (k < j) = false := decide_eq_false (by omega)
        have d3 : decide ((j : Int) ≤ (k : Int)) = true := decide_eq_true (by omega)
        have d4 : decide (j ≤ k) = true := decide_eq_true (by omega)
        have HH := Lib.hid hh
        have HOWN := Lib.hid hot
        have HMI := Lib.hid hmi
        have HACC : Hid ((acc ++ [false]) ++ (gR k j wc).1 = rt ∧ (gR k j wc).2 = wh) := by refine ⟨?_, hac.2⟩; rw [← hac.1]; simp
        clear hot hmi hacc hac hh hke
        go_wp2_with fail
        refine (HH.out _).mono ?_
        rintro e w1 ⟨rfl, rfl⟩
        have hsz1 := HMI.out.le
        go_wp2_with (at_builtin; refine wpT_append rfl _ _ rfl (A + 2) _ acc w1.heap.size 1 false rfl (HOWN.out.below ((Below.refl _ w1).alloc (Nat.le_refl _) _)) rfl (by rw [(Row.new w1 #[.bool false] 4).cell 0]; rfl) (by omega) (by rw [alloc_size]; omega) ?_)
        intro v3 w3 ho3 hb3
        have HO3 := Lib.hid ho3
        have HM3 := Lib.hid (Mine.callN hb3 (HMI.out.alloc (.cells #[.bool false] 4)) (Nat.le_refl (A + 2)))
        clear ho3 hb3 HOWN HMI
        go_wp2
        go_roundw
        case rel => exact ⟨k, j, acc ++ [false], wc, ⟨rfl, rfl, rfl, hj1, hjk, by omega⟩, HO3.out, HACC.out, HM3.out⟩
        case measure => simp [intOf]; omega
      · have hac := hacc.out
        rw [gR_right p j wc ⟨hj1, by omega⟩ hjk] at hac
        obtain ⟨k, hke⟩ : ∃ k, hlf p = k := ⟨_, rfl⟩
        rw [hke] at hk hjk hac
        simp only [hke] at hh
        have d1 : decide ((k : Int) < (j : Int)) = true := decide_eq_true (by omega)
        have d2 : decide (k < j) = true := decide_eq_true (by omega)
        have d3 : decide ((j : Int) ≤ (k : Int)) = false := decide_eq_false (by omega)
        have d4 : decide (j ≤ k) = false := decide_eq_false (by omega)
        have x1 : IntKind.i64.wrap ((p : Int) - (k : Int)) = ((p - k : Nat) : Int) := by rw [IntWalk.i64_in _ (by omega)]; omega
        have x2 : IntKind.i64.wrap ((j : Int) - (k : Int)) = ((j - k : Nat) : Int) := by rw [IntWalk.i64_in _ (by omega)]; omega
        have HH := Lib.hid hh
        have HOWN := Lib.hid hot
        have HMI := Lib.hid hmi
        have HACC : Hid ((acc ++ [true]) ++ (gR (p - k) (j - k) false).1 = rt ∧ (gR (p - k) (j - k) false).2 = wh) := by refine ⟨?_, hac.2⟩; rw [← hac.1]; simp
        clear hot hmi hacc hac hh hke
        go_wp2_with fail
        refine (HH.out _).mono ?_
        rintro e w1 ⟨rfl, rfl⟩
        have hsz1 := HMI.out.le
        go_wp2_with (at_builtin; refine wpT_append rfl _ _ rfl (A + 2) _ acc w1.heap.size 1 true rfl (HOWN.out.below ((Below.refl _ w1).alloc (Nat.le_refl _) _)) rfl (by rw [(Row.new w1 #[.bool true] 4).cell 0]; rfl) (by omega) (by rw [alloc_size]; omega) ?_)
        intro v3 w3 ho3 hb3
        have HO3 := Lib.hid ho3
        have HM3 := Lib.hid (Mine.callN hb3 (HMI.out.alloc (.cells #[.bool true] 4)) (Nat.le_refl (A + 2)))
        clear ho3 hb3 HOWN HMI
        go_wp2
        go_roundw
        case rel => exact ⟨p - k, j - k, acc ++ [true], false, ⟨rfl, rfl, rfl, by omega, by omega, by omega⟩, HO3.out, HACC.out, HM3.out⟩
        case measure => simp [intOf]; omega
end Go.Proofs.Ytkipnhhdlohnfaa
