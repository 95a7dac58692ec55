/- digest.Parse and the reference's Parse: what a text of digits comes to. -/
import Derived.RangeFuncNested
import Derived.RangeFuncBound
import Derived.RangeFuncCalls
import Derived.RangeFuncLeaves
import Derived.Shelf.Abstract
import Derived.Shelf.RegionOpen
import Derived.WalkKit
import Derived.OwnWalkIn
import Derived.TacticsInMore
import Derived.LoopNIn
import Derived.LoopIn
import Derived.Outline
import Derived.Lib.Hide
import Derived.Lib.SliceRun
import Derived.IntWalk
import Derived.WalkLawsBesides
import Derived.WalkSpells
import Derived.Laws.BitsAllLaws
import Derived.Lib.ConvBytes
import Derived.Maps.AppendAt
import Derived.Lib.AppendStr
import Derived.Lib.SlBytesConst
import Derived.Laws.AppendOwnNone
import Derived.Laws.OwnMore
import Derived.Laws.BytesArg
import Derived.Deep.RegionHeld3
import Derived.BigQuiet
import Derived.Deep.RegionLaw
import Derived.Deep.QuietTactic
import Derived.Lib.OthersKept
import Derived.Test.YtkipnhhdlohnfaaProg
import Derived.Deep.DeepFit
import Derived.Test.YtkipnhhdlohnfaaDgM
set_option linter.unusedVariables false
set_option linter.unusedSimpArgs false
namespace Go.Proofs.Ytkipnhhdlohnfaa
open Go Go.RowKit Go.Shelf

theorem Row.result2 {w : World} {fn : Func} {p q : Tmp} {ty : TypeId} {g : Nat} {t : TypeId} {l : List Value} {v : Value} (hr : Row w g t l) (h : fn.results = #[.cell p ty, .tmp q]) (tmps : Array Value) (n : Nat) (e : TypeId)
    (hp : tmps.getD p undef = .pointer (some ⟨g, 0, none⟩)) (hq : tmps.getD q undef = v) (hu : Try.prog.underlying ty = some (.array n e)) (hi : (Try.prog.info? ty).map (·.size) = some l.length) :
    (results fn tmps).run Try.prog w = .ok (.tuple #[.agg l.toArray, v]) w := by
  have hp' : tmps[p]?.getD undef = .pointer (some ⟨g, 0, none⟩) := by simpa using hp
  have hq' : tmps[q]?.getD undef = v := by simpa using hq
  simp [results, h, hp', hq', asAddr, run_loadVar_row w g t ty l.toArray _ _ hr hu rfl (by simpa using hi), Sem.run_bind, Result.andThen]
theorem index_any (n : Nat) (hn : n < 256) (w : World) :
    Calls Try.prog 49 #[.string ⟨#[48, 49, 50, 51, 52, 53, 54, 55, 56, 57, 97, 98, 99, 100, 101, 102]⟩, .int .u8 (n : Int)] w fun e w' => e = .returned (.int .i64 (if digN n < 16 then (digN n : Int) else -1)) ∧ w' = w := by
  rw [← index_digits n hn]
  exact Try.strings_IndexByte _ _ w
abbrev Z32 : List Value := enc8 (List.replicate 32 0)
/-- two new rows of noughts -/
theorem two_new (w : World) : ∃ wa B, wa = (w.alloc (.cells #[.int .u8 0, .int .u8 0, .int .u8 0, .int .u8 0, .int .u8 0, .int .u8 0, .int .u8 0, .int .u8 0, .int .u8 0, .int .u8 0, .int .u8 0, .int .u8 0, .int .u8 0, .int .u8 0, .int .u8 0, .int .u8 0, .int .u8 0, .int .u8 0, .int .u8 0, .int .u8 0, .int .u8 0, .int .u8 0, .int .u8 0, .int .u8 0, .int .u8 0, .int .u8 0, .int .u8 0, .int .u8 0, .int .u8 0, .int .u8 0, .int .u8 0, .int .u8 0] 24)).alloc (.cells #[.int .u8 0, .int .u8 0, .int .u8 0, .int .u8 0, .int .u8 0, .int .u8 0, .int .u8 0, .int .u8 0, .int .u8 0, .int .u8 0, .int .u8 0, .int .u8 0, .int .u8 0, .int .u8 0, .int .u8 0, .int .u8 0, .int .u8 0, .int .u8 0, .int .u8 0, .int .u8 0, .int .u8 0, .int .u8 0, .int .u8 0, .int .u8 0, .int .u8 0, .int .u8 0, .int .u8 0, .int .u8 0, .int .u8 0, .int .u8 0, .int .u8 0, .int .u8 0] 24) ∧ w.heap.size = B ∧ wa.heap.size = B + 2 ∧ Row wa B 24 Z32 ∧ Row wa (B + 1) 24 Z32 ∧ Below B w wa := by
  have hs1 : (w.alloc (.cells #[.int .u8 0, .int .u8 0, .int .u8 0, .int .u8 0, .int .u8 0, .int .u8 0, .int .u8 0, .int .u8 0, .int .u8 0, .int .u8 0, .int .u8 0, .int .u8 0, .int .u8 0, .int .u8 0, .int .u8 0, .int .u8 0, .int .u8 0, .int .u8 0, .int .u8 0, .int .u8 0, .int .u8 0, .int .u8 0, .int .u8 0, .int .u8 0, .int .u8 0, .int .u8 0, .int .u8 0, .int .u8 0, .int .u8 0, .int .u8 0, .int .u8 0, .int .u8 0] 24)).heap.size = w.heap.size + 1 := by show (w.heap.push _).size = _; simp
  refine ⟨_, _, rfl, rfl, ?_, ?_, ?_, ?_⟩
  · show ((w.alloc (.cells #[.int .u8 0, .int .u8 0, .int .u8 0, .int .u8 0, .int .u8 0, .int .u8 0, .int .u8 0, .int .u8 0, .int .u8 0, .int .u8 0, .int .u8 0, .int .u8 0, .int .u8 0, .int .u8 0, .int .u8 0, .int .u8 0, .int .u8 0, .int .u8 0, .int .u8 0, .int .u8 0, .int .u8 0, .int .u8 0, .int .u8 0, .int .u8 0, .int .u8 0, .int .u8 0, .int .u8 0, .int .u8 0, .int .u8 0, .int .u8 0, .int .u8 0, .int .u8 0] 24)).heap.push _).size = _
    rw [Array.size_push, hs1]
  · exact (Row.new w #[.int .u8 0, .int .u8 0, .int .u8 0, .int .u8 0, .int .u8 0, .int .u8 0, .int .u8 0, .int .u8 0, .int .u8 0, .int .u8 0, .int .u8 0, .int .u8 0, .int .u8 0, .int .u8 0, .int .u8 0, .int .u8 0, .int .u8 0, .int .u8 0, .int .u8 0, .int .u8 0, .int .u8 0, .int .u8 0, .int .u8 0, .int .u8 0, .int .u8 0, .int .u8 0, .int .u8 0, .int .u8 0, .int .u8 0, .int .u8 0, .int .u8 0, .int .u8 0] 24).alloc _
  · rw [← hs1]; exact Row.new _ #[.int .u8 0, .int .u8 0, .int .u8 0, .int .u8 0, .int .u8 0, .int .u8 0, .int .u8 0, .int .u8 0, .int .u8 0, .int .u8 0, .int .u8 0, .int .u8 0, .int .u8 0, .int .u8 0, .int .u8 0, .int .u8 0, .int .u8 0, .int .u8 0, .int .u8 0, .int .u8 0, .int .u8 0, .int .u8 0, .int .u8 0, .int .u8 0, .int .u8 0, .int .u8 0, .int .u8 0, .int .u8 0, .int .u8 0, .int .u8 0, .int .u8 0, .int .u8 0] 24
  · exact ((Below.refl _ w).alloc (Nat.le_refl _) _).alloc (by omega) _

set_option maxRecDepth 100000 in
theorem parse_short (S : ByteArray) (hS : S.size ≠ 64) (w : World) :
    Calls Try.prog 29 #[.string S] w fun e w' => e = .returned (.tuple #[.agg Z32.toArray, .bool false]) ∧ Below w.heap.size w w' := by
  have hne : ((S.size : Int) == 64) = false := by simp; omega
  obtain ⟨wa, B, hwa, hB, hsz, r0, r1, hb⟩ := two_new w
  subst hwa
  have R0 := Lib.hid r0
  have R1 := Lib.hid r1
  have HB := Lib.hid hb
  have RR := Lib.hid (r0.setRow Z32)
  have HBz := Lib.hid (below_setRow hb (Nat.le_refl B) Z32.toArray)
  clear r0 r1 hb
  go_enter Try.func29, Try.ntmps29
  go_wp2_with (first | (refine R1.out.load rfl 24 (.tmp 4) rfl rfl _ _ Try.underlying24 (by kernel_rfl) ?_) | (refine R0.out.store (m := Z32) rfl 24 (.tmp 2) (.tmp 10) rfl rfl rfl (by kernel_rfl) rfl (enc8_all _) ?_))
  refine bodyPost_ret (v := .tuple #[.agg Z32.toArray, .bool false]) (RR.out.result2 Try.results29 _ _ _ rfl rfl Try.underlying24 (by kernel_rfl)) rfl ?_
  exact ⟨rfl, by rw [hB]; exact HBz.out⟩

/-- how far an iterator is -/
theorem iter_pos (w : World) (k : Nat) (s : ByteArray) (p : Nat) (h : w.heap[k]? = some (.stringIter s p)) : w.iterPos k = p := by simp [World.iterPos, h]
theorem Row.iterAt {w : World} {b k : Nat} {t : TypeId} {l : List Value} (h : Row w b t l) (hk : b ≠ k) (s : ByteArray) (p : Nat) : Row (w.iterAt k s p) b t l := by
  unfold Row; rw [Lib.iterAt_other _ _ _ _ _ hk]; exact h
theorem shl4 (a d : Nat) (ha : a < 16) (hd : d < 16) : bits BinOp.or IntKind.u8 ((a : Int) * 16 % 256) (d : Int) = ((16 * a + d : Nat) : Int) := by
  have e : (a : Int) * 16 % 256 = ((a * 16 : Nat) : Int) := by omega
  rw [e, u8_or_nat _ _ (by omega) (by omega)]
  congr 1
  have := Nat.two_pow_add_eq_or_of_lt (i := 4) (b := d) (by omega) a
  rw [Nat.mul_comm, this]

set_option maxHeartbeats 1000000 in
set_option maxRecDepth 100000 in
theorem parse_long (S : ByteArray) (l : List UInt8) (hS : S.data.toList = l) (hl : l.length = 64) (w : World) :
    Calls Try.prog 29 #[.string S] w fun e w' => e = .returned (.tuple #[.agg (enc8 (parseV l)).toArray, .bool (okL l)]) ∧ Below w.heap.size w w' := by
  have hs : S.size = 64 := by rw [← hl, ← hS]; rfl
  have HS := Lib.hid hS
  obtain ⟨wa, B, hwa, hB, hsz, r0, r1, hb⟩ := two_new w
  have i2 : (wa.iter S 0).heap[B + 2]? = some (.stringIter S 0) := by rw [← hsz]; exact World.iter_heap wa S 0
  have R0 := Lib.hid (r0.alloc (.stringIter S 0))
  have R1 : Hid (Row (wa.iter S 0) (B + 1) 24 (enc8 (hp l 0))) := by unfold Hid; rw [hp_zero]; exact (r1.alloc (.stringIter S 0))
  have HB := Lib.hid (hb.alloc (by omega) (.stringIter S 0))
  have HW := Lib.hid hwa
  have Hsz := Lib.hid hsz
  have I2 := Lib.hid i2
  clear r0 r1 hb hwa hS hsz i2
  go_enter Try.func29, Try.ntmps29
  go_wp2_with fail
  simp only [← HW.out, Hsz.out]
  go_loopw [] (fun wx => ∃ i : Nat, (i ≤ 64 ∧ ∀ k, k < i → dg l k < 16) ∧ wx.heap[B + 2]? = some (.stringIter S i) ∧ Row wx (B + 1) 24 (enc8 (hp l i)) ∧ Row wx B 24 Z32 ∧ Below B w wx) (fun wx => 64 - wx.iterPos (B + 2))
  case atStart => exact ⟨0, ⟨by omega, fun k hk => by omega⟩, I2.out, R1.out, R0.out, HB.out⟩
  case round =>
    obtain ⟨i, ⟨hi, hok⟩, hit, hr1, hr0, hb⟩ := hrel
    have HM := Lib.hid (iter_pos wr (B + 2) S i hit)
    clear I2 R1 R0 HB
    by_cases h64 : i < 64
    · have kx := fun w => idx_string S l HS.out i (by omega) w
      obtain ⟨n, hn⟩ : ∃ n, ((l[i]?).getD 0).toNat = n := ⟨_, rfl⟩
      have hn256 : n < 256 := by rw [← hn]; exact UInt8.toNat_lt _
      have hdg : dg l i = digN n := by unfold dg gb; rw [hn]
      have hSn : (S[i]'(by omega)).toNat = n := by
        rw [← hn, ← HS.out, ByteArray.getElem_eq_getElem_data, Array.getElem?_toList, Array.getElem?_eq_getElem (by simpa using (by omega : i < S.size))]; rfl
      obtain ⟨p, r, w1, hw1, hnx, hp1⟩ : ∃ p r w1, w1 = wr.iterAt (B + 2) S p ∧ (∀ ty, (Instr.next (.pointer (some ⟨B + 2, 0, none⟩)) true ty).run Try.prog wr = .ok (.tuple #[.bool true, .int .i64 (i : Int), .int .i32 r]) w1) ∧ (n < 128 → p = i + 1) := by
        by_cases ha : n < 128
        · exact ⟨i + 1, _, _, rfl, fun ty => Lib.run_next_ascii_at wr (B + 2) S i ty hit (by omega) (by omega), fun _ => rfl⟩
        · exact ⟨_, _, _, rfl, fun ty => Lib.run_next_any_at wr (B + 2) S i ty hit (by omega), fun h => absurd h ha⟩
      have q0 : Row w1 B 24 Z32 := by rw [hw1]; exact hr0.iterAt (by omega) S p
      have q1 : Row w1 (B + 1) 24 (enc8 (hp l i)) := by rw [hw1]; exact hr1.iterAt (by omega) S p
      have qb : Below B w w1 := by rw [hw1]; exact Lib.below_iterAt hb (by omega) S p
      have qi : n < 128 → w1.heap[B + 2]? = some (.stringIter S (i + 1)) := by
        intro h; rw [hw1, hp1 h]; exact Lib.iterAt_heap wr (B + 2) S i (i + 1) hit
      rw [hn] at kx
      clear hit hr1 hr0 hb hw1 hp1 hSn hn
      by_cases hd : digN n < 16
      · have hlow : n < 128 := by
          by_cases h : n < 128
          · exact h
          · rw [digN_high n (by omega)] at hd; omega
        have hx : ∀ w, Calls Try.prog 49 #[.string ⟨#[48, 49, 50, 51, 52, 53, 54, 55, 56, 57, 97, 98, 99, 100, 101, 102]⟩, .int .u8 (n : Int)] w fun e w' => e = .returned (.int .i64 (digN n : Int)) ∧ w' = w := by
          intro w; have := index_any n hn256 w; rwa [if_pos hd] at this
        have qi := qi hlow
        obtain ⟨d, hde⟩ : ∃ d, digN n = d := ⟨_, rfl⟩
        rw [hde] at hx hd hdg
        obtain ⟨j, hj⟩ : ∃ j, i / 2 = j := ⟨_, rfl⟩
        have hj32 : j < 32 := by omega
        have hv1 : hpv l i j < 16 := by
          unfold hpv
          rw [if_neg (by omega)]
          split
          · exact hok _ (by omega)
          · omega
        have hv2 : hpv l (i + 1) j = 16 * hpv l i j + d := by
          unfold hpv
          rw [if_neg (show ¬ 2 * j + 2 ≤ i by omega)]
          by_cases ho : 2 * j + 1 = i
          · rw [if_pos (by omega), if_pos (by omega), ho, hdg]
          · rw [if_neg (by omega), if_pos (by omega), if_neg (by omega)]
            rw [show 2 * j = i by omega, hdg]; omega
        have hv3 : ∀ k, k < 32 → k ≠ j → hpv l i k = hpv l (i + 1) k := by
          intro k _ hk
          unfold hpv
          by_cases h1 : 2 * k + 2 ≤ i
          · rw [if_pos h1, if_pos (by omega)]
          · rw [if_neg h1, if_neg (by omega), if_neg (by omega), if_neg (by omega)]
        have hupd := hp_upd l i (i + 1) j hj32 hv3 (by omega)
        have k0 : w1.cell? ⟨B + 1, j, none⟩ = some (.int .u8 (hpv l i j : Int)) := by rw [q1.cell j]; exact hp_at l i j hj32 (by omega)
        have k1 : w1.frozen? ⟨B + 1, j, none⟩ = false := q1.frozen j
        obtain ⟨a, hae⟩ : ∃ a, hpv l i j = a := ⟨_, rfl⟩
        rw [hae] at k0 hv1 hv2
        rw [hv2] at hupd
        have hsh := shl4 a d hv1 hd
        have s1 : (i : Int) / 2 = (j : Int) := by omega
        have s2 : (i : Int).tdiv 2 = (j : Int) := by rw [Int.tdiv_eq_ediv_of_nonneg (by omega)]; omega
        have s3 : (d : Int) % 256 = (d : Int) := by omega
        have Q1 : Hid (Row (w1.setCell ⟨B + 1, j, none⟩ (.int .u8 ((16 * a + d : Nat) : Int))) (B + 1) 24 (enc8 (hp l (i + 1)))) := by
          unfold Hid; rw [← hupd]; exact q1.set j _
        have Q0 := Lib.hid (q0.other ⟨B + 1, j, none⟩ (.int .u8 ((16 * a + d : Nat) : Int)) (by simp))
        have QB := Lib.hid (below_setCell qb ⟨B + 1, j, none⟩ (by simp) (.int .u8 ((16 * a + d : Nat) : Int)))
        have QI : Hid ((w1.setCell ⟨B + 1, j, none⟩ (.int .u8 ((16 * a + d : Nat) : Int))).heap[B + 2]? = some (.stringIter S (i + 1))) := by
          unfold Hid; rw [heap_setCell_other w1 ⟨B + 1, j, none⟩ (B + 2) _ (by simp)]; exact qi
        have Hok : Hid (∀ k, k < i + 1 → dg l k < 16) := by
          intro k hk
          by_cases h : k < i
          · exact hok k h
          · rw [show k = i by omega, hdg]; exact hd
        have Hx := Lib.hid hx
        have Hj := Lib.hid hj
        obtain ⟨nv, hnv⟩ : ∃ nv, 16 * a + d = nv := ⟨_, rfl⟩
        rw [hnv] at hsh Q1 Q0 QB QI
        clear q0 q1 qb qi hok hx hupd hv1 hv2 hv3 hae hdg hnv hde hj
        go_wp2_with fail
        refine (Hx.out _).mono ?_
        rintro e w2 ⟨rfl, rfl⟩
        go_wp2
        go_roundw
        case rel => exact ⟨i + 1, ⟨by omega, Hok.out⟩, QI.out, Q1.out, Q0.out, QB.out⟩
        case measure =>
          have hm := HM.out
          have hm2 := iter_pos _ _ _ _ QI.out
          omega
      · have hx : ∀ w, Calls Try.prog 49 #[.string ⟨#[48, 49, 50, 51, 52, 53, 54, 55, 56, 57, 97, 98, 99, 100, 101, 102]⟩, .int .u8 (n : Int)] w fun e w' => e = .returned (.int .i64 (-1)) ∧ w' = w := by
          intro w; have := index_any n hn256 w; rwa [if_neg hd] at this
        have hno : okL l = false := by
          rw [Bool.eq_false_iff]; intro h
          have := ((okL_iff l).1 h).2 i h64
          rw [hdg] at this
          exact hd this
        have Hx := Lib.hid hx
        have Hno := Lib.hid hno
        have Q0 := Lib.hid q0
        have RR := Lib.hid (q0.setRow Z32)
        have HBz := Lib.hid (below_setRow qb (Nat.le_refl B) Z32.toArray)
        clear q0 q1 qb qi hok hx hdg hno
        go_wp2_with fail
        refine (Hx.out _).mono ?_
        rintro e w2 ⟨rfl, rfl⟩
        go_wp2_with (refine Q0.out.store (m := Z32) rfl 24 (.tmp 2) (.tmp 22) rfl rfl rfl (by kernel_rfl) rfl (enc8_all _) ?_)
        refine bodyPost_ret (v := .tuple #[.agg Z32.toArray, .bool false]) (RR.out.result2 Try.results29 _ _ _ rfl rfl Try.underlying24 (by kernel_rfl)) rfl ?_
        rw [parseV_no Hno.out, Hno.out, hB]
        exact ⟨rfl, HBz.out⟩
    · obtain rfl : i = 64 := by omega
      have hyes : okL l = true := (okL_iff l).2 ⟨hl, hok⟩
      have hnx : ∀ ty, (Instr.next (.pointer (some ⟨B + 2, 0, none⟩)) true ty).run Try.prog wr = .ok (.tuple #[.bool false]) wr := fun ty => Lib.run_next_end_at wr (B + 2) S 64 ty hit (by omega)
      have R1 := Lib.hid hr1
      have R0 := Lib.hid hr0
      have RR := Lib.hid (hr0.setRow (enc8 (hp l 64)))
      have HBz := Lib.hid (below_setRow hb (Nat.le_refl B) (enc8 (hp l 64)).toArray)
      obtain ⟨out, hout⟩ : ∃ out, hp l 64 = out := ⟨_, rfl⟩
      have hol : out.length = 32 := by rw [← hout, hp_length]
      have Hol := Lib.hid hol
      have Hres := Lib.hid ((parseV_ok hyes).trans hout)
      have Hyes := Lib.hid hyes
      rw [hout] at R1 RR HBz
      clear hr1 hr0 hb hok hit HM hyes hout hol
      go_wp2_with (first | (refine R1.out.load rfl 24 (.tmp 4) rfl rfl _ _ Try.underlying24 (by rw [enc8_len, Hol.out]; kernel_rfl) ?_) | (refine R0.out.store (m := enc8 out) rfl 24 (.tmp 2) (.tmp 34) rfl rfl rfl (by rw [enc8_len, Hol.out]; kernel_rfl) (by rw [enc8_len, enc8_len, Hol.out, List.length_replicate]) (enc8_all _) ?_))
      refine bodyPost_ret (v := .tuple #[.agg (enc8 out).toArray, .bool true]) (RR.out.result2 Try.results29 _ _ _ rfl rfl Try.underlying24 (by rw [enc8_len, Hol.out]; kernel_rfl)) rfl ?_
      rw [Hres.out, Hyes.out, hB]
      exact ⟨rfl, HBz.out⟩
/-- **digest.Parse** -/
theorem parse_any (S : ByteArray) (l : List UInt8) (hS : S.data.toList = l) (w : World) :
    Calls Try.prog 29 #[.string S] w fun e w' => e = .returned (.tuple #[.agg (enc8 (parseV l)).toArray, .bool (okL l)]) ∧ Below w.heap.size w w' := by
  by_cases h : l.length = 64
  · exact parse_long S l hS h w
  · have hno : okL l = false := by
      rw [Bool.eq_false_iff]; intro h2
      exact h ((okL_iff l).1 h2).1
    rw [parseV_no hno, hno]
    exact parse_short S (by rw [← hS] at h; exact h) w
end Go.Proofs.Ytkipnhhdlohnfaa
