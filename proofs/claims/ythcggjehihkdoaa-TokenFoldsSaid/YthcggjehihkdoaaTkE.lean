/- runs: an iterator over words. -/
import Derived.RangeFuncNested
import Derived.RangeFuncBound
import Derived.RangeFuncCalls
import Derived.RangeFuncLeaves
import Derived.Shelf.Abstract
import Derived.Shelf.RegionOpen
import Derived.WalkKit
import Derived.OwnWalkIn
import Derived.TacticsInMore
import Derived.LoopNIn
import Derived.LoopIn
import Derived.Outline
import Derived.Lib.Hide
import Derived.Lib.SliceRun
import Derived.IntWalk
import Derived.WalkLawsBesides
import Derived.WalkSpells
import Derived.Laws.BitsAllLaws
import Derived.Lib.ConvBytes
import Derived.Maps.AppendAt
import Derived.Lib.AppendStr
import Derived.Lib.SlBytesConst
import Derived.Laws.AppendOwnNone
import Derived.Laws.OwnMore
import Derived.Laws.BytesArg
import Derived.Deep.RegionHeld3
import Derived.BigQuiet
import Derived.Deep.RegionLaw
import Derived.Deep.QuietTactic
import Derived.Lib.OthersKept
import Derived.Test.YthcggjehihkdoaaProg
import Derived.Deep.DeepFit
import Derived.Test.YthcggjehihkdoaaTkC
import Derived.Test.YthcggjehihkdoaaDoE
set_option linter.unusedVariables false
set_option linter.unusedSimpArgs false
namespace Go.Proofs.Ythcggjehihkdoaa
open Go Go.RowKit Go.Shelf
open Go.Proofs (encStr)
attribute [local go_sem] Oper.semAt_some

/-- what the iterator hands out -/
def EncS (x : List UInt8) (az : Array Value) (M : Nat → Prop) (W : World) : Prop := az = #[.string ⟨x.toArray⟩]
/-- what the iterator holds: the bytes, the word in hand -/
structure RS (n₁ : Nat) (D : Nat → Prop) (wr : World) (clv rv : Value) (l run : List UInt8) : Prop where
  cl : OB wr n₁ clv l
  rn : OB wr n₁ rv run
  ne : ∀ r, clv.ownBlock = some r → rv.ownBlock ≠ some r
  dj : ∀ b, (clv.ownBlock = some b ∨ rv.ownBlock = some b) → ¬ D b
theorem RS.lt {n₁ : Nat} {D : Nat → Prop} {wr : World} {clv rv : Value} {l run : List UInt8} (h : RS n₁ D wr clv rv l run) : ∀ b, (clv.ownBlock = some b ∨ rv.ownBlock = some b) → b < wr.heap.size ∧ ¬ D b := fun b hb =>
  ⟨hb.elim (fun h' => (World.ownsRow.lt h.cl b h').2) (fun h' => (World.ownsRow.lt h.rn b h').2), h.dj b hb⟩
theorem RS.keep {n₀ n₁ : Nat} {D D' : Nat → Prop} {wr wr' : World} {clv rv : Value} {l run : List UInt8} (h : RS n₁ D wr clv rv l run) (hk : KeepOn n₀ (fun b => clv.ownBlock = some b ∨ rv.ownBlock = some b) wr wr') (hD : ∀ b, D' b → ¬ (clv.ownBlock = some b ∨ rv.ownBlock = some b)) : RS n₁ D' wr' clv rv l run :=
  ⟨ownsRow_keepOn h.cl hk (fun r hr => .inl hr), ownsRow_keepOn h.rn hk (fun r hr => .inr hr), h.ne, fun b hb hd => hD b hd hb⟩
theorem RS.alloc {n₁ : Nat} {D : Nat → Prop} {wr : World} {clv rv : Value} {l run : List UInt8} (h : RS n₁ D wr clv rv l run) (o : Obj) : RS n₁ D (wr.alloc o) clv rv l run :=
  h.keep (n₀ := 0) (KeepOn.alloc 0 _ wr o) (fun b hd hb => h.dj b hb hd)
theorem RS.app {n₁ : Nat} {D : Nat → Prop} {wr wr' : World} {clv rv rv' : Value} {l run run' : List UInt8} (h : RS n₁ D wr clv rv l run) (hDb : ∀ b, D b → b < wr.heap.size) (ho : OB wr' n₁ rv' run') (hg : wr.grownBy wr' rv.ownBlock) (hn : ∀ r, rv'.ownBlock = some r → rv.ownBlock = some r ∨ r = wr.heap.size) : RS n₁ D wr' clv rv' l run' := by
  refine ⟨h.cl.kept hg ?_, ho, fun r hr hr' => ?_, fun b hb hd => ?_⟩
  · cases e : clv.ownBlock with
    | none => exact .inl rfl
    | some r => exact .inr (fun h' => h.ne r e h'.symm)
  · rcases hn r hr' with h' | rfl
    · exact h.ne r hr h'
    · have := (World.ownsRow.lt h.cl _ hr).2; omega
  · rcases hb with hb | hb
    · exact h.dj b (.inl hb) hd
    · rcases hn b hb with h' | rfl
      · exact h.dj b (.inr h') hd
      · have := hDb _ hd; omega
theorem OB.zero {W : World} {base : Nat} {A : Option Addr} {n c : Nat} {l : List UInt8} (h : OB W base (.slice A n c) l) : OB W base (.slice A 0 c) [] := by
  obtain ⟨hl, h⟩ := h
  refine ⟨rfl, ?_⟩
  rcases h with ⟨e, -⟩ | ⟨g, cap, cur, e, hb, hg, hc, hm, hs, ht⟩
  · cases e; exact .inl ⟨rfl, rfl⟩
  · cases e
    exact .inr ⟨g, _, cur, rfl, hb, hg, Nat.zero_le _, hm, hs, by simp [enc8]⟩
theorem RS.zero {n₁ : Nat} {D : Nat → Prop} {wr : World} {clv : Value} {A : Option Addr} {n c : Nat} {l run : List UInt8} (h : RS n₁ D wr clv (.slice A n c) l run) : RS n₁ D wr clv (.slice A 0 c) l [] := by
  have e : (Value.slice A 0 c).ownBlock = (Value.slice A n c).ownBlock := by cases A <;> rfl
  exact ⟨h.cl, OB.zero h.rn, by rw [e]; exact h.ne, by rw [e]; exact h.dj⟩

set_option maxRecDepth 100000 in
set_option maxHeartbeats 400000 in
theorem runs_any (A : Option Addr) (n c : Nat) (w : World) : Calls Try.prog 35 #[.slice A n c] w fun e w' => e = .returned (.func (.func 45) #[] #[.pointer (some ⟨w.heap.size, 0, none⟩)]) ∧ w.alloc (.cells #[.slice A n c] 22) = w' := by
  go_enter Try.func35, Try.ntmps35
  go_wp2
  go_ret
  exact ⟨rfl, rfl⟩

set_option maxRecDepth 100000 in
set_option maxHeartbeats 8000000 in
theorem runs1_seq (n₀ B : Nat) (A : Option Addr) (c : Nat) (l : List UInt8) (hlen : l.length ≤ 100000) (w₀ w : World) (hw : w₀.heap.size = n₀) (hbw : Below n₀ w₀ w) (hB : n₀ ≤ B) (hs : SB w₀ (.slice A l.length c) l) (hbox : Boxed w B 22 (.slice A l.length c)) :
    SeqD Try.prog n₀ 45 #[.pointer (some ⟨B, 0, none⟩)] EncS (words l) (fun b => b = B) w := by
  intro lp J Jx W D hDb hown hbel hn hJ hJx hY h0
  subst hw
  obtain ⟨hB1, hB2, hB3⟩ := hown B rfl
  have hboxW : Boxed W B 22 _ := hB3.trans hbox
  have hcB := hboxW.cell
  have hfB := hboxW.frozen
  have hsW : SB W (.slice A l.length c) l := hs.below (hbw.trans hbel)
  have hcl := clone_any _ l W (by omega) hsW
  obtain ⟨n, hnl⟩ : ∃ n, l.length = n := ⟨_, rfl⟩
  rw [hnl] at hcl hcB hlen
  have HCL := Lib.hid hcl
  have HDb := Lib.hid hDb
  have HNL := Lib.hid hnl
  clear hcl hsW hboxW hbox hB3 hs hown
  obtain ⟨xs, hxs⟩ : ∃ xs, l ++ [0] = xs := ⟨_, rfl⟩
  obtain ⟨ws, hws⟩ : ∃ ws, words l = ws := ⟨_, rfl⟩
  obtain ⟨N, hN⟩ : ∃ N, xs.length = N := ⟨_, rfl⟩
  have hwx : wd [] xs = ws := by rw [← hxs]; exact hws
  have hNN : Hid (N = n + 1) := by show _ = _; rw [← hN, ← hxs]; simp; exact HNL.out
  rw [hws] at hY ⊢
  have hNb : N ≤ 100001 := by rw [hNN.out]; omega
  have HXS := Lib.hid hxs
  have HLN := Lib.hid hN
  have HWX := Lib.hid hwx
  clear hxs hN hwx hws
  refine callsIn_of_wp Try.func45 rfl trivial ?_ rfl
  simp only [Try.ntmps45, List.size_toArray, List.length_cons, List.length_nil, Nat.reduceAdd, Nat.reduceSub, Array.replicate_succ, Array.replicate_zero, List.push_toArray, List.append_toArray, List.nil_append, List.cons_append]
  gi_wp2_with fail
  refine ⟨trivial, rfl, (callsIn_wide.2 HCL.out).mono ?_⟩
  rintro e w1 ⟨cv, rfl, hcv, hb1⟩
  have hJ1 := hJ _ _ _ _ h0 (KeepOn.of_below hb1)
  obtain ⟨n₁, hn1⟩ : ∃ n, W.heap.size = n := ⟨_, rfl⟩
  rw [hn1] at hcv hb1
  obtain ⟨w2, hw2⟩ : ∃ w2, w1.alloc (.cells #[.int .u8 0] 5) = w2 := ⟨_, rfl⟩
  have hba : Below w1.heap.size w1 w2 := by rw [← hw2]; exact (Below.refl _ _).alloc (Nat.le_refl _) _
  have hlit : SB w2 (.slice (some ⟨w1.heap.size, 0, none⟩) 1 1) [0] := by rw [← hw2]; exact (OB_lit w1 #[.int .u8 0] [0] (by simp) rfl).reads
  have hcv2 : OB w2 n₁ cv l := hcv.below hba
  have hJ2 := hJ _ _ _ _ hJ1 (KeepOn.of_below hba)
  have hn2 : n₁ ≤ w2.heap.size := Nat.le_trans (by rw [← hn1]; exact hb1.size) hba.size
  have HCV := Lib.hid hcv2
  have HLIT := Lib.hid hlit
  have HJ2 := Lib.hid hJ2
  have HN2 := Lib.hid hn2
  have HN := Lib.hid hn
  clear hcv2 hlit hJ2 hn2 hcv hba hb1 hJ1 h0 hn hbel hbw
  obtain ⟨A1, c1, rfl, -, -, -⟩ := HCV.out.reads.form
  rw [HNL.out] at HCV
  rw [HNL.out]
  gi_wp2_with (gi_at_builtin; refine wpBI_append rfl _ _ rfl n₁ (.slice A1 n c1) _ l [0] rfl (by first | exact HCV.out | (rw [hw2]; exact HCV.out)) rfl (by first | exact HLIT.out | (rw [hw2]; exact HLIT.out)) (by simp) (by have := HNL.out; simp; omega) (by first | exact HN2.out | (rw [hw2]; exact HN2.out)) ?_; intro v5 w5 hown5 hgrow5 hnew5; rw [HXS.out] at hown5; obtain ⟨A5, c5, rfl, -, -, -⟩ := hown5.reads.form; rw [HLN.out] at hown5 ⊢)
  have hJ5 : J 0 D w5 := hJ _ _ _ _ HJ2.out (KeepOn.of_grown hgrow5 (fun r hr => by
    have := (World.ownsRow.lt HCV.out r hr).1
    have h3 := HN.out
    exact ⟨by omega, fun hd => by have := HDb.out r hd; omega⟩))
  have hs5 : w2.heap.size ≤ w5.heap.size := hgrow5.size
  have hDb5 : ∀ b, D b → b < w5.heap.size := fun b hb => by have := HDb.out b hb; have := HN2.out; omega
  have hn5 : w₀.heap.size ≤ w5.heap.size := by have := HN.out; have := HN2.out; omega
  have hn15 : n₁ ≤ w5.heap.size := by have := HN2.out; omega
  have hrs5 : RS n₁ D w5 (.slice A5 N c5) (.slice none 0 0) xs [] := by
    refine ⟨hown5, World.ownsRow_nil _ _ _ _, fun r _ h => by simp [Value.ownBlock] at h, fun b hb hd => ?_⟩
    rcases hb with hb | hb
    · have := (World.ownsRow.lt hown5 b hb).1
      have := HDb.out b hd
      omega
    · simp [Value.ownBlock] at hb
  have hn01 : w₀.heap.size ≤ n₁ := by have := HN.out; omega
  have HRS := Lib.hid hrs5
  have HJ5 := Lib.hid hJ5
  have HDB := Lib.hid hDb5
  have HN15 := Lib.hid hn15
  clear hown5 hgrow5 hnew5 hJ5 hs5 hDb5 hrs5 hn15 HJ2 HCV HLIT hw2 HCL hcB hfB HN2 hDb
  gi_loopw [3, 12] (fun rv i wr => ∃ (k j : Nat) (D : Nat → Prop) (Ar : Option Addr) (cr : Nat) (run : List UInt8), (i = .int .i64 (j : Int) ∧ j ≤ N ∧ k ≤ ws.length ∧ run.length ≤ 32 ∧ cr ≤ 9223372036854775807) ∧ rv = .slice Ar run.length cr ∧ Hid (wd run (xs.drop j) = ws.drop k) ∧ Hid (J k D wr) ∧ Hid (∀ b, D b → b < wr.heap.size) ∧ Hid (RS n₁ D wr (.slice A5 N c5) (.slice Ar run.length cr) xs run) ∧ Hid (n₁ ≤ wr.heap.size)) (fun _ i _ => N - (intOf i).toNat)
  case atStart => exact ⟨0, 0, D, none, 0, [], ⟨rfl, Nat.zero_le _, Nat.zero_le _, by simp, by omega⟩, rfl, by show _ = _; rw [List.drop_zero, List.drop_zero]; exact HWX.out, HJ5.out, HDB.out, HRS.out, HN15.out⟩
  case round =>
    clear HRS HJ5 HDB HN15
    obtain ⟨k, j, D, Ar, cr, run, ⟨rfl, hj, hkw, hrl, hcr⟩, rfl, hwd, hJk, hDb, hrs, hn1r⟩ := hrel
    by_cases hlt : j < N
    · have hjx : j < xs.length := by rw [HLN.out]; exact hlt
      obtain ⟨g, o, hA5, hc0⟩ := hrs.out.cl.reads.cellAt j hjx
      subst hA5
      have hdr : xs.drop j = xs[j] :: xs.drop (j + 1) := List.drop_eq_getElem_cons hjx
      have hnn := hwd.out
      rw [hdr] at hnn
      have hgx : gb xs j = (xs[j]).toNat := by unfold gb; rw [List.getElem?_eq_getElem hjx]; rfl
      have hx := gb_lt xs j
      obtain ⟨cc, hcc⟩ : ∃ cc, xs[j] = cc := ⟨_, rfl⟩
      rw [hcc] at hnn hgx
      obtain ⟨x, hxe⟩ : ∃ x, gb xs j = x := ⟨_, rfl⟩
      rw [hxe] at hc0 hgx hx
      have hl8 := lt8_nat cc
      rw [← hgx] at hl8
      obtain ⟨y, hy⟩ : ∃ y, ltr x = y := ⟨_, rfl⟩
      have hlt' := fun w => letter_any x (by omega) w
      rw [hy] at hlt' hl8
      have HLT := Lib.hid hlt'
      have HNN := Lib.hid hnn
      have HL8 := Lib.hid hl8
      have hy256 : y < 256 := by rw [← hl8]; exact (lt8 cc).toNat_lt
      have d0 : decide (j < N) = true := decide_eq_true hlt
      have d0' : decide ((j : Int) < (N : Int)) = true := decide_eq_true (by omega)
      have k0 : (0 : Int) ≤ (j : Int) := by omega
      have k1 : (j : Int) < (N : Int) := by omega
      clear hwd hnn hdr hcc hxe hl8 hy hlt' hgx
      by_cases hy0 : y = 0
      · have e1 : (y != 0) = false := by rw [hy0]; rfl
        have e2 : ((y : Int) != 0) = false := by rw [hy0]; rfl
        have hlz : lt8 cc = 0 := UInt8.toNat_inj.1 (by rw [HL8.out, hy0]; rfl)
        have ka := fun w => slice_runh Ar run.length cr 0 (Nat.zero_le _) 0 rfl w
        by_cases hr1 : run = []
        · subst hr1
          have hst := HNN.out
          rw [wd_skip _ _ hlz] at hst
          have HST := Lib.hid hst
          have hz := hrs.out.zero
          have HZ := Lib.hid hz
          simp only [List.length_nil] at ka ⊢
          clear hst hz hlz hrs
          gi_wp2_with fail
          refine ⟨trivial, rfl, (callsIn_wide.2 (HLT.out _)).mono ?_⟩
          rintro e w1 ⟨rfl, rfl⟩
          gi_wp2
          refine ⟨fun f hf => (by cases hf), ?_⟩
          gi_wp2
          go_roundw
          case rel => exact ⟨k, j + 1, D, Ar, cr, [], ⟨by go_num, by omega, hkw, by simp, hcr⟩, rfl, HST.out, hJk, hDb, HZ.out, hn1r⟩
          case measure => simp [intOf]; omega
        · have hst := HNN.out
          rw [wd_flush _ _ _ hlz hr1] at hst
          have hget : ws[k]? = some run := by
            have := congrArg (fun l => l[0]?) hst
            simpa [List.getElem?_drop] using this.symm
          have hmore : wd [] (xs.drop (j + 1)) = ws.drop (k + 1) := by
            have := congrArg (List.drop 1) hst
            rw [List.drop_drop] at this
            exact this
          have hk2 : k + 1 ≤ ws.length := (List.getElem?_eq_some_iff.1 hget).1
          have hpos : 0 < run.length := List.length_pos_iff.2 hr1
          have p0 : decide (0 < run.length) = true := decide_eq_true hpos
          have p0' : decide ((0 : Int) < (run.length : Int)) = true := decide_eq_true (by omega)
          have hstr := hrs.out.rn.reads.str
          have HST := Lib.hid hmore
          obtain ⟨fn, tmps, assign, body, hy, hR⟩ := hY k run #[.string ⟨run.toArray⟩] D (fun b => (Value.slice (some ⟨g, o, none⟩) N c5).ownBlock = some b ∨ (Value.slice Ar run.length cr).ownBlock = some b) wr hget rfl hJk.out hDb.out hrs.out.lt
          have HR32 := Lib.hid hrl
          clear hst hget hmore hlz hr1
          gi_wp2_with fail
          refine ⟨trivial, rfl, (callsIn_wide.2 (HLT.out _)).mono ?_⟩
          rintro e w1 ⟨rfl, rfl⟩
          gi_wp2
          refine ⟨rfl, hR.mono ?_⟩
          clear hy hR hstr
          rintro e W3 ⟨D3, hD3, hk3, (⟨rfl, hJ3⟩ | ⟨rfl, hJ3⟩)⟩
          · have hz := (hrs.out.keep hk3 (fun b hb => (hD3 b hb).2)).zero
            have HZ := Lib.hid hz
            have HD3 : Hid (∀ b, D3 b → b < W3.heap.size) := fun b h => (hD3 b h).1
            have HJ3 := Lib.hid hJ3
            have HN3 := Lib.hid (Nat.le_trans hn1r.out hk3.size)
            clear hz hD3 hk3 hJ3 hrs hJk hDb hn1r
            gi_wp2
            go_roundw
            case rel => exact ⟨k + 1, j + 1, D3, Ar, cr, [], ⟨by go_num, by omega, hk2, by simp, hcr⟩, rfl, HST.out, HJ3.out, HD3.out, HZ.out, HN3.out⟩
            case measure => simp [intOf]; omega
          · gi_wp2
            refine bodyPost_ret (results_none rfl _ _ _) rfl ?_
            exact ⟨⟨_, rfl⟩, D3, .inr ⟨_, hJ3⟩⟩
      · have e1 : (y != 0) = true := bne_iff_ne.2 hy0
        have e2 : ((y : Int) != 0) = true := bne_iff_ne.2 (by omega)
        have hlne : lt8 cc ≠ 0 := fun h => hy0 (by rw [← HL8.out, h]; rfl)
        have hst := HNN.out
        rw [wd_letter _ _ _ hlne] at hst
        by_cases h32 : run.length < 32
        · rw [if_pos h32] at hst
          have HST := Lib.hid hst
          have dl : decide (run.length < 32) = true := decide_eq_true h32
          have dl' : decide ((run.length : Int) < 32) = true := decide_eq_true (by omega)
          have hba : Below wr.heap.size wr (wr.alloc (.cells #[.int .u8 (y : Int)] 5)) := (Below.refl _ _).alloc (Nat.le_refl _) _
          have hlit := (OB_lit wr #[.int .u8 (y : Int)] [lt8 cc] (by simp) (by simp only [enc8, List.map_cons, List.map_nil, HL8.out])).reads
          have hrs1 := hrs.out.alloc (.cells #[.int .u8 (y : Int)] 5)
          have hJ1 := hJ _ _ _ _ hJk.out (KeepOn.of_below hba)
          have hDb1 : ∀ b, D b → b < (wr.alloc (.cells #[.int .u8 (y : Int)] 5)).heap.size := fun b hb => Nat.lt_of_lt_of_le (hDb.out b hb) hba.size
          have hn1a : n₁ ≤ (wr.alloc (.cells #[.int .u8 (y : Int)] 5)).heap.size := Nat.le_trans hn1r.out hba.size
          have HLIT := Lib.hid hlit
          have HRS1 := Lib.hid hrs1
          have HJ1 := Lib.hid hJ1
          have HDB1 := Lib.hid hDb1
          have HN1A := Lib.hid hn1a
          obtain ⟨r0, hr0⟩ : ∃ r, run.length = r := ⟨_, rfl⟩
          have HR0 := Lib.hid hr0
          rw [hr0] at HRS1 h32 dl dl' ⊢
          clear hlit hrs1 hJ1 hDb1 hn1a hba hst hrs hJk hDb hn1r hlne hr0 hrl
          gi_wp2_with fail
          refine ⟨trivial, rfl, (callsIn_wide.2 (HLT.out _)).mono ?_⟩
          rintro e w1 ⟨rfl, rfl⟩
          gi_wp2_with (gi_at_builtin; refine wpBI_append rfl _ _ rfl n₁ (.slice Ar r0 cr) _ run [lt8 cc] rfl HRS1.out.rn rfl HLIT.out (by simp) (by have := HR0.out; simp; omega) HN1A.out ?_; intro v5 w5 hown5 hgrow5 hnew5; obtain ⟨run2, hrun2⟩ : ∃ q, run ++ [lt8 cc] = q := ⟨_, rfl⟩; rw [hrun2] at hown5; have HRUN2 := Lib.hid hrun2; have hJ6 := hJ _ _ _ _ HJ1.out (KeepOn.of_grown hgrow5 (fun r hr => ⟨Nat.le_trans hn01 (World.ownsRow.lt HRS1.out.rn r hr).1, (HRS1.out.lt r (.inr hr)).2⟩)); have hrs6 := HRS1.out.app HDB1.out hown5 hgrow5 hnew5; have hDB6 : ∀ b, D b → b < w5.heap.size := (fun b hb => Nat.lt_of_lt_of_le (HDB1.out b hb) hgrow5.size); have hN6 : n₁ ≤ w5.heap.size := Nat.le_trans HN1A.out hgrow5.size; obtain ⟨A6, c6, rfl, -, hc6, -⟩ := hown5.reads.form; have HRS6 := Lib.hid hrs6; have HJ6 := Lib.hid hJ6; have HDB6 := Lib.hid hDB6; have HN6 := Lib.hid hN6; clear hown5 hgrow5 hnew5 hrs6 hJ6 hDB6 hN6)
          go_roundw
          case rel => exact ⟨k, j + 1, D, A6, c6, run2, ⟨by go_num, by omega, hkw, by rw [← HRUN2.out]; have := HR0.out; simp; omega, hc6⟩, rfl, by rw [← HRUN2.out]; exact HST.out, HJ6.out, HDB6.out, HRS6.out, HN6.out⟩
          case measure => simp [intOf]; omega
        · rw [if_neg h32] at hst
          have HST := Lib.hid hst
          have dl : decide (run.length < 32) = false := decide_eq_false h32
          have dl' : decide ((run.length : Int) < 32) = false := decide_eq_false (by omega)
          have HR32 := Lib.hid hrl
          obtain ⟨r0, hr0⟩ : ∃ r, run.length = r := ⟨_, rfl⟩
          have HR0 := Lib.hid hr0
          rw [hr0] at hrs h32 dl dl' hrl ⊢
          clear hst hlne hr0
          gi_wp2_with fail
          refine ⟨trivial, rfl, (callsIn_wide.2 (HLT.out _)).mono ?_⟩
          rintro e w1 ⟨rfl, rfl⟩
          gi_wp2
          go_roundw
          case rel => exact ⟨k, j + 1, D, Ar, cr, run, ⟨by go_num, by omega, hkw, HR32.out, hcr⟩, by rw [HR0.out], HST.out, hJk, hDb, by rw [HR0.out]; exact hrs, hn1r⟩
          case measure => simp [intOf]; omega
    · have hN2 : N ≤ j := by omega
      have d0 : decide (j < N) = false := decide_eq_false hlt
      have d0' : decide ((j : Int) < (N : Int)) = false := decide_eq_false (by omega)
      have hkk : ws.length = k := by
        have := congrArg List.length hwd.out
        rw [List.drop_eq_nil_of_le (by rw [HLN.out]; exact hN2), List.length_drop] at this
        simp [wd] at this
        omega
      clear hwd hrs
      gi_wp2
      refine bodyPost_end (results_none rfl _ _ _) rfl ?_
      exact ⟨⟨_, rfl⟩, D, .inl (by rw [hkk]; exact hJk.out)⟩
end Go.Proofs.Ythcggjehihkdoaa
