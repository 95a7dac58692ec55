/- TokenFolds. -/
import Derived.RangeFuncNested
import Derived.RangeFuncBound
import Derived.RangeFuncCalls
import Derived.RangeFuncLeaves
import Derived.Shelf.Abstract
import Derived.Shelf.RegionOpen
import Derived.WalkKit
import Derived.OwnWalkIn
import Derived.TacticsInMore
import Derived.LoopNIn
import Derived.LoopIn
import Derived.Outline
import Derived.Lib.Hide
import Derived.Lib.SliceRun
import Derived.IntWalk
import Derived.WalkLawsBesides
import Derived.WalkSpells
import Derived.Laws.BitsAllLaws
import Derived.Lib.ConvBytes
import Derived.Maps.AppendAt
import Derived.Lib.AppendStr
import Derived.Lib.SlBytesConst
import Derived.Laws.AppendOwnNone
import Derived.Laws.OwnMore
import Derived.Laws.BytesArg
import Derived.Deep.RegionHeld3
import Derived.BigQuiet
import Derived.Deep.RegionLaw
import Derived.Deep.QuietTactic
import Derived.Lib.OthersKept
import Derived.Test.YthcggjehihkdoaaProg
import Derived.Deep.DeepFit
import Derived.Test.YthcggjehihkdoaaTkJ
set_option linter.unusedVariables false
set_option linter.unusedSimpArgs false
namespace Go.Proofs.Ythcggjehihkdoaa
open Go Go.RowKit Go.Shelf
open Go.Proofs (encStr)

/-- made great up to k -/
def upK (l : List UInt8) (k : Nat) : List UInt8 := (l.take k).map up8 ++ l.drop k
theorem upK_len (l : List UInt8) (k : Nat) : (upK l k).length = l.length := by unfold upK; simp; omega
theorem upK_gb (l : List UInt8) (k : Nat) (h : k < l.length) : gb (upK l k) k = gb l k := by
  unfold upK gb
  rw [List.getElem?_append_right (by simp; omega), List.length_map, List.length_take, List.getElem?_drop]
  congr 2
  congr 1
  omega
theorem upK_step (l : List UInt8) (k : Nat) (h : k < l.length) : (upK l k).set k (up8 l[k]) = upK l (k + 1) := by
  unfold upK
  have hl : ((l.take k).map up8).length = k := by simp; omega
  rw [List.set_append_right _ _ (by omega), hl, Nat.sub_self, List.drop_eq_getElem_cons h, List.set_cons_zero, List.take_succ_eq_append_getElem h, List.map_append, List.append_assoc]
  rfl
theorem upK_same (l : List UInt8) (k : Nat) (h : k < l.length) (hn : up8 l[k] = l[k]) : upK l k = upK l (k + 1) := by
  rw [← upK_step l k h, hn]
  unfold upK
  have hl : ((l.take k).map up8).length = k := by simp; omega
  rw [List.set_append_right _ _ (by omega), hl, Nat.sub_self, List.drop_eq_getElem_cons h, List.set_cons_zero]
theorem upK_all (l : List UInt8) : upK l l.length = l.map up8 := by unfold upK; simp
theorem upK_zero (l : List UInt8) : upK l 0 = l := by unfold upK; simp
theorem OB.addr {W : World} {base : Nat} {A : Option Addr} {n c : Nat} {l : List UInt8} (h : OB W base (.slice A n c) l) (h0 : 0 < l.length) : ∃ g, A = some ⟨g, 0, none⟩ ∧ n = l.length ∧ base ≤ g ∧ ∀ j, j < l.length → W.cell? ⟨g, j, none⟩ = some (.int .u8 (gb l j)) ∧ W.frozen? ⟨g, j, none⟩ = false := by
  obtain ⟨hl, hh⟩ := id h
  rcases hh with ⟨e, hz⟩ | ⟨g, cap, cur, e, hb, hg, hr⟩
  · omega
  · cases e
    refine ⟨g, rfl, rfl, hb, fun j hj => ?_⟩
    have h1 := World.ownsRow.cellAt h j (by omega)
    rw [enc8_get l j hj] at h1
    exact ⟨h1, World.ownsRow.frozenAt h j⟩
theorem OB.put {W : World} {base g n c : Nat} {l : List UInt8} (h : OB W base (.slice (some ⟨g, 0, none⟩) n c) l) (hn : n = l.length) (j : Nat) (y : UInt8) : OB (W.setCell ⟨g, j, none⟩ (.int .u8 (y.toNat : Int))) base (.slice (some ⟨g, 0, none⟩) n c) (l.set j y) := by
  subst hn
  have h1 := (World.ownsRow.stored h j (.int .u8 (y.toNat : Int))).1
  unfold OB
  rw [List.length_set]
  have e : enc8 (l.set j y) = (enc8 l).set j (.int .u8 (y.toNat : Int)) := by unfold enc8; rw [List.map_set]
  rw [e]
  exact h1
set_option maxHeartbeats 4000000 in
set_option maxRecDepth 100000 in
theorem tokenFolds_walk (v : Value) (l : List UInt8) (w : World) (h : SB w v l) :
    Calls Try.prog 11 #[v] w fun e w' => e = .returned (.bool true) ∧ Below w.heap.size w w' := by
  obtain ⟨A, c, rfl, -, -, -⟩ := h.form
  obtain ⟨L, hL⟩ : ∃ L, l.length = L := ⟨_, rfl⟩
  have HL := Lib.hid hL
  have HS := Lib.hid h
  rw [hL] at HS ⊢
  obtain ⟨B, hB⟩ : ∃ B, w.heap.size = B := ⟨_, rfl⟩
  have haw := awake12_any w
  rw [hB] at haw ⊢
  have HAW := Lib.hid haw
  have HSB : Hid (∀ w', Below B w w' → SB w' (.slice A L c) l) := fun w' hb => HS.out.below (hB ▸ hb)
  have hwl := words_len l
  have hsl := srt_len (words l)
  have hup := words_up l
  obtain ⟨ul, hul⟩ : ∃ ul, l.map up8 = ul := ⟨_, rfl⟩
  have HUL : Hid (ul.length = L) := by show _ = _; rw [← hul, List.length_map]; exact hL
  have HUA : Hid (upK l L = ul) := by show _ = _; rw [← hL, upK_all]; exact hul
  rw [hul] at hup
  obtain ⟨ws, hws⟩ : ∃ ws, words l = ws := ⟨_, rfl⟩
  rw [hws] at hup hwl hsl
  have HWS := Lib.hid hws
  have HUP := Lib.hid hup
  have HWL : Hid (ws.length ≤ L + 1 ∧ (srt ws).length ≤ L + 1) := by rw [← hL]; exact ⟨hwl, by omega⟩
  have q1 : decide ((2000 : Int) < (L : Int)) = decide (2000 < L) := few_facts L 2000
  have hgl := fun j => gb_lt l j
  have HGL := Lib.hid hgl
  clear h hL haw hwl hsl hup hul hws hgl
  by_cases hlen : L ≤ 2000
  · rw [decide_eq_false (show ¬ 2000 < L by omega)] at q1
    have q1' : decide (2000 < L) = false := decide_eq_false (by omega)
    go_enter Try.func11, Try.ntmps11
    go_wp2_with fail
    refine HAW.out.mono ?_
    rintro e w1 ⟨rfl, hb1⟩
    have HB1 := Lib.hid hb1
    have hn1 : B ≤ w1.heap.size := by rw [← hB]; exact hb1.size
    have HX1 := Lib.hid (HSB.out _ hb1)
    have HLL : Hid (([] : List UInt8).length + l.length ≤ 140737488355328) := by have := HL.out; show _ ≤ _; simp; omega
    have HO0 : Hid (OB w1 B (.slice none 0 0) []) := World.ownsRow_nil _ _ _ _
    clear hb1
    go_wp2_with (refine wpB_append rfl _ _ rfl B (.slice none 0 0) (.slice A L c) [] l rfl HO0.out rfl HX1.out HLL.out hn1 ?_)
    intro v3 w3 ho3 _ hb3
    have ho3' : OB w3 B v3 (upK l 0) := by rw [upK_zero]; exact ho3
    obtain ⟨A3, c3, rfl, -, hc3, -⟩ := ho3'.reads.form
    rw [upK_len, HL.out] at ho3' ⊢
    have HN1 := Lib.hid hn1
    have HB3 := Lib.hid (HB1.out.trans hb3)
    have HO3 := Lib.hid ho3'
    have hn3 : B ≤ w3.heap.size := Nat.le_trans hn1 hb3.size
    clear ho3 ho3' hb3 HO0 HX1 HLL
    go_wp2
    go_loopw [15] (fun i wr => ∃ k : Nat, (i = .int .i64 (k : Int) ∧ k ≤ L) ∧ OB wr B (.slice A3 L c3) (upK l k) ∧ Mine B w wr) (fun i _ => L - (intOf i).toNat)
    case atStart => exact ⟨0, ⟨rfl, Nat.zero_le _⟩, HO3.out, ⟨hn3, HB3.out⟩⟩
    case round =>
      clear HO3 HB3 hn3
      obtain ⟨k, ⟨rfl, hk⟩, hown, hmi⟩ := hrel
      by_cases hlt : k < L
      · have hkl : k < l.length := by rw [HL.out]; exact hlt
        obtain ⟨g, rfl, -, hbg, hcells⟩ := hown.addr (by rw [upK_len]; omega)
        obtain ⟨hck, hfk⟩ := hcells k (by rw [upK_len]; exact hkl)
        rw [upK_gb l k hkl] at hck
        have hx := HGL.out k
        have hgx : gb l k = (l[k]).toNat := by unfold gb; rw [List.getElem?_eq_getElem hkl]; rfl
        have hst := upK_step l k hkl
        have hsame := upK_same l k hkl
        obtain ⟨cc, hcc⟩ : ∃ cc, l[k] = cc := ⟨_, rfl⟩
        rw [hcc] at hgx hst hsame
        obtain ⟨x, hxe⟩ : ∃ x, gb l k = x := ⟨_, rfl⟩
        rw [hxe] at hck hgx hx
        have hput := hown.put (by rw [upK_len]; exact HL.out.symm) k (up8 cc)
        rw [hst] at hput
        have e0 : decide (k < L) = true := decide_eq_true hlt
        have e0' : decide ((k : Int) < (L : Int)) = true := decide_eq_true (by omega)
        have k0 : (0 : Int) ≤ (k : Int) := by omega
        have k1 : (k : Int) < (L : Int) := by omega
        have HM := Lib.hid hmi
        clear hcells hcc hxe hst
        rcases (by omega : x < 97 ∨ (97 ≤ x ∧ x ≤ 122) ∨ 122 < x) with hr | ⟨hr1, hr2⟩ | hr
        · have e1 : decide (97 ≤ x) = false := decide_eq_false (by omega)
          have e1' : decide ((97 : Int) ≤ (x : Int)) = false := decide_eq_false (by omega)
          have hu : up8 cc = cc := by unfold up8; rw [if_neg (by omega)]
          rw [hsame hu] at hown
          have HO := Lib.hid hown
          clear hput hsame hu hown hmi hgx
          go_wp2
          go_roundw
          case rel => exact ⟨k + 1, ⟨by go_num, by omega⟩, HO.out, HM.out⟩
          case measure => simp [intOf]; omega
        · have e1 : decide (97 ≤ x) = true := decide_eq_true (by omega)
          have e1' : decide ((97 : Int) ≤ (x : Int)) = true := decide_eq_true (by omega)
          have e2 : decide (x ≤ 122) = true := decide_eq_true (by omega)
          have e2' : decide ((x : Int) ≤ 122) = true := decide_eq_true (by omega)
          have hu : ((up8 cc).toNat : Int) = (x : Int) - 32 := by
            unfold up8
            rw [if_pos (by omega), UInt8.toNat_ofNat', Nat.mod_eq_of_lt (by omega)]
            omega
          rw [hu] at hput
          have w8 : IntKind.u8.wrap ((x : Int) - 32) = (x : Int) - 32 := by
            obtain ⟨d, rfl⟩ : ∃ d, x = d + 97 := ⟨x - 97, by omega⟩
            have : ∀ d : Nat, d < 26 → IntKind.u8.wrap (((d + 97 : Nat) : Int) - 32) = ((d + 97 : Nat) : Int) - 32 := by decide
            exact this d (by omega)
          have w8' : ((x : Int) - 32) % 256 = (x : Int) - 32 := by omega
          have HP := Lib.hid hput
          have HMP := Lib.hid (hmi.put ⟨g, k, none⟩ (.int .u8 ((x : Int) - 32)) hbg)
          clear hput hsame hu hown hmi hgx
          go_wp2
          go_roundw
          case rel => exact ⟨k + 1, ⟨by go_num, by omega⟩, HP.out, HMP.out⟩
          case measure => simp [intOf]; omega
        · have e1 : decide (97 ≤ x) = true := decide_eq_true (by omega)
          have e1' : decide ((97 : Int) ≤ (x : Int)) = true := decide_eq_true (by omega)
          have e2 : decide (x ≤ 122) = false := decide_eq_false (by omega)
          have e2' : decide ((x : Int) ≤ 122) = false := decide_eq_false (by omega)
          have hu : up8 cc = cc := by unfold up8; rw [if_neg (by omega)]
          rw [hsame hu] at hown
          have HO := Lib.hid hown
          clear hput hsame hu hown hmi hgx
          go_wp2
          go_roundw
          case rel => exact ⟨k + 1, ⟨by go_num, by omega⟩, HO.out, HM.out⟩
          case measure => simp [intOf]; omega
      · have e0 : decide (k < L) = false := decide_eq_false hlt
        have e0' : decide ((k : Int) < (L : Int)) = false := decide_eq_false (by omega)
        obtain rfl : k = L := by omega
        rw [HUA.out] at hown
        have HB4 := Lib.hid hmi.bel
        have hn4 : B ≤ wr.heap.size := hmi.le
        have hux := words_any _ ul wr (by have := HUL.out; omega) hown.reads
        rw [HUP.out] at hux
        have HUX := Lib.hid hux
        have HSU : Hid (∀ W, Below wr.heap.size wr W → SB W (.slice A3 k c3) ul) := fun W hb => hown.reads.below hb
        clear hux hown hmi
        go_wp2_with fail
        refine HUX.out.mono ?_
        rintro e w5 ⟨u5, rfl, ho5, hb5⟩
        have HB5 := Lib.hid (HB4.out.trans (hb5.mono hn4))
        have HD5 := Lib.hid hb5
        have hn5 : B ≤ w5.heap.size := Nat.le_trans hn4 hb5.size
        have hca := words_any _ l w5 (by have := HL.out; omega) (HSB.out _ HB5.out)
        rw [HWS.out] at hca
        have HCA := Lib.hid hca
        have HR5 := Lib.hid ho5.reads
        clear hca hb5 ho5
        go_wp2_with fail
        refine HCA.out.mono ?_
        rintro e w6 ⟨u6, rfl, ho6, hb6⟩
        have HB6 := Lib.hid (HB5.out.trans (hb6.mono hn5))
        have hn6 : B ≤ w6.heap.size := Nat.le_trans hn5 hb6.size
        have HD6 := Lib.hid (HD5.out.trans (hb6.mono HD5.out.size))
        have hcs := same_true _ _ ws w6 (by have := HWL.out.1; omega) (HR5.out.below hb6) ho6.reads
        have HCS := Lib.hid hcs
        clear hcs hb6 ho6 HR5
        go_wp2_with fail
        refine HCS.out.mono ?_
        rintro e w7 ⟨rfl, hb7⟩
        have HB7 := Lib.hid (HB6.out.trans (hb7.mono hn6))
        have hn7 : B ≤ w7.heap.size := Nat.le_trans hn6 hb7.size
        have HD7 := Lib.hid (HD6.out.trans (hb7.mono HD6.out.size))
        have hux := set_any _ ul w7 (by have := HUL.out; omega) (HSU.out _ HD7.out)
        rw [HUP.out] at hux
        have HUX := Lib.hid hux
        clear hux hb7
        go_wp2_with fail
        refine HUX.out.mono ?_
        rintro e w8 ⟨u8, rfl, ho8, hb8⟩
        have HB8 := Lib.hid (HB7.out.trans (hb8.mono hn7))
        have hn8 : B ≤ w8.heap.size := Nat.le_trans hn7 hb8.size
        have hca := set_any _ l w8 (by have := HL.out; omega) (HSB.out _ HB8.out)
        rw [HWS.out] at hca
        have HCA := Lib.hid hca
        have HR8 := Lib.hid ho8.reads
        clear hca hb8 ho8
        go_wp2_with fail
        refine HCA.out.mono ?_
        rintro e w9 ⟨u9, rfl, ho9, hb9⟩
        have HB9 := Lib.hid (HB8.out.trans (hb9.mono hn8))
        have hn9 : B ≤ w9.heap.size := Nat.le_trans hn8 hb9.size
        have hcs := same_true _ _ (srt ws) w9 (by have := HWL.out.2; omega) (HR8.out.below hb9) ho9.reads
        have HCS := Lib.hid hcs
        clear hcs hb9 ho9 HR8
        go_wp2_with fail
        refine HCS.out.mono ?_
        rintro e w10 ⟨rfl, hb10⟩
        have HB10 := Lib.hid (HB9.out.trans (hb10.mono hn9))
        clear hb10
        go_wp2
        go_ret
        exact ⟨rfl, HB10.out⟩
  · rw [decide_eq_true (show 2000 < L by omega)] at q1
    have q1' : decide (2000 < L) = true := decide_eq_true (by omega)
    go_enter Try.func11, Try.ntmps11
    go_wp2_with fail
    refine HAW.out.mono ?_
    rintro e w1 ⟨rfl, hb1⟩
    have HB1 := Lib.hid hb1
    clear hb1
    go_wp2
    go_ret
    exact ⟨rfl, HB1.out⟩
end Go.Proofs.Ythcggjehihkdoaa
