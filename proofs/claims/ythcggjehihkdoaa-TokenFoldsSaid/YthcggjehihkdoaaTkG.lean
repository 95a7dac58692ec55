/- Set. -/
import Derived.RangeFuncNested
import Derived.RangeFuncBound
import Derived.RangeFuncCalls
import Derived.RangeFuncLeaves
import Derived.Shelf.Abstract
import Derived.Shelf.RegionOpen
import Derived.WalkKit
import Derived.OwnWalkIn
import Derived.TacticsInMore
import Derived.LoopNIn
import Derived.LoopIn
import Derived.Outline
import Derived.Lib.Hide
import Derived.Lib.SliceRun
import Derived.IntWalk
import Derived.WalkLawsBesides
import Derived.WalkSpells
import Derived.Laws.BitsAllLaws
import Derived.Lib.ConvBytes
import Derived.Maps.AppendAt
import Derived.Lib.AppendStr
import Derived.Lib.SlBytesConst
import Derived.Laws.AppendOwnNone
import Derived.Laws.OwnMore
import Derived.Laws.BytesArg
import Derived.Deep.RegionHeld3
import Derived.BigQuiet
import Derived.Deep.RegionLaw
import Derived.Deep.QuietTactic
import Derived.Lib.OthersKept
import Derived.Test.YthcggjehihkdoaaProg
import Derived.Deep.DeepFit
import Derived.Maps.OwnOps
import Derived.Maps.OwnIn
import Derived.Maps.Views
import Derived.StringKeys
import Derived.OpenShut
import Derived.Sort.KeysCollected
import Derived.Sort.OwnSorted
import Derived.Sort.MapsRangeIn
import Derived.Test.YthcggjehihkdoaaTkF
import Derived.Test.YthcggjehihkdoaaTkShelf
set_option linter.unusedVariables false
set_option linter.unusedSimpArgs false
namespace Go.Proofs.Ythcggjehihkdoaa
open Go Go.RowKit Go.Shelf Go.Maps Go.WideAt Go.WideMaps
open Go.Proofs (encStr)
attribute [local go_sem] Oper.semAt_some

theorem keyS : Maps.Keyed Try.prog 9 := Maps.string_keyed Try.underlying9
theorem zeroI (w : World) : (zeroValue 3).run Try.prog w = .ok (.int .i64 0) w := by kernel_rfl
/-- block B is a map whose keys are these -/
def KM (W : World) (B n : Nat) (D : DataW Unit) (ks : List (List UInt8)) : Prop := W.ownsMap Try.prog 9 (plainElem Try.prog 3) B n D ∧ ∀ x : List UInt8, Maps.has D (.string x) = true ↔ x ∈ ks
theorem KM.new (w : World) : KM (w.alloc (.map #[] 0)) w.heap.size 0 (.map []) [] := ⟨World.ownsMap_made _ _ _ _, fun x => by simp [Maps.has]⟩
theorem KM.block {w w' : World} {B n : Nat} {D : DataW Unit} {ks : List (List UInt8)} (h : KM w B n D ks) (hb : w'.heap[B]? = w.heap[B]?) : KM w' B n D ks := by
  obtain ⟨⟨es, clock, h1, h2⟩, h3⟩ := h
  exact ⟨⟨es, clock, hb.trans h1, h2⟩, h3⟩
theorem KM.lt {w : World} {B n : Nat} {D : DataW Unit} {ks : List (List UInt8)} (h : KM w B n D ks) : B < w.heap.size := h.1.lt
theorem KM.size {w : World} {B n : Nat} {D : DataW Unit} {ks : List (List UInt8)} (h : KM w B n D ks) : Maps.size D ≤ n := by
  obtain ⟨⟨es, clock, h1, h2, h3, rfl⟩, h4⟩ := h
  rw [size_eq, length_sorted]
  simpa using h3
theorem KM.put {w : World} {B n : Nat} {D : DataW Unit} {ks : List (List UInt8)} (h : KM w B n D ks) (x : List UInt8) (hs : x.length ≤ 1000000) (hn : n ≤ 1000000) :
    ∃ (c z : Int) (w' : World) (D' : DataW Unit), (Instr.lookup 43 (.map (some B)) (.string ⟨x.toArray⟩) false).run Try.prog w = .ok (.int .i64 c) w ∧ IntKind.i64.wrap (c + 1) = z ∧
      (Instr.mapUpdate 43 (.map (some B)) (.string ⟨x.toArray⟩) (.int .i64 z)).run Try.prog w = .ok () w' ∧ KM w' B (n + 1) D' (ks ++ [x]) ∧ w.grownBy w' (some B) := by
  obtain ⟨h1, h2⟩ := h
  have hx : (⟨x.toArray⟩ : ByteArray).size ≤ maxLen := by
    show x.toArray.size ≤ maxLen
    unfold maxLen; simp; omega
  have hk := keyOf_string_mk (P := Try.prog) Try.underlying9 hx
  obtain ⟨c, hrun, hat, -⟩ := h1.lookup_int keyS Try.underlying43 Try.underlying3 (zeroI w) hk
  obtain ⟨w', hrun2, h3, h4⟩ := h1.update keyS Try.underlying43 (by unfold maxLen; omega) hk (plainElem_int Try.underlying3 (a := IntKind.i64.wrap (c + 1)) (wf_wrap .i64 _))
  obtain ⟨es, clock, hb, _, _, hD⟩ := id h1
  refine ⟨c, _, w', _, hrun, rfl, hrun2, ⟨h3, fun y => ?_⟩, h4⟩
  show has (D.put (.string x) _) (.string y) = true ↔ _
  by_cases e : y = x
  · subst e
    rw [has_put_same (D := D) (k := .string y) ⟨_, hD⟩ (by trivial)]
    simp
  · rw [has_put_other (fun h => e (by injection h)), h2 y]
    simp [e]
/-- the map, its variable -/
def GM (n₀ B1 bm : Nat) (w : World) (n : Nat) (ks : List (List UInt8)) (D : Nat → Prop) (W : World) : Prop :=
  Boxed W B1 43 (.map (some bm)) ∧ (∃ Dm, KM W bm n Dm ks) ∧ D B1 ∧ D bm ∧ Below n₀ w W ∧ n₀ ≤ W.heap.size
theorem GM.keep {n₀ B1 bm n : Nat} {w W W' : World} {ks : List (List UInt8)} {D : Nat → Prop} (h : GM n₀ B1 bm w n ks D W) (hk : KeepOn n₀ D W W') : GM n₀ B1 bm w n ks D W' := by
  obtain ⟨h1, ⟨Dm, h2⟩, h3, h4, h5, h6⟩ := h
  exact ⟨boxed_keepOn h1 hk (.inr h3), ⟨Dm, h2.block (hk.block bm h2.lt (.inr h4))⟩, h3, h4, h5.trans (hk.below h6), Nat.le_trans h6 hk.size⟩
theorem GM.put {n₀ B1 bm n : Nat} {w W W' : World} {ks : List (List UInt8)} {D M : Nat → Prop} (hb : n₀ ≤ bm) (h : GM n₀ B1 bm w n ks D W) (hDb : ∀ b, D b → b < W.heap.size) (hMD : ∀ b, M b → b < W.heap.size ∧ ¬ D b) {ks' : List (List UInt8)} {D' : DataW Unit} (hk : KM W' bm (n + 1) D' ks') (hg : W.grownBy W' (some bm)) (hne : bm ≠ B1) :
    (∀ b, D b → b < W'.heap.size ∧ ¬ M b) ∧ KeepOn n₀ M W W' ∧ GM n₀ B1 bm w (n + 1) ks' D W' := by
  obtain ⟨h1, h2, h3, h4, h5, h6⟩ := h
  have hkp : KeepOn n₀ M W W' := KeepOn.of_grown hg (fun k e => by cases e; exact ⟨hb, fun hm => (hMD _ hm).2 h4⟩)
  exact ⟨fun b hd => ⟨Nat.lt_of_lt_of_le (hDb b hd) hg.size, fun hm => (hMD b hm).2 hd⟩, hkp, h1.kept hg (by simp; exact fun e => hne e.symm), ⟨D', hk⟩, h3, h4, h5.trans (hkp.below h6), Nat.le_trans h6 hg.size⟩
set_option maxRecDepth 100000 in
set_option maxHeartbeats 8000000 in
/-- **Set** -/
theorem set_any (v : Value) (l : List UInt8) (w : World) (hlen : l.length ≤ 100000) (h : SB w v l) :
    Calls Try.prog 24 #[v] w fun e w' => ∃ u, e = .returned u ∧ OT w' w.heap.size u (srt (words l)) ∧ Below w.heap.size w w' := by
  have hwl := words_len l
  have hle := words_le l
  have h' := h
  obtain ⟨A, c, rfl, -, -, -⟩ := h.form
  have hsq := fun B w' hbw hB hbox => runs1_seq w.heap.size B A c l hlen w w' rfl hbw hB h' hbox
  obtain ⟨ws, hws⟩ : ∃ ws, words l = ws := ⟨_, rfl⟩
  rw [hws] at hwl hle ⊢
  simp only [hws] at hsq
  have hmm := @run_makeMap Try.prog
  have HSEQ := Lib.hid hsq
  have HWL : Hid (ws.length ≤ 100001) := by show _ ≤ _; omega
  have HLE := Lib.hid hle
  clear hsq hwl hws h h' hle
  refine (callsIn_wide (n := 0)).1 ?_
  refine callsIn_of_wp_marks Try.func24 rfl trivial ?_
  simp only [Try.ntmps24, List.size_toArray, List.length_cons, List.length_nil, Nat.reduceAdd, Nat.reduceSub, Array.replicate_succ, Array.replicate_zero, List.push_toArray, List.append_toArray, List.nil_append, List.cons_append]
  gi_wp2_with fail
  refine ⟨trivial, rfl, (callsIn_wide.2 (runs_any _ _ _ _)).mono ?_⟩
  rintro e w3 ⟨rfl, rfl⟩
  gi_wp2_with fail
  obtain ⟨n₀, hn₀⟩ : ∃ n, w.heap.size = n := ⟨_, rfl⟩
  obtain ⟨W0, hW0⟩ : ∃ W0, ((w.alloc (.map #[] 0)).alloc (.cells #[.map (some w.heap.size)] 43)).alloc (.cells #[.slice A l.length c] 22) = W0 := ⟨_, rfl⟩
  have b1 : Below n₀ w (w.alloc (.map #[] 0)) := (Below.refl _ w).alloc (by omega) _
  have b2 : Below n₀ w ((w.alloc (.map #[] 0)).alloc (.cells #[.map (some w.heap.size)] 43)) := b1.alloc (by rw [alloc_size]; omega) _
  have b3 : Below n₀ w W0 := by rw [← hW0]; exact b2.alloc (by rw [alloc_size, alloc_size]; omega) _
  have hs0 : W0.heap.size = n₀ + 3 := by rw [← hW0, alloc_size, alloc_size, alloc_size, hn₀]
  have hbx1 : Boxed W0 (n₀ + 1) 43 (.map (some n₀)) := by
    have := (Boxed.new (w.alloc (.map #[] 0)) 43 (.map (some w.heap.size))).alloc (.cells #[.slice A l.length c] 22)
    rw [hW0, alloc_size, hn₀] at this
    exact this
  have hbx2 : Boxed W0 (n₀ + 1 + 1) 22 (.slice A l.length c) := by
    have := Boxed.new ((w.alloc (.map #[] 0)).alloc (.cells #[.map (some w.heap.size)] 43)) 22 (.slice A l.length c)
    rw [hW0, alloc_size, alloc_size, hn₀] at this
    exact this
  have hkm0 : KM W0 n₀ 0 (.map []) [] := by
    have h1 := KM.new w
    rw [hn₀] at h1
    refine h1.block ?_
    rw [← hW0]
    have e1 := ((Below.refl (n₀ + 1) (w.alloc (.map #[] 0))).alloc (by rw [alloc_size]; omega) (.cells #[.map (some w.heap.size)] 43)).alloc (by rw [alloc_size, alloc_size]; omega) (.cells #[.slice A l.length c] 22)
    exact e1.block n₀ (by omega)
  have hseq := HSEQ.out (n₀ + 1 + 1) W0 (by rw [hn₀]; exact b3) (by omega) hbx2
  rw [hn₀] at hseq
  rw [hW0, hn₀]
  have HSQ := Lib.hid hseq
  clear hseq HSEQ hW0 b1 b2
  obtain ⟨L, hL⟩ : ∃ L, l.length = L := ⟨_, rfl⟩
  rw [hL] at hbx2 hlen ⊢
  clear hL
  refine wpIn_rangeFunc_D (gf := 45) (lb := #[.pointer (some ⟨n₀ + 1 + 1, 0, none⟩)]) (n₀ := n₀) (Enc := EncS) (xs := ws) rfl (enters_of Try.func45 (by kernel_rfl) rfl)
    HSQ.out (fun x az _ _ h => by cases h; rfl)
    (fun x az M W lp dk r o ds h h1 h2 => h) (by rw [hs0]; omega) (Below.refl _ _)
    (fun b => b = n₀ + 1 ∨ b = n₀) (fun b h => by rw [hs0]; omega) (fun b h => by subst h; exact ⟨by omega, by rw [hs0]; omega, rfl⟩)
    (fun k D W => GM n₀ (n₀ + 1) n₀ w k (ws.take k) D W) (fun _ _ _ _ => False) (fun k D W W' h hk => h.keep hk) (fun c k D W W' h _ => h)
    ⟨hbx1, ⟨_, hkm0⟩, .inl rfl, .inr rfl, b3, by rw [hs0]; omega⟩
    (fun az => { tmps := #[.slice A L c, undef, .slice none 0 0, .pointer (some ⟨n₀ + 1, 0, none⟩), az[0]?.getD undef, undef, undef, .map (some n₀), .slice A L c, .func (.func 45) #[] #[.pointer (some ⟨n₀ + 1 + 1, 0, none⟩)], az[0]?.getD undef, undef, undef, undef, undef, undef, undef, undef, undef, undef, undef, undef, undef, undef, undef, undef, undef, undef], defers := [] }) ?assign ?body ?done ?stop
  case assign =>
    rintro lp x az M W K hE hK
    cases hE
    gi_wp2
    exact hK
  case body =>
    rintro lp k x az D M W hx hE hg hDb hMD
    cases hE
    have hkl : k < ws.length := (List.getElem?_eq_some_iff.1 hx).1
    have hsn := take_snoc ws k x hx
    have hxl := HLE.out x (List.mem_of_getElem? hx)
    obtain ⟨Dm, hkm⟩ := hg.2.1
    obtain ⟨cc, z, W', D', r1, r2, r3, hk', hg'⟩ := hkm.put x (by omega) (by have := HWL.out; omega)
    obtain ⟨q1, q2, q3⟩ := hg.put (Nat.le_refl _) hDb hMD hk' hg' (by omega)
    rw [← hsn] at q3
    have hcB := hg.1.cell
    have hfB := hg.1.frozen
    have Q1 := Lib.hid q1
    have Q2 := Lib.hid q2
    have Q3 := Lib.hid q3
    clear hg hkm hk' hg' q1 q2 q3 hsn hx hxl hDb hMD
    gi_wp2
    exact ⟨D, Q1.out, Q2.out, Q3.out⟩
  case done =>
    rintro dk D W hdk ⟨hbx, ⟨Dm, hkm⟩, -, -, hbe, hnn⟩ hK hDk
    rw [List.take_length] at hkm
    have hcB := hbx.cell
    have hfB := hbx.frozen
    have hsz := hkm.size
    have hkeys := hkm.2
    have hdlt : dk < W.heap.size := (Array.getElem?_eq_some_iff.1 hK).1
    have hblt : n₀ < W.heap.size := hkm.lt
    have HKM := Lib.hid hkm.1
    have HKEYS := Lib.hid hkeys
    have HBE := Lib.hid hbe
    have HK := Lib.hid hK
    clear hkm hkeys hbx hbe hK hDk
    gi_wp2_with (first | (gi_at_range; refine wpListIn_range_own _ rfl _ 43 rfl 9 3 keyS Try.underlying43 _ n₀ ws.length Dm rfl HKM.out ?_; intro w5 hrg5 hg5 hs5) | gi_in)
    go_frame
    obtain ⟨r, hr⟩ : ∃ r, W.heap.size = r := ⟨_, rfl⟩
    rw [hr] at hrg5 hs5 ⊢
    have hdr : dk < r := by omega
    have hbr : n₀ < r := by omega
    have hbe5 : Below n₀ w w5 := HBE.out.grown hg5 hnn (fun j hj => by cases hj)
    have hK5 : w5.heap[dk]? = some (.deferred (some [])) := (hg5.block dk hdlt (by simp)).trans HK.out
    have hn5 : r ≤ w5.heap.size := by omega
    have HW := Lib.hid HWL.out
    clear hcB hfB HK HBE HKM hg5 hdlt hblt hs5 hr hmm
    gi_loopw [5] (fun v wr => ∃ (left : Lit → Bool) (cnt : Nat) (ss : List (List UInt8)), wr.ranges Try.prog 9 (plainElem Try.prog 3) n₀ r ws.length Dm left cnt ∧ ss.length + cnt ≤ Maps.size Dm ∧ OT wr r v ss ∧ Collected Dm left ss ∧ Below n₀ w wr ∧ r ≤ wr.heap.size ∧ wr.heap[dk]? = some (.deferred (some []))) (fun _ wr => wr.rangeLeft n₀ r)
    case atStart => exact ⟨_, _, [], hrg5, by simp, World.ownsRow_nil _ _ _ _, Collected.start Dm, hbe5, hn5, hK5⟩
    case round =>
      clear hrg5 hbe5 hK5 hn5
      obtain ⟨left, cnt, ss, hrg, hcs, hown, hC, hbe, hnr, hKr⟩ := hrel
      have hb17 : ss.length + 1 ≤ 1000000 := by have := HW.out; omega
      have HBE := Lib.hid hbe
      have HKR := Lib.hid hKr
      have HC := Lib.hid hC
      have HOWN := Lib.hid hown
      have HCS := Lib.hid hcs
      have HB17 := Lib.hid hb17
      have HNR := Lib.hid hnr
      clear hbe hKr hC hcs hb17 hnr
      gi_wp2_with (first
        | (gi_at_next; refine wpListIn_next_ranges _ rfl _ rfl 9 keyS (plainElem Try.prog 3) encStr (Value.int .i64) (fun key kl hk => by obtain ⟨x, hx, _⟩ := Maps.keyOf_str Try.underlying9 hk; exact ⟨x, hx⟩) (fun v y hv => by obtain ⟨c, rfl, _⟩ := plainElem_int_inv Try.underlying3 hv; exact ⟨c, rfl⟩) n₀ r ws.length _ _ _ rfl hrg ?_ ?_)
        | gi_in)
      · intro hc0 hl0
        have hss : (ss.mergeSort fun x y => decide (x ≤ y)) = srt ws := sorted_srt ss ws HC.out.1 (fun y => by rw [HC.out.2 y, hl0]; simp; exact HKEYS.out y)
        have HSS := Lib.hid hss
        clear hss
        rcases hown.2 with ⟨hnil, hx0⟩ | ⟨g, cap, cur, rfl, hbase, hb, h1, h2, h3, h4⟩
        · have hssn : ss = [] := List.length_eq_zero_iff.1 hx0
          subst hssn
          subst hnil
          have hso := fun w => Try.slices_Sort_string_none none 0 w
          have HSO := Lib.hid hso
          have hrg' := Lib.hid hrg
          clear hso hx0 hown hrg
          gi_wp2_with fail
          refine ⟨trivial, rfl, (callsIn_wide.2 (HSO.out _)).mono ?_⟩
          rintro e w1 ⟨rfl, rfl⟩
          gi_wp2
          have hfin : srt ws = [] := by rw [← HSS.out]; simp
          refine ⟨by simp, .inl ⟨_, _, rfl, run_takeDeferred HKR.out, ?_⟩⟩
          refine ⟨_, results_tmp rfl _ _ _, .slice none 0 0, rfl, ?_, ?_⟩
          · rw [hfin]; exact World.ownsRow_nil _ _ _ _
          · rw [hn₀]; exact belowK_bD HBE.out dk _ (by omega)
        · have hH : Sort.Holds encStr wr g 0 ss.toArray := holds_of_block hb (by simpa using h4)
          have hgl : g < wr.heap.size := (Array.getElem?_eq_some_iff.1 hb).1
          have hso := Try.slices_Sort_string g 0 cap ss wr hH hgl (by have := HB17.out; omega)
          rw [HSS.out] at hso
          have hsl : (srt ws).length = ss.length := by rw [← HSS.out]; simp
          have hdg : dk ≠ g := by omega
          have hfin : ∀ (nn : Nat) (os : Array Obj), OT (Sort.grow (Sort.putRow encStr (Sort.ahead wr nn) g 0 (srt ws).toArray) os) n₀ (.slice (some ⟨g, 0, none⟩) ss.length cap) (srt ws) ∧ Below n₀ w (Sort.grow (Sort.putRow encStr (Sort.ahead wr nn) g 0 (srt ws).toArray) os) ∧ (Sort.grow (Sort.putRow encStr (Sort.ahead wr nn) g 0 (srt ws).toArray) os).heap[dk]? = some (.deferred (some [])) := by
            intro nn os
            refine ⟨?_, ?_, ?_⟩
            · have := ownsRow_sorted (n := nn) (os := os) (ts := srt ws) hsl (show n₀ ≤ g by omega) hb h1 h2 h3
              unfold OT
              rw [hsl]
              exact this
            · exact HBE.out.grown (grownBy_sorted _) (by have := HNR.out; omega) (fun j hj => by cases hj; omega)
            · exact ((grownBy_sorted (w := wr) (g := g) (n := nn) (os := os) (srt ws).toArray).block dk (by have := HNR.out; omega) (by simp; exact hdg)).trans HKR.out
          have HSO := Lib.hid hso
          have HFIN := Lib.hid hfin
          have hgr : r ≤ g := hbase
          clear hso hH hown hrg hfin hb h1 h2 h3 h4 hgl hbase hsl
          gi_wp2_with fail
          refine ⟨trivial, rfl, (callsIn_wide.2 HSO.out).mono ?_⟩
          rintro e w1 ⟨rfl, nn, os, hw1⟩
          have hf := HFIN.out nn os
          rw [← hw1] at hf
          have HF := Lib.hid hf
          clear hf hw1
          gi_wp2
          refine ⟨by simp, .inl ⟨_, _, rfl, run_takeDeferred HF.out.2.2, ?_⟩⟩
          refine ⟨_, results_tmp rfl _ _ _, _, rfl, ?_, ?_⟩
          · rw [hn₀]
            refine ownsRow_keepOn (n₀ := n₀) (D := fun b => b ≠ dk) HF.out.1 (KeepOn.putObj w1 dk _ (by omega) (fun h => h rfl)) (fun r' hr' h => ?_)
            subst h
            have : g = r' := by simpa [Value.ownBlock] using hr'
            exact hdg this.symm
          · rw [hn₀]; exact belowK_bD HF.out.2.1 dk _ (by omega)
      · intro x c kl yd yp w2 cnt2 hkey hlk hv hat hrg2 hlt hg2 hs2 hen
        obtain ⟨x', ex, rfl, _⟩ := Maps.keyOf_str Try.underlying9 hkey
        obtain rfl : x = x' := encStr_inj ex
        have hown2 : OT w2 r _ ss := World.ownsRow.kept hown hg2 (Or.inr (row_ne_iter hown hrg).symm)
        have hnr2 : r ≤ w2.heap.size := by have := HNR.out; omega
        have hK2 : w2.heap[dk]? = some (.deferred (some [])) := (hg2.block dk (by have := HNR.out; omega) (by simp; omega)).trans HKR.out
        have hbe2 : Below n₀ w w2 := HBE.out.grown hg2 (by have := HNR.out; omega) (fun j hj => by cases hj; omega)
        have hba : Below w2.heap.size w2 (w2.alloc (.cells #[encStr x] 9)) := (Below.refl _ _).alloc (Nat.le_refl _) _
        have HOA := Lib.hid (hown2.alloc (.cells #[encStr x] 9))
        have HTL := Lib.hid (TS_lit w2 x)
        have HN2 : Hid (r ≤ (w2.alloc (.cells #[encStr x] 9)).heap.size) := Nat.le_trans hnr2 hba.size
        have HBE2 := Lib.hid (hbe2.trans (hba.mono (by omega)))
        have HK2 : Hid ((w2.alloc (.cells #[encStr x] 9)).heap[dk]? = some (.deferred (some []))) := (hba.block dk (by omega)).trans hK2
        have HRG2 := Lib.hid (hrg2.alloc (.cells #[encStr x] 9))
        have HST := Lib.hid (HC.out.step hlk hat)
        have hle1 : wr.rangeLeft n₀ r = cnt := hrg.left_eq
        have HLE1 := Lib.hid hle1
        have HLT := Lib.hid hlt
        have HCS2 : Hid (ss.length + cnt2 + 1 ≤ Maps.size Dm) := by have := HCS.out; show _ ≤ _; omega
        clear hs2 hown2 hK2 hbe2 hba hrg2 hkey hlk hv hat hg2 hle1 hlt hown hrg ex
        gi_wp2_with (gi_at_builtin; refine wpTI_append rfl _ _ rfl r _ _ ss [x] rfl HOA.out rfl HTL.out (by simp) HB17.out HN2.out ?_; intro v' w3 hown' hg3 hnew3; obtain ⟨s2, hs2⟩ : ∃ q, ss ++ [x] = q := ⟨_, rfl⟩; rw [hs2] at hown'; have HS2 := Lib.hid hs2; have hrg3 := HRG2.out.kept hg3 (row_ne_low HOA.out hbr) (row_ne_iter HOA.out HRG2.out); have HRG3 := Lib.hid hrg3; have HOWN3 := Lib.hid hown'; have HBE3 := Lib.hid (HBE2.out.grown hg3 (Nat.le_trans (Nat.le_of_lt hbr) HN2.out) (fun j hj => Nat.le_trans (Nat.le_of_lt hbr) (World.ownsRow.lt HOA.out j hj).1)); have HK3 : Hid (w3.heap[dk]? = some (.deferred (some []))) := (hg3.block dk (Nat.lt_of_lt_of_le hdr HN2.out) (row_ne_low HOA.out hdr)).trans HK2.out; have HN3 : Hid (r ≤ w3.heap.size) := Nat.le_trans HN2.out hg3.size; clear hown' hg3 hnew3 hs2 hrg3)
        go_roundw
        case rel => exact ⟨_, cnt2, s2, HRG3.out, by rw [← HS2.out]; have := HCS2.out; simp; omega, HOWN3.out, by rw [← HS2.out]; exact HST.out, HBE3.out, HN3.out, HK3.out⟩
        case measure => rw [HRG3.out.left_eq, HLE1.out]; exact HLT.out
  case stop =>
    rintro dk c k D W _ h _ _
    exact h.elim
end Go.Proofs.Ythcggjehihkdoaa
