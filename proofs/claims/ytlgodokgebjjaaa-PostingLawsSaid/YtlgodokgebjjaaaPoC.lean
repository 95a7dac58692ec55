/- the reference's Of. -/
import Derived.RangeFuncNested
import Derived.RangeFuncBound
import Derived.RangeFuncCalls
import Derived.RangeFuncLeaves
import Derived.Shelf.Abstract
import Derived.Shelf.RegionOpen
import Derived.WalkKit
import Derived.OwnWalkIn
import Derived.TacticsInMore
import Derived.LoopNIn
import Derived.LoopIn
import Derived.Outline
import Derived.Lib.Hide
import Derived.Lib.SliceRun
import Derived.IntWalk
import Derived.WalkLawsBesides
import Derived.WalkSpells
import Derived.Laws.BitsAllLaws
import Derived.Lib.ConvBytes
import Derived.Maps.AppendAt
import Derived.Lib.AppendStr
import Derived.Lib.SlBytesConst
import Derived.Laws.AppendOwnNone
import Derived.Laws.OwnMore
import Derived.Laws.BytesArg
import Derived.Deep.RegionHeld3
import Derived.BigQuiet
import Derived.Deep.RegionLaw
import Derived.Deep.QuietTactic
import Derived.Lib.OthersKept
import Derived.Test.YtlgodokgebjjaaaProg
import Derived.Deep.DeepFit
import Derived.Deep.AppendSrc
import Derived.Deep.Upon
import Derived.Test.YtlgodokgebjjaaaPoB
set_option linter.unusedVariables false
set_option linter.unusedSimpArgs false
namespace Go.Proofs.Ytlgodokgebjjaaa
open Go Go.RowKit Go.Shelf

theorem NS.at {W : World} {A : Option Addr} {n c : Nat} {l : List Int} (h : NS W (.slice A n c) l) (i : Nat) (hi : i < l.length) : ∃ g o, A = some ⟨g, o, none⟩ ∧ W.cell? ⟨g, o + i, none⟩ = some (.int .i64 l[i]) := by
  obtain ⟨A', c', e, h2, h3⟩ := h
  cases e
  exact h3 i hi
set_option maxHeartbeats 8000000 in
set_option maxRecDepth 100000 in
/-- **the reference's Sorted** -/
theorem qof_any (v : Value) (ls : List Int) (w : World) (hlen : ls.length ≤ 100001) (h : NS w v ls) :
    Calls Try.prog 28 #[v] w fun e w' => ∃ u, e = .returned u ∧ ON w' w.heap.size u (srtI ls) ∧ Below w.heap.size w w' := by
  have h' := h
  obtain ⟨A0, c0, rfl, ⟨-, hcm⟩, -⟩ := h
  obtain ⟨n, hn⟩ : ∃ n, ls.length = n := ⟨_, rfl⟩
  obtain ⟨B, hB⟩ : ∃ B, w.heap.size = B := ⟨_, rfl⟩
  have HS : Hid (∀ wr, Below B w wr → NS wr (.slice A0 n c0) ls) := fun wr hb => by rw [← hn]; exact h'.below (hB ▸ hb)
  rw [hn] at hlen ⊢
  have HN := Lib.hid hn
  clear h' hn
  rw [hB]
  go_enter Try.func28, Try.ntmps28
  go_wp2
  go_loopw [9, 3] (fun i x wr => ∃ (k : Nat) (o : List Int), (i = .int .i64 (k : Int) ∧ k ≤ n) ∧ Hid (o = srtI (ls.take k)) ∧ ON wr B x o ∧ o.length ≤ k ∧ Mine B w wr) (fun i _ _ => n - (intOf i).toNat)
  case atStart => exact ⟨0, [], ⟨rfl, Nat.zero_le _⟩, rfl, ON.nil _ _, Nat.zero_le _, by rw [← hB]; exact Mine.refl w⟩
  case round =>
    obtain ⟨k, o, ⟨rfl, hk⟩, hoe, hown, hok, hmi⟩ := hrel
    by_cases hlt : k < n
    · have hkc : k < ls.length := by rw [HN.out]; exact hlt
      obtain ⟨g0, o0, rfl, hc0⟩ := (HS.out _ hmi.bel).at k hkc
      have hget : ls[k]? = some ls[k] := List.getElem?_eq_getElem hkc
      obtain ⟨s, hs⟩ : ∃ s, ls[k] = s := ⟨_, rfl⟩
      rw [hs] at hget hc0
      have hts := hown.reads
      obtain ⟨A, c, rfl, ⟨hcl, hcm2⟩, -⟩ := hown.reads
      obtain ⟨m, hm⟩ : ∃ m, o.length = m := ⟨_, rfl⟩
      rw [hm] at hts hown hok hcl ⊢
      obtain ⟨q, hq⟩ : ∃ q, fstN s o = q := ⟨_, rfl⟩
      have hq0 : Hid (fstN s (o.drop 0) + 0 = q) := hq
      have hqm : q ≤ m := by rw [← hq, ← hm]; exact fstN_le s o
      have hqc : q ≤ c := Nat.le_trans hqm hcl
      have HTS := Lib.hid hts
      have HM := Lib.hid hm
      have HQ := Lib.hid hq
      have HGET := Lib.hid hget
      have HOE := Lib.hid hoe.out
      have HMI := Lib.hid hmi
      have HOWN := Lib.hid hown
      have d0 : decide (k < n) = true := decide_eq_true hlt
      have d0' : decide ((k : Int) < (n : Int)) = true := decide_eq_true (by omega)
      have k0 : (0 : Int) ≤ (k : Int) := by omega
      have k1 : (k : Int) < (n : Int) := by omega
      clear hts hm hq hget hs hoe hmi hown HN
      go_wp2
      go_loop [6] (fun i => ∃ j : Nat, (i = .int .i64 (j : Int) ∧ j ≤ m) ∧ Hid (fstN s (o.drop j) + j = q)) (fun i => m - (intOf i).toNat)
      case atStart => exact ⟨0, ⟨rfl, Nat.zero_le _⟩, hq0⟩
      case round =>
        clear hq0
        obtain ⟨j, ⟨rfl, hj⟩, hjq⟩ := hrel
        by_cases hjm : j < m
        · have hjo : j < o.length := by rw [HM.out]; exact hjm
          have hst := hjq.out
          rw [fstN_drop s o j hjo] at hst
          have hAt := HTS.out.at j hjo
          obtain ⟨x, hx⟩ : ∃ x, o[j] = x := ⟨_, rfl⟩
          have hgx : o[j]? = some x := by rw [List.getElem?_eq_getElem hjo, hx]
          rw [hx] at hst hAt
          have e1 : decide (x < s) = decide (x < s) := rfl
          have e2 : (x == s) = decide (x = s) := by by_cases h : x = s <;> simp [h]
          have j0 : (0 : Int) ≤ (j : Int) := by omega
          have j1 : (j : Int) < (m : Int) := by omega
          have dj : decide (j < m) = true := decide_eq_true hjm
          have dj' : decide ((j : Int) < (m : Int)) = true := decide_eq_true j1
          by_cases hls : x < s
          · rw [if_pos hls] at hst
            have HST : Hid (fstN s (o.drop (j + 1)) + (j + 1) = q) := by show _ = _; omega
            replace e1 : decide (x < s) = true := decide_eq_true hls
            obtain ⟨g1, o1, rfl, c1⟩ := hAt
            clear hst hx hgx hls hjq e2
            go_wp2
            go_round
            case rel => exact ⟨j + 1, ⟨by go_num, by omega⟩, HST.out⟩
            case measure => simp [intOf]; omega
          · rw [if_neg hls, Nat.zero_add] at hst
            subst hst
            replace e1 : decide (x < s) = false := decide_eq_false hls
            by_cases hxs : x = s
            · rw [decide_eq_true hxs] at e2
              have hnx : o = srtI (ls.take (k + 1)) := by
                rw [srtI_snoc ls k s HGET.out, ← HOE.out, insI_at, HQ.out, if_pos (by rw [hgx, hxs])]
              have HNX := Lib.hid hnx
              obtain ⟨g1, o1, rfl, c1⟩ := hAt
              clear hx hgx hls hxs hnx hjq
              go_wp2
              go_roundw
              case rel => exact ⟨k + 1, o, ⟨by go_num, by omega⟩, HNX.out, HOWN.out, by have := HM.out; omega, HMI.out⟩
              case measure => simp [intOf]; omega
            · rw [decide_eq_false hxs] at e2
              have HNE : Hid (¬ o[j]? = some s) := by
                show ¬ _
                rw [hgx]; intro e; cases e; exact hxs rfl
              obtain ⟨g1, o1, rfl, c1⟩ := hAt
              clear hx hgx hls hxs hjq
              have ka := fun w => nslice_hm (some ⟨g1, o1, none⟩) m c j hqc (j : Int) rfl w
              obtain ⟨m2, hm2⟩ : ∃ x, m - j = x := ⟨_, rfl⟩
              obtain ⟨d2, hd2⟩ : ∃ x, c - j = x := ⟨_, rfl⟩
              obtain ⟨Ac, hAc⟩ : ∃ x, cutA (some ⟨g1, o1, none⟩) c j = x := ⟨_, rfl⟩
              have kb := fun w => nslice_lo (some ⟨g1, o1, none⟩) m c j hqm (j : Int) rfl m2 d2 hm2.symm hd2.symm w
              have ht0 := HTS.out.takeC j (by rw [HM.out]; exact hqm)
              have hd0 := HTS.out.drop j m2 d2 (by rw [HM.out]; exact hqm) hm2.symm hd2.symm
              rw [hAc] at hd0
              simp only [hAc] at kb
              have HT : Hid (∀ w', Below wr.heap.size wr w' → NS w' (.slice (some ⟨g1, o1, none⟩) j j) (o.take j)) := fun w' hb => ht0.below hb
              have HD : Hid (∀ w', Below wr.heap.size wr w' → NS w' (.slice Ac m2 d2) (o.drop j)) := fun w' hb => hd0.below hb
              have HLD : Hid ((o.drop j).length + 1 ≤ 1000000 ∧ (o.take j).length + (o.drop j).length + 1 ≤ 1000000) := by
                have := HM.out
                refine ⟨?_, ?_⟩ <;> simp <;> omega
              clear ht0 hd0 hm2 hd2 hAc
              go_wp2_with fail
              refine wp_region_noPanic ?_
              refine wp_region_held_drew (S := (fun w' => Mine wr.heap.size wr w')) (by kernel_rfl) ?_ (fun hHeld => ?_)
              · exact ⟨Nat.le_refl _, (Below.refl _ _).drew⟩
              refine wpAnyH_take (i := 0) (oi := { dst := some 39, op := Op.move (Operand.tmp 3), type := 34, pos := "ref.go:43", after := #[], guard := none }) (v := ?v0_0) rfl (by kernel_rfl) (by kernel_rfl) (by kernel_rfl) (fun _ _ _ h => h) (Or.inl ⟨by rfl, ?y0_0⟩) (by assumption) ?r0_0
              case y0_0 => intro w hSw; (try dsimp only at hSw); go_simp; try with_reducible rfl
              try simp only [Act.put, List.setIfInBounds_toArray, List.set_cons_zero, List.set_cons_succ]
              refine wpAnyH_take (i := 1) (oi := { dst := some 40, op := Op.move (Operand.tmp 6), type := 3, pos := "ref.go:43", after := #[], guard := none }) (v := ?v1_1) rfl (by kernel_rfl) (by kernel_rfl) (by kernel_rfl) (fun _ _ _ h => h) (Or.inl ⟨by rfl, ?y1_1⟩) (by assumption) ?r1_1
              case y1_1 => intro w hSw; (try dsimp only at hSw); go_simp; try with_reducible rfl
              try simp only [Act.put, List.setIfInBounds_toArray, List.set_cons_zero, List.set_cons_succ]
              refine wpAnyH_take (i := 2) (oi := { dst := some 41, op := Op.move (Operand.tmp 6), type := 3, pos := "ref.go:43", after := #[], guard := none }) (v := ?v2_2) rfl (by kernel_rfl) (by kernel_rfl) (by kernel_rfl) (fun _ _ _ h => h) (Or.inl ⟨by rfl, ?y2_2⟩) (by assumption) ?r2_2
              case y2_2 => intro w hSw; (try dsimp only at hSw); go_simp; try with_reducible rfl
              try simp only [Act.put, List.setIfInBounds_toArray, List.set_cons_zero, List.set_cons_succ]
              refine wpAnyH_take (i := 3) (oi := { dst := some 42, op := Op.slice 34 (Operand.tmp 39) none (some (Operand.tmp 40)) (some (Operand.tmp 41)), type := 34, pos := "ref.go:43", after := #[{ on := 0, ground := Ground.data }, { on := 1, ground := Ground.data }, { on := 2, ground := Ground.data }], guard := none }) (v := ?v3_3) rfl (by kernel_rfl) (by kernel_rfl) (by kernel_rfl) (fun _ _ _ h => h) (Or.inl ⟨by rfl, ?y3_3⟩) (by assumption) ?r3_3
              case y3_3 => intro w hSw; (try dsimp only at hSw); go_simp; try with_reducible rfl
              try simp only [Act.put, List.setIfInBounds_toArray, List.set_cons_zero, List.set_cons_succ]
              refine wpAnyH_take (i := 4) (oi := { dst := some 43, op := Op.move (Operand.tmp 5), type := 2, pos := "ref.go:43", after := #[], guard := none }) (v := ?v4_4) rfl (by kernel_rfl) (by kernel_rfl) (by kernel_rfl) (fun _ _ _ h => h) (Or.inl ⟨by rfl, ?y4_4⟩) (by assumption) ?r4_4
              case y4_4 => intro w hSw; (try dsimp only at hSw); go_simp; try with_reducible rfl
              try simp only [Act.put, List.setIfInBounds_toArray, List.set_cons_zero, List.set_cons_succ]
              refine wpAnyH_take (i := 6) (oi := { dst := some 45, op := Op.move (Operand.tmp 3), type := 34, pos := "ref.go:43", after := #[], guard := none }) (v := ?v6_5) rfl (by kernel_rfl) (by kernel_rfl) (by kernel_rfl) (fun _ _ _ h => h) (Or.inl ⟨by rfl, ?y6_5⟩) (by assumption) ?r6_5
              case y6_5 => intro w hSw; (try dsimp only at hSw); go_simp; try with_reducible rfl
              try simp only [Act.put, List.setIfInBounds_toArray, List.set_cons_zero, List.set_cons_succ]
              refine wpAnyH_take (i := 7) (oi := { dst := some 46, op := Op.move (Operand.tmp 6), type := 3, pos := "ref.go:43", after := #[], guard := none }) (v := ?v7_6) rfl (by kernel_rfl) (by kernel_rfl) (by kernel_rfl) (fun _ _ _ h => h) (Or.inl ⟨by rfl, ?y7_6⟩) (by assumption) ?r7_6
              case y7_6 => intro w hSw; (try dsimp only at hSw); go_simp; try with_reducible rfl
              try simp only [Act.put, List.setIfInBounds_toArray, List.set_cons_zero, List.set_cons_succ]
              refine wpAnyH_take (i := 8) (oi := { dst := some 47, op := Op.slice 34 (Operand.tmp 45) (some (Operand.tmp 46)) none none, type := 34, pos := "ref.go:43", after := #[{ on := 6, ground := Ground.data }, { on := 7, ground := Ground.data }], guard := none }) (v := ?v8_7) rfl (by kernel_rfl) (by kernel_rfl) (by kernel_rfl) (fun _ _ _ h => h) (Or.inl ⟨by rfl, ?y8_7⟩) (by assumption) ?r8_7
              case y8_7 => intro w hSw; (try dsimp only at hSw); go_simp; try with_reducible rfl
              try simp only [Act.put, List.setIfInBounds_toArray, List.set_cons_zero, List.set_cons_succ]
              refine wpAnyH_ready (rs := [5]) (by kernel_rfl) (by simp) (AllReadyH.cons (o := { dst := some 44, op := Op.buildSlice 34 1 #[(0, Operand.tmp 43)], type := 34, pos := "ref.go:43", after := #[{ on := 4, ground := Ground.data }], guard := none }) rfl (fun K hK => ?_) AllReadyH.nil)
              go_simp
              refine hK.out _ _ ?_ (fun hHeld => ?_)
              · (try dsimp only); (go_split_ands; (repeat' apply And.intro) <;> first | assumption | exact Mine.call (by assumption) (by assumption) | exact Mine.alloc (by assumption) _ | exact Mine.setCells (by assumption) _ _ _ (by omega) | exact Mine.callN (by assumption) (by assumption) (by omega) | exact Row.belowN (by assumption) (by assumption) (by omega) | exact there_belowN (by assumption) (by assumption) (by omega) | exact rangeAt_below (by assumption) (by assumption) | exact World.rangeAt_alloc (by assumption) _ | exact World.rangeAt_setCells_apart (by assumption) _ _ _ (Or.inl (by omega)) | exact there_below (by assumption) (by assumption) | exact World.there_alloc (by assumption) _ | exact World.there_setCells (by assumption) _ _ _ | exact Row.belowS (by assumption) (by assumption) | exact Row.alloc (by assumption) _ | exact Row.setCells (by assumption) _ _ (by omega) | exact HS.below (by assumption) (by assumption) | exact SB.below (by assumption) (by assumption) | exact HS.alloc (by assumption) _ | exact Box.call (by assumption) (by assumption) | exact Box.alloc (by assumption) _ | exact Box.put (by assumption) _ (by assumption) | exact OHP.alloc (by assumption) _ | exact OHP.below (by assumption) (by assumption) | exact OHP.put (by assumption) _ _ (by omega) | exact Kept.call (by assumption) (by assumption) | exact Kept.alloc (by assumption) _ | exact Kept.setCells (by assumption) _ _ _ (by omega) | exact World.rangeAt_drew _ _ _ _ | exact cell_below (by assumption) (by assumption) | exact Lib.cell?_alloc_some _ (by assumption))
              clear hK K
              try simp only [Act.put, List.setIfInBounds_toArray, List.set_cons_zero, List.set_cons_succ]
              refine wpAnyH_ready (rs := [9]) (by kernel_rfl) (by simp) (AllReadyH.cons (o := { dst := some 48, op := Op.call { callee := Callee.builtin Builtin.append, args := #[Operand.tmp 44, Operand.tmp 47], argTypes := #[34, 34] }, type := 34, pos := "ref.go:43", after := #[{ on := 5, ground := Ground.data }, { on := 8, ground := Ground.data }], guard := none }) rfl (fun K hK => ?_) AllReadyH.nil)
              refine stepN_any rfl (.tmp 44) (.tmp 47) rfl wr.heap.size _ _ [s] (o.drop j) rfl (by exact ON_lit wr s) rfl (by exact HD.out _ hHeld.bel) (by have := HLD.out.1; simp only [List.length_cons, List.length_nil]; omega) hHeld.le ?_; intro v9 w9 hown9 hg9 hb9; have hq9 : Mine wr.heap.size wr w9 := ⟨Nat.le_trans hHeld.le hb9.size, hHeld.bel.trans hb9⟩
              refine hK.out _ _ ?_ (fun hHeld => ?_)
              · (try dsimp only); (go_split_ands; (repeat' apply And.intro) <;> first | assumption | exact Mine.call (by assumption) (by assumption) | exact Mine.alloc (by assumption) _ | exact Mine.setCells (by assumption) _ _ _ (by omega) | exact Mine.callN (by assumption) (by assumption) (by omega) | exact Row.belowN (by assumption) (by assumption) (by omega) | exact there_belowN (by assumption) (by assumption) (by omega) | exact rangeAt_below (by assumption) (by assumption) | exact World.rangeAt_alloc (by assumption) _ | exact World.rangeAt_setCells_apart (by assumption) _ _ _ (Or.inl (by omega)) | exact there_below (by assumption) (by assumption) | exact World.there_alloc (by assumption) _ | exact World.there_setCells (by assumption) _ _ _ | exact Row.belowS (by assumption) (by assumption) | exact Row.alloc (by assumption) _ | exact Row.setCells (by assumption) _ _ (by omega) | exact HS.below (by assumption) (by assumption) | exact SB.below (by assumption) (by assumption) | exact HS.alloc (by assumption) _ | exact Box.call (by assumption) (by assumption) | exact Box.alloc (by assumption) _ | exact Box.put (by assumption) _ (by assumption) | exact OHP.alloc (by assumption) _ | exact OHP.below (by assumption) (by assumption) | exact OHP.put (by assumption) _ _ (by omega) | exact Kept.call (by assumption) (by assumption) | exact Kept.alloc (by assumption) _ | exact Kept.setCells (by assumption) _ _ _ (by omega) | exact World.rangeAt_drew _ _ _ _ | exact cell_below (by assumption) (by assumption) | exact Lib.cell?_alloc_some _ (by assumption))
              clear hK K
              try simp only [Act.put, List.setIfInBounds_toArray, List.set_cons_zero, List.set_cons_succ]
              refine wpAnyH_ready (rs := [10]) (by kernel_rfl) (by simp) (AllReadyH.cons (o := { dst := some 49, op := Op.call { callee := Callee.builtin Builtin.append, args := #[Operand.tmp 42, Operand.tmp 48], argTypes := #[34, 34] }, type := 34, pos := "ref.go:43", after := #[{ on := 3, ground := Ground.data }, { on := 9, ground := Ground.data }, { on := 9, ground := Ground.chain }], guard := none }) rfl (fun K hK => ?_) AllReadyH.nil)
              refine stepN_cap rfl (.tmp 42) (.tmp 48) rfl wr.heap.size (some ⟨g1, o1, none⟩) j _ (o.take j) ([s] ++ o.drop j) rfl (by exact HT.out _ hHeld.bel) rfl hown9.reads (by simp) (by have := HLD.out.2; simp only [List.length_append, List.length_cons, List.length_nil]; omega) hHeld.le ?_; intro v10 w10 hown10 hb10; have hq10 : Mine wr.heap.size wr w10 := ⟨Nat.le_trans hHeld.le hb10.size, hHeld.bel.trans hb10⟩
              refine hK.out _ _ ?_ (fun hHeld => ?_)
              · (try dsimp only); (go_split_ands; (repeat' apply And.intro) <;> first | assumption | exact Mine.call (by assumption) (by assumption) | exact Mine.alloc (by assumption) _ | exact Mine.setCells (by assumption) _ _ _ (by omega) | exact Mine.callN (by assumption) (by assumption) (by omega) | exact Row.belowN (by assumption) (by assumption) (by omega) | exact there_belowN (by assumption) (by assumption) (by omega) | exact rangeAt_below (by assumption) (by assumption) | exact World.rangeAt_alloc (by assumption) _ | exact World.rangeAt_setCells_apart (by assumption) _ _ _ (Or.inl (by omega)) | exact there_below (by assumption) (by assumption) | exact World.there_alloc (by assumption) _ | exact World.there_setCells (by assumption) _ _ _ | exact Row.belowS (by assumption) (by assumption) | exact Row.alloc (by assumption) _ | exact Row.setCells (by assumption) _ _ (by omega) | exact HS.below (by assumption) (by assumption) | exact SB.below (by assumption) (by assumption) | exact HS.alloc (by assumption) _ | exact Box.call (by assumption) (by assumption) | exact Box.alloc (by assumption) _ | exact Box.put (by assumption) _ (by assumption) | exact OHP.alloc (by assumption) _ | exact OHP.below (by assumption) (by assumption) | exact OHP.put (by assumption) _ _ (by omega) | exact Kept.call (by assumption) (by assumption) | exact Kept.alloc (by assumption) _ | exact Kept.setCells (by assumption) _ _ _ (by omega) | exact World.rangeAt_drew _ _ _ _ | exact cell_below (by assumption) (by assumption) | exact Lib.cell?_alloc_some _ (by assumption))
              clear hK K
              try simp only [Act.put, List.setIfInBounds_toArray, List.set_cons_zero, List.set_cons_succ]
              refine wpAnyH_take (i := 11) (oi := { dst := some 3, op := Op.assign (Operand.tmp 49), type := 34, pos := "ref.go:43", after := #[{ on := 10, ground := Ground.data }, { on := 10, ground := Ground.chain }, { on := 0, ground := Ground.phase }, { on := 1, ground := Ground.phase }, { on := 2, ground := Ground.phase }, { on := 3, ground := Ground.phase }, { on := 4, ground := Ground.phase }, { on := 5, ground := Ground.phase }, { on := 6, ground := Ground.phase }, { on := 7, ground := Ground.phase }, { on := 8, ground := Ground.phase }, { on := 9, ground := Ground.phase }, { on := 10, ground := Ground.phase }], guard := none }) (v := ?v11_8) rfl (by kernel_rfl) (by kernel_rfl) (by kernel_rfl) (fun _ _ _ h => h) (Or.inl ⟨by rfl, ?y11_8⟩) (by assumption) ?r11_8
              case y11_8 => intro w hSw; (try dsimp only at hSw); go_simp; try with_reducible rfl
              try simp only [Act.put, List.setIfInBounds_toArray, List.set_cons_zero, List.set_cons_succ]
              refine wpAnyH_done (by kernel_rfl) ?_ _
              refine NoPanic.normal ?_
              have HO := Lib.hid hown10
              have HH := Lib.hid hHeld
              have hnx : o.take j ++ ([s] ++ o.drop j) = srtI (ls.take (k + 1)) := by
                rw [srtI_snoc ls k s HGET.out, ← HOE.out, insI_at, HQ.out, if_neg HNE.out]
                rfl
              have HNX := Lib.hid hnx
              clear hown10 hHeld hnx
              go_wp2
              go_roundw
              case rel => exact ⟨k + 1, _, ⟨by go_num, by omega⟩, HNX.out, (HO.out).mono HMI.out.le, by have := HLD.out; have := HM.out; simp; omega, ⟨Nat.le_trans HMI.out.le HH.out.le, HMI.out.bel.trans (HH.out.bel.mono HMI.out.le)⟩⟩
              case measure => simp [intOf]; omega
        · have hjq2 : j = q := by
            have := hjq.out
            rw [List.drop_eq_nil_of_le (by rw [HM.out]; omega)] at this
            simpa [fstN] using this
          subst hjq2
          have dj : decide (j < m) = false := decide_eq_false hjm
          have dj' : decide ((j : Int) < (m : Int)) = false := decide_eq_false (by omega)
          have HNE : Hid (¬ o[j]? = some s) := by
            show ¬ _
            rw [List.getElem?_eq_none (by rw [HM.out]; omega)]; simp
          clear hjq
          have ka := fun w => nslice_hm A m c j hqc (j : Int) rfl w
          obtain ⟨m2, hm2⟩ : ∃ x, m - j = x := ⟨_, rfl⟩
          obtain ⟨d2, hd2⟩ : ∃ x, c - j = x := ⟨_, rfl⟩
          obtain ⟨Ac, hAc⟩ : ∃ x, cutA A c j = x := ⟨_, rfl⟩
          have kb := fun w => nslice_lo A m c j hqm (j : Int) rfl m2 d2 hm2.symm hd2.symm w
          have ht0 := HTS.out.takeC j (by rw [HM.out]; exact hqm)
          have hd0 := HTS.out.drop j m2 d2 (by rw [HM.out]; exact hqm) hm2.symm hd2.symm
          rw [hAc] at hd0
          simp only [hAc] at kb
          have HT : Hid (∀ w', Below wr.heap.size wr w' → NS w' (.slice A j j) (o.take j)) := fun w' hb => ht0.below hb
          have HD : Hid (∀ w', Below wr.heap.size wr w' → NS w' (.slice Ac m2 d2) (o.drop j)) := fun w' hb => hd0.below hb
          have HLD : Hid ((o.drop j).length + 1 ≤ 1000000 ∧ (o.take j).length + (o.drop j).length + 1 ≤ 1000000) := by
            have := HM.out
            refine ⟨?_, ?_⟩ <;> simp <;> omega
          clear ht0 hd0 hm2 hd2 hAc
          go_wp2_with fail
          refine wp_region_noPanic ?_
          refine wp_region_held_drew (S := (fun w' => Mine wr.heap.size wr w')) (by kernel_rfl) ?_ (fun hHeld => ?_)
          · exact ⟨Nat.le_refl _, (Below.refl _ _).drew⟩
          refine wpAnyH_take (i := 0) (oi := { dst := some 39, op := Op.move (Operand.tmp 3), type := 34, pos := "ref.go:43", after := #[], guard := none }) (v := ?v0_9) rfl (by kernel_rfl) (by kernel_rfl) (by kernel_rfl) (fun _ _ _ h => h) (Or.inl ⟨by rfl, ?y0_9⟩) (by assumption) ?r0_9
          case y0_9 => intro w hSw; (try dsimp only at hSw); go_simp; try with_reducible rfl
          try simp only [Act.put, List.setIfInBounds_toArray, List.set_cons_zero, List.set_cons_succ]
          refine wpAnyH_take (i := 1) (oi := { dst := some 40, op := Op.move (Operand.tmp 6), type := 3, pos := "ref.go:43", after := #[], guard := none }) (v := ?v1_10) rfl (by kernel_rfl) (by kernel_rfl) (by kernel_rfl) (fun _ _ _ h => h) (Or.inl ⟨by rfl, ?y1_10⟩) (by assumption) ?r1_10
          case y1_10 => intro w hSw; (try dsimp only at hSw); go_simp; try with_reducible rfl
          try simp only [Act.put, List.setIfInBounds_toArray, List.set_cons_zero, List.set_cons_succ]
          refine wpAnyH_take (i := 2) (oi := { dst := some 41, op := Op.move (Operand.tmp 6), type := 3, pos := "ref.go:43", after := #[], guard := none }) (v := ?v2_11) rfl (by kernel_rfl) (by kernel_rfl) (by kernel_rfl) (fun _ _ _ h => h) (Or.inl ⟨by rfl, ?y2_11⟩) (by assumption) ?r2_11
          case y2_11 => intro w hSw; (try dsimp only at hSw); go_simp; try with_reducible rfl
          try simp only [Act.put, List.setIfInBounds_toArray, List.set_cons_zero, List.set_cons_succ]
          refine wpAnyH_take (i := 3) (oi := { dst := some 42, op := Op.slice 34 (Operand.tmp 39) none (some (Operand.tmp 40)) (some (Operand.tmp 41)), type := 34, pos := "ref.go:43", after := #[{ on := 0, ground := Ground.data }, { on := 1, ground := Ground.data }, { on := 2, ground := Ground.data }], guard := none }) (v := ?v3_12) rfl (by kernel_rfl) (by kernel_rfl) (by kernel_rfl) (fun _ _ _ h => h) (Or.inl ⟨by rfl, ?y3_12⟩) (by assumption) ?r3_12
          case y3_12 => intro w hSw; (try dsimp only at hSw); go_simp; try with_reducible rfl
          try simp only [Act.put, List.setIfInBounds_toArray, List.set_cons_zero, List.set_cons_succ]
          refine wpAnyH_take (i := 4) (oi := { dst := some 43, op := Op.move (Operand.tmp 5), type := 2, pos := "ref.go:43", after := #[], guard := none }) (v := ?v4_13) rfl (by kernel_rfl) (by kernel_rfl) (by kernel_rfl) (fun _ _ _ h => h) (Or.inl ⟨by rfl, ?y4_13⟩) (by assumption) ?r4_13
          case y4_13 => intro w hSw; (try dsimp only at hSw); go_simp; try with_reducible rfl
          try simp only [Act.put, List.setIfInBounds_toArray, List.set_cons_zero, List.set_cons_succ]
          refine wpAnyH_take (i := 6) (oi := { dst := some 45, op := Op.move (Operand.tmp 3), type := 34, pos := "ref.go:43", after := #[], guard := none }) (v := ?v6_14) rfl (by kernel_rfl) (by kernel_rfl) (by kernel_rfl) (fun _ _ _ h => h) (Or.inl ⟨by rfl, ?y6_14⟩) (by assumption) ?r6_14
          case y6_14 => intro w hSw; (try dsimp only at hSw); go_simp; try with_reducible rfl
          try simp only [Act.put, List.setIfInBounds_toArray, List.set_cons_zero, List.set_cons_succ]
          refine wpAnyH_take (i := 7) (oi := { dst := some 46, op := Op.move (Operand.tmp 6), type := 3, pos := "ref.go:43", after := #[], guard := none }) (v := ?v7_15) rfl (by kernel_rfl) (by kernel_rfl) (by kernel_rfl) (fun _ _ _ h => h) (Or.inl ⟨by rfl, ?y7_15⟩) (by assumption) ?r7_15
          case y7_15 => intro w hSw; (try dsimp only at hSw); go_simp; try with_reducible rfl
          try simp only [Act.put, List.setIfInBounds_toArray, List.set_cons_zero, List.set_cons_succ]
          refine wpAnyH_take (i := 8) (oi := { dst := some 47, op := Op.slice 34 (Operand.tmp 45) (some (Operand.tmp 46)) none none, type := 34, pos := "ref.go:43", after := #[{ on := 6, ground := Ground.data }, { on := 7, ground := Ground.data }], guard := none }) (v := ?v8_16) rfl (by kernel_rfl) (by kernel_rfl) (by kernel_rfl) (fun _ _ _ h => h) (Or.inl ⟨by rfl, ?y8_16⟩) (by assumption) ?r8_16
          case y8_16 => intro w hSw; (try dsimp only at hSw); go_simp; try with_reducible rfl
          try simp only [Act.put, List.setIfInBounds_toArray, List.set_cons_zero, List.set_cons_succ]
          refine wpAnyH_ready (rs := [5]) (by kernel_rfl) (by simp) (AllReadyH.cons (o := { dst := some 44, op := Op.buildSlice 34 1 #[(0, Operand.tmp 43)], type := 34, pos := "ref.go:43", after := #[{ on := 4, ground := Ground.data }], guard := none }) rfl (fun K hK => ?_) AllReadyH.nil)
          go_simp
          refine hK.out _ _ ?_ (fun hHeld => ?_)
          · (try dsimp only); (go_split_ands; (repeat' apply And.intro) <;> first | assumption | exact Mine.call (by assumption) (by assumption) | exact Mine.alloc (by assumption) _ | exact Mine.setCells (by assumption) _ _ _ (by omega) | exact Mine.callN (by assumption) (by assumption) (by omega) | exact Row.belowN (by assumption) (by assumption) (by omega) | exact there_belowN (by assumption) (by assumption) (by omega) | exact rangeAt_below (by assumption) (by assumption) | exact World.rangeAt_alloc (by assumption) _ | exact World.rangeAt_setCells_apart (by assumption) _ _ _ (Or.inl (by omega)) | exact there_below (by assumption) (by assumption) | exact World.there_alloc (by assumption) _ | exact World.there_setCells (by assumption) _ _ _ | exact Row.belowS (by assumption) (by assumption) | exact Row.alloc (by assumption) _ | exact Row.setCells (by assumption) _ _ (by omega) | exact HS.below (by assumption) (by assumption) | exact SB.below (by assumption) (by assumption) | exact HS.alloc (by assumption) _ | exact Box.call (by assumption) (by assumption) | exact Box.alloc (by assumption) _ | exact Box.put (by assumption) _ (by assumption) | exact OHP.alloc (by assumption) _ | exact OHP.below (by assumption) (by assumption) | exact OHP.put (by assumption) _ _ (by omega) | exact Kept.call (by assumption) (by assumption) | exact Kept.alloc (by assumption) _ | exact Kept.setCells (by assumption) _ _ _ (by omega) | exact World.rangeAt_drew _ _ _ _ | exact cell_below (by assumption) (by assumption) | exact Lib.cell?_alloc_some _ (by assumption))
          clear hK K
          try simp only [Act.put, List.setIfInBounds_toArray, List.set_cons_zero, List.set_cons_succ]
          refine wpAnyH_ready (rs := [9]) (by kernel_rfl) (by simp) (AllReadyH.cons (o := { dst := some 48, op := Op.call { callee := Callee.builtin Builtin.append, args := #[Operand.tmp 44, Operand.tmp 47], argTypes := #[34, 34] }, type := 34, pos := "ref.go:43", after := #[{ on := 5, ground := Ground.data }, { on := 8, ground := Ground.data }], guard := none }) rfl (fun K hK => ?_) AllReadyH.nil)
          refine stepN_any rfl (.tmp 44) (.tmp 47) rfl wr.heap.size _ _ [s] (o.drop j) rfl (by exact ON_lit wr s) rfl (by exact HD.out _ hHeld.bel) (by have := HLD.out.1; simp only [List.length_cons, List.length_nil]; omega) hHeld.le ?_; intro v9 w9 hown9 hg9 hb9; have hq9 : Mine wr.heap.size wr w9 := ⟨Nat.le_trans hHeld.le hb9.size, hHeld.bel.trans hb9⟩
          refine hK.out _ _ ?_ (fun hHeld => ?_)
          · (try dsimp only); (go_split_ands; (repeat' apply And.intro) <;> first | assumption | exact Mine.call (by assumption) (by assumption) | exact Mine.alloc (by assumption) _ | exact Mine.setCells (by assumption) _ _ _ (by omega) | exact Mine.callN (by assumption) (by assumption) (by omega) | exact Row.belowN (by assumption) (by assumption) (by omega) | exact there_belowN (by assumption) (by assumption) (by omega) | exact rangeAt_below (by assumption) (by assumption) | exact World.rangeAt_alloc (by assumption) _ | exact World.rangeAt_setCells_apart (by assumption) _ _ _ (Or.inl (by omega)) | exact there_below (by assumption) (by assumption) | exact World.there_alloc (by assumption) _ | exact World.there_setCells (by assumption) _ _ _ | exact Row.belowS (by assumption) (by assumption) | exact Row.alloc (by assumption) _ | exact Row.setCells (by assumption) _ _ (by omega) | exact HS.below (by assumption) (by assumption) | exact SB.below (by assumption) (by assumption) | exact HS.alloc (by assumption) _ | exact Box.call (by assumption) (by assumption) | exact Box.alloc (by assumption) _ | exact Box.put (by assumption) _ (by assumption) | exact OHP.alloc (by assumption) _ | exact OHP.below (by assumption) (by assumption) | exact OHP.put (by assumption) _ _ (by omega) | exact Kept.call (by assumption) (by assumption) | exact Kept.alloc (by assumption) _ | exact Kept.setCells (by assumption) _ _ _ (by omega) | exact World.rangeAt_drew _ _ _ _ | exact cell_below (by assumption) (by assumption) | exact Lib.cell?_alloc_some _ (by assumption))
          clear hK K
          try simp only [Act.put, List.setIfInBounds_toArray, List.set_cons_zero, List.set_cons_succ]
          refine wpAnyH_ready (rs := [10]) (by kernel_rfl) (by simp) (AllReadyH.cons (o := { dst := some 49, op := Op.call { callee := Callee.builtin Builtin.append, args := #[Operand.tmp 42, Operand.tmp 48], argTypes := #[34, 34] }, type := 34, pos := "ref.go:43", after := #[{ on := 3, ground := Ground.data }, { on := 9, ground := Ground.data }, { on := 9, ground := Ground.chain }], guard := none }) rfl (fun K hK => ?_) AllReadyH.nil)
          refine stepN_cap rfl (.tmp 42) (.tmp 48) rfl wr.heap.size A j _ (o.take j) ([s] ++ o.drop j) rfl (by exact HT.out _ hHeld.bel) rfl hown9.reads (by simp) (by have := HLD.out.2; simp only [List.length_append, List.length_cons, List.length_nil]; omega) hHeld.le ?_; intro v10 w10 hown10 hb10; have hq10 : Mine wr.heap.size wr w10 := ⟨Nat.le_trans hHeld.le hb10.size, hHeld.bel.trans hb10⟩
          refine hK.out _ _ ?_ (fun hHeld => ?_)
          · (try dsimp only); (go_split_ands; (repeat' apply And.intro) <;> first | assumption | exact Mine.call (by assumption) (by assumption) | exact Mine.alloc (by assumption) _ | exact Mine.setCells (by assumption) _ _ _ (by omega) | exact Mine.callN (by assumption) (by assumption) (by omega) | exact Row.belowN (by assumption) (by assumption) (by omega) | exact there_belowN (by assumption) (by assumption) (by omega) | exact rangeAt_below (by assumption) (by assumption) | exact World.rangeAt_alloc (by assumption) _ | exact World.rangeAt_setCells_apart (by assumption) _ _ _ (Or.inl (by omega)) | exact there_below (by assumption) (by assumption) | exact World.there_alloc (by assumption) _ | exact World.there_setCells (by assumption) _ _ _ | exact Row.belowS (by assumption) (by assumption) | exact Row.alloc (by assumption) _ | exact Row.setCells (by assumption) _ _ (by omega) | exact HS.below (by assumption) (by assumption) | exact SB.below (by assumption) (by assumption) | exact HS.alloc (by assumption) _ | exact Box.call (by assumption) (by assumption) | exact Box.alloc (by assumption) _ | exact Box.put (by assumption) _ (by assumption) | exact OHP.alloc (by assumption) _ | exact OHP.below (by assumption) (by assumption) | exact OHP.put (by assumption) _ _ (by omega) | exact Kept.call (by assumption) (by assumption) | exact Kept.alloc (by assumption) _ | exact Kept.setCells (by assumption) _ _ _ (by omega) | exact World.rangeAt_drew _ _ _ _ | exact cell_below (by assumption) (by assumption) | exact Lib.cell?_alloc_some _ (by assumption))
          clear hK K
          try simp only [Act.put, List.setIfInBounds_toArray, List.set_cons_zero, List.set_cons_succ]
          refine wpAnyH_take (i := 11) (oi := { dst := some 3, op := Op.assign (Operand.tmp 49), type := 34, pos := "ref.go:43", after := #[{ on := 10, ground := Ground.data }, { on := 10, ground := Ground.chain }, { on := 0, ground := Ground.phase }, { on := 1, ground := Ground.phase }, { on := 2, ground := Ground.phase }, { on := 3, ground := Ground.phase }, { on := 4, ground := Ground.phase }, { on := 5, ground := Ground.phase }, { on := 6, ground := Ground.phase }, { on := 7, ground := Ground.phase }, { on := 8, ground := Ground.phase }, { on := 9, ground := Ground.phase }, { on := 10, ground := Ground.phase }], guard := none }) (v := ?v11_17) rfl (by kernel_rfl) (by kernel_rfl) (by kernel_rfl) (fun _ _ _ h => h) (Or.inl ⟨by rfl, ?y11_17⟩) (by assumption) ?r11_17
          case y11_17 => intro w hSw; (try dsimp only at hSw); go_simp; try with_reducible rfl
          try simp only [Act.put, List.setIfInBounds_toArray, List.set_cons_zero, List.set_cons_succ]
          refine wpAnyH_done (by kernel_rfl) ?_ _
          refine NoPanic.normal ?_
          have HO := Lib.hid hown10
          have HH := Lib.hid hHeld
          have hnx : o.take j ++ ([s] ++ o.drop j) = srtI (ls.take (k + 1)) := by
            rw [srtI_snoc ls k s HGET.out, ← HOE.out, insI_at, HQ.out, if_neg HNE.out]
            rfl
          have HNX := Lib.hid hnx
          clear hown10 hHeld hnx
          go_wp2
          go_roundw
          case rel => exact ⟨k + 1, _, ⟨by go_num, by omega⟩, HNX.out, (HO.out).mono HMI.out.le, by have := HLD.out; have := HM.out; simp; omega, ⟨Nat.le_trans HMI.out.le HH.out.le, HMI.out.bel.trans (HH.out.bel.mono HMI.out.le)⟩⟩
          case measure => simp [intOf]; omega
    · have d0 : decide (k < n) = false := decide_eq_false hlt
      have d0' : decide ((k : Int) < (n : Int)) = false := decide_eq_false (by omega)
      have he : o = srtI ls := by rw [hoe.out, List.take_of_length_le (by rw [HN.out]; omega)]
      have HO := Lib.hid hown
      have HE := Lib.hid he
      have HM := Lib.hid hmi
      clear hown hoe hmi he
      go_wp2
      go_ret
      exact ⟨_, rfl, by rw [← HE.out]; exact HO.out, HM.out.bel⟩
end Go.Proofs.Ytlgodokgebjjaaa
