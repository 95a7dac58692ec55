/- Of, of both. -/
import Derived.RangeFuncNested
import Derived.RangeFuncBound
import Derived.RangeFuncCalls
import Derived.RangeFuncLeaves
import Derived.Shelf.Abstract
import Derived.Shelf.RegionOpen
import Derived.WalkKit
import Derived.OwnWalkIn
import Derived.TacticsInMore
import Derived.LoopNIn
import Derived.LoopIn
import Derived.Outline
import Derived.Lib.Hide
import Derived.Lib.SliceRun
import Derived.IntWalk
import Derived.WalkLawsBesides
import Derived.WalkSpells
import Derived.Laws.BitsAllLaws
import Derived.Lib.ConvBytes
import Derived.Maps.AppendAt
import Derived.Lib.AppendStr
import Derived.Lib.SlBytesConst
import Derived.Laws.AppendOwnNone
import Derived.Laws.OwnMore
import Derived.Laws.BytesArg
import Derived.Deep.RegionHeld3
import Derived.BigQuiet
import Derived.Deep.RegionLaw
import Derived.Deep.QuietTactic
import Derived.Lib.OthersKept
import Derived.Test.YtnepmhdnkcnnmaaProg
import Derived.Deep.DeepFit
import Derived.Test.YtnepmhdnkcnnmaaSeA
set_option linter.unusedVariables false
set_option linter.unusedSimpArgs false
namespace Go.Proofs.Ytnepmhdnkcnnmaa
open Go Go.RowKit Go.Shelf

abbrev ZS : List Value := sealC 0 0 (List.replicate 32 0) (List.replicate 32 0)
set_option maxRecDepth 100000 in
theorem zeroSeal (w : World) : (zeroValue 27).run Try.prog w = .ok (.agg #[.int .i64 0, .int .i64 0, .int .u8 0, .int .u8 0, .int .u8 0, .int .u8 0, .int .u8 0, .int .u8 0, .int .u8 0, .int .u8 0, .int .u8 0, .int .u8 0, .int .u8 0, .int .u8 0, .int .u8 0, .int .u8 0, .int .u8 0, .int .u8 0, .int .u8 0, .int .u8 0, .int .u8 0, .int .u8 0, .int .u8 0, .int .u8 0, .int .u8 0, .int .u8 0, .int .u8 0, .int .u8 0, .int .u8 0, .int .u8 0, .int .u8 0, .int .u8 0, .int .u8 0, .int .u8 0, .int .u8 0, .int .u8 0, .int .u8 0, .int .u8 0, .int .u8 0, .int .u8 0, .int .u8 0, .int .u8 0, .int .u8 0, .int .u8 0, .int .u8 0, .int .u8 0, .int .u8 0, .int .u8 0, .int .u8 0, .int .u8 0, .int .u8 0, .int .u8 0, .int .u8 0, .int .u8 0, .int .u8 0, .int .u8 0, .int .u8 0, .int .u8 0, .int .u8 0, .int .u8 0, .int .u8 0, .int .u8 0, .int .u8 0, .int .u8 0, .int .u8 0, .int .u8 0]) w := by kernel_rfl
/-- the seal of leaves, and the error's number -/
def ofOk (seg : Int) : Bool := decide (1 ≤ seg ∧ seg ≤ 999999)
theorem rangeS_result2 {w : World} {fn : Func} {p q : Tmp} {ty : TypeId} {g : Nat} {l : List Value} {v : Value} (hr : w.rangeAt g 0 l) (h : fn.results = #[.cell p ty, .tmp q]) (tmps : Array Value) (d : TypeDesc)
    (hp : tmps.getD p undef = .pointer (some ⟨g, 0, none⟩)) (hq : tmps.getD q undef = v) (hu : Try.prog.underlying ty = some d) (hd : d.isRow = true) (hi : (Try.prog.info? ty).map (·.size) = some l.length) :
    (results fn tmps).run Try.prog w = .ok (.tuple #[.agg l.toArray, v]) w := by
  have hp' : tmps[p]?.getD undef = .pointer (some ⟨g, 0, none⟩) := by simpa using hp
  have hq' : tmps[q]?.getD undef = v := by simpa using hq
  simp [results, h, hp', hq', asAddr, run_loadVar_mid w g 0 ty l _ hr hu hd hi, Sem.run_bind, Result.andThen]
/-- a sum's box and a seal's cell -/
theorem seal_new (w : World) (a : List Value) : ∃ W A, (w.alloc (.cells a.toArray 23)).alloc (.cells #[.int .i64 0, .int .i64 0, .int .u8 0, .int .u8 0, .int .u8 0, .int .u8 0, .int .u8 0, .int .u8 0, .int .u8 0, .int .u8 0, .int .u8 0, .int .u8 0, .int .u8 0, .int .u8 0, .int .u8 0, .int .u8 0, .int .u8 0, .int .u8 0, .int .u8 0, .int .u8 0, .int .u8 0, .int .u8 0, .int .u8 0, .int .u8 0, .int .u8 0, .int .u8 0, .int .u8 0, .int .u8 0, .int .u8 0, .int .u8 0, .int .u8 0, .int .u8 0, .int .u8 0, .int .u8 0, .int .u8 0, .int .u8 0, .int .u8 0, .int .u8 0, .int .u8 0, .int .u8 0, .int .u8 0, .int .u8 0, .int .u8 0, .int .u8 0, .int .u8 0, .int .u8 0, .int .u8 0, .int .u8 0, .int .u8 0, .int .u8 0, .int .u8 0, .int .u8 0, .int .u8 0, .int .u8 0, .int .u8 0, .int .u8 0, .int .u8 0, .int .u8 0, .int .u8 0, .int .u8 0, .int .u8 0, .int .u8 0, .int .u8 0, .int .u8 0, .int .u8 0, .int .u8 0] 27) = W ∧ w.heap.size = A ∧ W.heap.size = A + 2 ∧ Row W A 23 a ∧ Row W (A + 1) 27 ZS ∧ Mine A w W := by
  have hs1 : (w.alloc (.cells a.toArray 23)).heap.size = w.heap.size + 1 := by show (w.heap.push _).size = _; simp
  have hs2 : ((w.alloc (.cells a.toArray 23)).alloc (.cells #[.int .i64 0, .int .i64 0, .int .u8 0, .int .u8 0, .int .u8 0, .int .u8 0, .int .u8 0, .int .u8 0, .int .u8 0, .int .u8 0, .int .u8 0, .int .u8 0, .int .u8 0, .int .u8 0, .int .u8 0, .int .u8 0, .int .u8 0, .int .u8 0, .int .u8 0, .int .u8 0, .int .u8 0, .int .u8 0, .int .u8 0, .int .u8 0, .int .u8 0, .int .u8 0, .int .u8 0, .int .u8 0, .int .u8 0, .int .u8 0, .int .u8 0, .int .u8 0, .int .u8 0, .int .u8 0, .int .u8 0, .int .u8 0, .int .u8 0, .int .u8 0, .int .u8 0, .int .u8 0, .int .u8 0, .int .u8 0, .int .u8 0, .int .u8 0, .int .u8 0, .int .u8 0, .int .u8 0, .int .u8 0, .int .u8 0, .int .u8 0, .int .u8 0, .int .u8 0, .int .u8 0, .int .u8 0, .int .u8 0, .int .u8 0, .int .u8 0, .int .u8 0, .int .u8 0, .int .u8 0, .int .u8 0, .int .u8 0, .int .u8 0, .int .u8 0, .int .u8 0, .int .u8 0] 27)).heap.size = w.heap.size + 2 := by
    show ((w.alloc (.cells a.toArray 23)).heap.push _).size = _
    rw [Array.size_push, hs1]
  refine ⟨_, _, rfl, rfl, hs2, (Row.new w a.toArray 23).alloc _, ?_, ⟨by rw [hs2]; omega, ((Below.refl _ w).alloc (Nat.le_refl _) _).alloc (by omega) _⟩⟩
  rw [← hs1]; exact Row.new _ #[.int .i64 0, .int .i64 0, .int .u8 0, .int .u8 0, .int .u8 0, .int .u8 0, .int .u8 0, .int .u8 0, .int .u8 0, .int .u8 0, .int .u8 0, .int .u8 0, .int .u8 0, .int .u8 0, .int .u8 0, .int .u8 0, .int .u8 0, .int .u8 0, .int .u8 0, .int .u8 0, .int .u8 0, .int .u8 0, .int .u8 0, .int .u8 0, .int .u8 0, .int .u8 0, .int .u8 0, .int .u8 0, .int .u8 0, .int .u8 0, .int .u8 0, .int .u8 0, .int .u8 0, .int .u8 0, .int .u8 0, .int .u8 0, .int .u8 0, .int .u8 0, .int .u8 0, .int .u8 0, .int .u8 0, .int .u8 0, .int .u8 0, .int .u8 0, .int .u8 0, .int .u8 0, .int .u8 0, .int .u8 0, .int .u8 0, .int .u8 0, .int .u8 0, .int .u8 0, .int .u8 0, .int .u8 0, .int .u8 0, .int .u8 0, .int .u8 0, .int .u8 0, .int .u8 0, .int .u8 0, .int .u8 0, .int .u8 0, .int .u8 0, .int .u8 0, .int .u8 0, .int .u8 0] 27
theorem yields_build_seal {ops : Array Oper} {S : World → Prop} {o : Oper} {a : Act} {s c : Int} {r p : List Value} (hw : Region.wanted o (yielded ops a.tmps) = true) (x0 x1 x2 x3 : Operand) (ho : o.op = .build 27 #[(0, x0), (1, x1), (2, x2), (3, x3)])
    (h0 : a.eval x0 = .int .i64 s) (h1 : a.eval x1 = .int .i64 c) (h2 : a.eval x2 = .agg r.toArray) (h3 : a.eval x3 = .agg p.toArray) (hr : r.length = 32) (hp : p.length = 32) :
    YieldsIf Try.prog ops S o (.agg (.int .i64 s :: .int .i64 c :: (r ++ p)).toArray) a := .inl ⟨hw, fun w _ => by
  unfold execOp
  simp only [ho, List.map_toArray, List.map_cons, List.map_nil, h0, h1, h2, h3, Sem.run_bind, run_build_seal s c r p hr hp w, Result.andThen_ok, Sem.run_pure]⟩

set_option maxHeartbeats 2000000 in
set_option maxRecDepth 100000 in
theorem of_in (seg : Int) (u : Value) (ls : List (List UInt8)) (p : List UInt8) (w : World) (hu : HS w u ls) (hp : p.length = 32) (h1 : 1 ≤ seg) (h2 : seg ≤ 999999) :
    Calls Try.prog 12 #[.int .i64 seg, u, .agg (enc8 p).toArray] w fun e w' => e = .returned (.tuple #[.agg (sealC seg ls.length (rootL ls) p).toArray, .int .i64 0]) ∧ Below w.heap.size w w' := by
  obtain ⟨C, c, rfl, hc, -⟩ := hu.form
  obtain ⟨W, A, hW, hA, hsz, r0, r1, hm⟩ := seal_new w (enc8 p)
  have hr := fun w' hb => root_any (ls.length + 1) _ ls w' (by omega) (hu.below (W' := w') hb)
  have hrl := rootL_length ls hu.all
  obtain ⟨n, hn⟩ : ∃ n, ls.length = n := ⟨_, rfl⟩
  obtain ⟨r, hre⟩ : ∃ r, rootL ls = r := ⟨_, rfl⟩
  rw [hre] at hrl ⊢
  simp only [hre] at hr
  rw [hn] at hr ⊢
  have hsl := sealC_len seg n r p hrl hp
  have hi := info66 _ hsl
  have hone := sealC_one seg n r p
  have i0 := info32 p hp
  have lr : (enc8 r).length = 32 := by rw [enc8_len, hrl]
  have lp : (enc8 p).length = 32 := by rw [enc8_len, hp]
  unfold sealC at hsl hi hone ⊢
  obtain ⟨ar, har⟩ : ∃ ar, enc8 r = ar := ⟨_, rfl⟩
  obtain ⟨ap, hap⟩ : ∃ ap, enc8 p = ap := ⟨_, rfl⟩
  rw [hap] at hW r0 i0 lp
  rw [har, hap] at hsl hi hone ⊢
  rw [har] at lr
  simp only [har] at hr
  obtain ⟨sc, hsc⟩ : ∃ sc, (.int .i64 seg :: .int .i64 (n : Int) :: (ar ++ ap) : List Value) = sc := ⟨_, rfl⟩
  rw [hsc] at hsl hi hone ⊢
  have hun := Try.underlying23
  have d1 : decide (seg < 1) = false := by simp; omega
  have d2 : decide (999999 < seg) = false := by simp; omega
  have HR := Lib.hid hr
  have HW := Lib.hid hW
  have HM := Lib.hid hm
  have R0 := Lib.hid r0
  have R1 := Lib.hid r1
  have HI := Lib.hid hi
  have HO := Lib.hid hone
  have HL := Lib.hid hsl
  have LR := Lib.hid lr
  have LP := Lib.hid lp
  have HSC := Lib.hid hsc
  clear hu hr hrl hre har hap hW hm r0 r1 hi hone hsl lr lp hsc hn hp hc
  have kz := zeroSeal
  go_enter Try.func12, Try.ntmps12
  go_wp2_with fail
  rw [HW.out]
  refine wp_region_noPanic ?_
  refine wp_region_held_drew (S := (fun w' => Mine A w w' ∧ w'.rangeAt A 0 ap ∧ w'.there (A + 1) 0 66)) (by kernel_rfl) ?_ (fun hHeld => ?_)
  · exact ⟨⟨HM.out.le, HM.out.bel.drew⟩, (World.rangeAt_drew _ _ _ _).2 R0.out.range, (World.there_drew _ _ _ _).2 (R1.out.there 66 rfl)⟩
  refine wpAnyH_take (i := 0) (oi := { dst := some 15, op := Op.move (Operand.tmp 0), type := 3, pos := "seal.go:20", after := #[], guard := none }) (v := ?v0_0) rfl (by kernel_rfl) (by kernel_rfl) (by kernel_rfl) (fun _ _ _ h => h) (Or.inl ⟨by rfl, ?y0_0⟩) (by assumption) ?r0_0
  case y0_0 => intro w hSw; (try dsimp only at hSw); go_simp; try with_reducible rfl
  try simp only [Act.put, List.setIfInBounds_toArray, List.set_cons_zero, List.set_cons_succ]
  refine wpAnyH_take (i := 1) (oi := { dst := some 16, op := Op.move (Operand.tmp 1), type := 22, pos := "seal.go:20", after := #[], guard := none }) (v := ?v1_1) rfl (by kernel_rfl) (by kernel_rfl) (by kernel_rfl) (fun _ _ _ h => h) (Or.inl ⟨by rfl, ?y1_1⟩) (by assumption) ?r1_1
  case y1_1 => intro w hSw; (try dsimp only at hSw); go_simp; try with_reducible rfl
  try simp only [Act.put, List.setIfInBounds_toArray, List.set_cons_zero, List.set_cons_succ]
  refine wpAnyH_take (i := 2) (oi := { dst := some 17, op := Op.call { callee := Callee.builtin Builtin.len, args := #[Operand.tmp 16], argTypes := #[22] }, type := 3, pos := "seal.go:20", after := #[{ on := 1, ground := Ground.data }], guard := none }) (v := ?v2_2) rfl (by kernel_rfl) (by kernel_rfl) (by kernel_rfl) (fun _ _ _ h => h) (Or.inl ⟨by rfl, ?y2_2⟩) (by assumption) ?r2_2
  case y2_2 => intro w hSw; (try dsimp only at hSw); go_simp; try with_reducible rfl
  try simp only [Act.put, List.setIfInBounds_toArray, List.set_cons_zero, List.set_cons_succ]
  refine wpAnyH_take (i := 3) (oi := { dst := some 18, op := Op.move (Operand.tmp 1), type := 22, pos := "seal.go:20", after := #[], guard := none }) (v := ?v3_3) rfl (by kernel_rfl) (by kernel_rfl) (by kernel_rfl) (fun _ _ _ h => h) (Or.inl ⟨by rfl, ?y3_3⟩) (by assumption) ?r3_3
  case y3_3 => intro w hSw; (try dsimp only at hSw); go_simp; try with_reducible rfl
  try simp only [Act.put, List.setIfInBounds_toArray, List.set_cons_zero, List.set_cons_succ]
  refine wpAnyH_take (i := 5) (oi := { dst := some 20, op := Op.load 23 (Operand.tmp 5), type := 23, pos := "seal.go:20", after := #[], guard := none }) (v := _) rfl (by kernel_rfl) (by kernel_rfl) (by kernel_rfl) (fun _ _ _ h => h) (yieldsIf_load_mid (by rfl) _ _ rfl _ _ rfl _ _ (by intro w hSw; (try dsimp only at hSw); go_split_ands; assumption) (by assumption) rfl (by first | assumption | (simp only [*]; done))) (by assumption) ?_
  try simp only [Act.put, List.setIfInBounds_toArray, List.set_cons_zero, List.set_cons_succ]
  refine wpAnyH_ready (rs := [4]) (by kernel_rfl) (by simp) (AllReadyH.cons (o := { dst := some 19, op := Op.call { callee := Callee.value (Operand.func 26), args := #[Operand.tmp 18], argTypes := #[22] }, type := 23, pos := "seal.go:20", after := #[{ on := 3, ground := Ground.data }], guard := none }) rfl (fun K hK => ?_) AllReadyH.nil)
  go_simp
  refine (HR.out _ (by rw [hA]; exact hHeld.1.bel)).mono ?_; rintro e w2 ⟨rfl, hb⟩
  go_wp2_with fail
  refine hK.out _ _ ?_ (fun hHeld => ?_)
  · (try dsimp only); (go_split_ands; (repeat' apply And.intro) <;> first | assumption | exact Mine.call (by assumption) (by assumption) | exact Mine.alloc (by assumption) _ | exact Mine.setCells (by assumption) _ _ _ (by omega) | exact Mine.callN (by assumption) (by assumption) (by omega) | exact Row.belowN (by assumption) (by assumption) (by omega) | exact there_belowN (by assumption) (by assumption) (by omega) | exact rangeAt_below (by assumption) (by assumption) | exact World.rangeAt_alloc (by assumption) _ | exact World.rangeAt_setCells_apart (by assumption) _ _ _ (Or.inl (by omega)) | exact there_below (by assumption) (by assumption) | exact World.there_alloc (by assumption) _ | exact World.there_setCells (by assumption) _ _ _ | exact Row.belowS (by assumption) (by assumption) | exact Row.alloc (by assumption) _ | exact Row.setCells (by assumption) _ _ (by omega) | exact HS.below (by assumption) (by assumption) | exact HS.alloc (by assumption) _)
  clear hK K
  try simp only [Act.put, List.setIfInBounds_toArray, List.set_cons_zero, List.set_cons_succ]
  refine wpAnyH_take (i := 6) (oi := { dst := some 21, op := Op.build 27 #[(0, Operand.tmp 15), (1, Operand.tmp 17), (2, Operand.tmp 19), (3, Operand.tmp 20)], type := 27, pos := "seal.go:20", after := #[{ on := 0, ground := Ground.data }, { on := 2, ground := Ground.data }, { on := 4, ground := Ground.data }, { on := 5, ground := Ground.data }], guard := none }) (v := _) rfl (by kernel_rfl) (by kernel_rfl) (by kernel_rfl) (fun _ _ _ h => h) (yields_build_seal rfl _ _ _ _ rfl rfl rfl rfl rfl LR.out LP.out) (by assumption) ?_
  try simp only [Act.put, List.setIfInBounds_toArray, List.set_cons_zero, List.set_cons_succ]
  rw [HSC.out]; have hi := HI.out; have hh1 := HO.out; have hol := HL.out
  have hPre := hHeld
  refine wpAnyH_ready (rs := [7]) (by kernel_rfl) (by simp) (AllReadyH.cons (o := { dst := none, op := Op.store 27 (Operand.tmp 6) (Operand.tmp 21), type := 0, pos := "seal.go:20", after := #[{ on := 6, ground := Ground.data }, { on := 4, ground := Ground.chain }, { on := 0, ground := Ground.phase }, { on := 1, ground := Ground.phase }, { on := 2, ground := Ground.phase }, { on := 3, ground := Ground.phase }, { on := 4, ground := Ground.phase }, { on := 5, ground := Ground.phase }, { on := 6, ground := Ground.phase }], guard := none }) rfl (fun K hK => ?_) AllReadyH.nil)
  rw [if_pos (by rfl)]
  refine wp_store_mid _ _ _ rfl _ _ (List.toArray _) rfl rfl (by go_split_ands; first | assumption | (simp only [List.size_toArray, *] <;> assumption)) (by first | assumption | (simp only [List.size_toArray] <;> assumption) | (simp only [List.size_toArray, *]; done)) (all_oneCell_toArray (by assumption)) ?_
  simp only [Act.put, List.setIfInBounds_toArray, List.set_cons_zero, List.set_cons_succ, List.toList_toArray]
  refine hK.out _ _ ?_ (fun hHeld => ?_)
  · (try dsimp only); (go_split_ands; (repeat' apply And.intro) <;> first | assumption | exact Mine.call (by assumption) (by assumption) | exact Mine.alloc (by assumption) _ | exact Mine.setCells (by assumption) _ _ _ (by omega) | exact Mine.callN (by assumption) (by assumption) (by omega) | exact Row.belowN (by assumption) (by assumption) (by omega) | exact there_belowN (by assumption) (by assumption) (by omega) | exact rangeAt_below (by assumption) (by assumption) | exact World.rangeAt_alloc (by assumption) _ | exact World.rangeAt_setCells_apart (by assumption) _ _ _ (Or.inl (by omega)) | exact there_below (by assumption) (by assumption) | exact World.there_alloc (by assumption) _ | exact World.there_setCells (by assumption) _ _ _ | exact Row.belowS (by assumption) (by assumption) | exact Row.alloc (by assumption) _ | exact Row.setCells (by assumption) _ _ (by omega) | exact HS.below (by assumption) (by assumption) | exact HS.alloc (by assumption) _)
  clear hK K
  refine wpAnyH_take (i := 8) (oi := { dst := some 7, op := Op.assign (Operand.const (Value.int IntKind.i64 0)), type := 28, pos := "seal.go:20", after := #[{ on := 7, ground := Ground.chain }, { on := 0, ground := Ground.phase }, { on := 1, ground := Ground.phase }, { on := 2, ground := Ground.phase }, { on := 3, ground := Ground.phase }, { on := 4, ground := Ground.phase }, { on := 5, ground := Ground.phase }, { on := 6, ground := Ground.phase }, { on := 7, ground := Ground.phase }], guard := none }) (v := ?v8_4) rfl (by kernel_rfl) (by kernel_rfl) (by kernel_rfl) (fun _ _ _ h => h) (Or.inl ⟨by rfl, ?y8_4⟩) (by assumption) ?r8_4
  case y8_4 => intro w hSw; (try dsimp only at hSw); go_simp; try with_reducible rfl
  try simp only [Act.put, List.setIfInBounds_toArray, List.set_cons_zero, List.set_cons_succ]
  refine wpAnyH_done (by kernel_rfl) ?_ _
  refine NoPanic.normal ?_
  have hr := Lib.hid (World.rangeAt_setCells_same w2 (A + 1) 0 sc (by rw [HL.out]; exact hPre.2.2))
  have hfin := Lib.hid hHeld.1.bel
  clear hHeld hPre hi hh1 hol hb hun i0
  go_wp2
  refine bodyPost_ret (v := .tuple #[.agg sc.toArray, .int .i64 0]) (rangeS_result2 hr.out Try.results12 _ _ rfl rfl Try.underlying27 rfl HI.out) rfl ?_
  exact ⟨rfl, by rw [hA]; exact hfin.out⟩
set_option maxHeartbeats 2000000 in
set_option maxRecDepth 100000 in
theorem of_out (seg : Int) (u : Value) (p : List UInt8) (w : World) (h : ¬ (1 ≤ seg ∧ seg ≤ 999999)) :
    Calls Try.prog 12 #[.int .i64 seg, u, .agg (enc8 p).toArray] w fun e w' => e = .returned (.tuple #[.agg ZS.toArray, .int .i64 1]) ∧ Below w.heap.size w w' := by
  obtain ⟨W, A, hW, hA, hsz, r0, r1, hm⟩ := seal_new w (enc8 p)
  obtain ⟨ap, hap⟩ : ∃ ap, enc8 p = ap := ⟨_, rfl⟩
  rw [hap] at hW ⊢
  have HW := Lib.hid hW
  have R1 := Lib.hid r1
  have RR := Lib.hid (r1.setRow ZS)
  have HB := Lib.hid (below_setRow hm.bel (Nat.le_succ A) ZS.toArray)
  clear hW r0 r1 hm hap
  by_cases h1 : seg < 1
  · clear h
    have kz := zeroSeal
    go_enter Try.func12, Try.ntmps12
    go_wp2_with (first | (rw [HW.out]; refine R1.out.store (m := ZS) rfl 27 (.tmp 6) (.tmp 14) rfl rfl rfl (by kernel_rfl) rfl (by kernel_rfl) ?_))
    refine bodyPost_ret (v := .tuple #[.agg ZS.toArray, .int .i64 1]) (rangeS_result2 RR.out.range Try.results12 _ _ rfl rfl Try.underlying27 rfl (by kernel_rfl)) rfl ?_
    exact ⟨rfl, by first | exact HB.out | (rw [hA]; exact HB.out)⟩
  · have h2 : 999999 < seg := by omega
    clear h
    have kz := zeroSeal
    go_enter Try.func12, Try.ntmps12
    go_wp2_with (first | (rw [HW.out]; refine R1.out.store (m := ZS) rfl 27 (.tmp 6) (.tmp 14) rfl rfl rfl (by kernel_rfl) rfl (by kernel_rfl) ?_))
    refine bodyPost_ret (v := .tuple #[.agg ZS.toArray, .int .i64 1]) (rangeS_result2 RR.out.range Try.results12 _ _ rfl rfl Try.underlying27 rfl (by kernel_rfl)) rfl ?_
    exact ⟨rfl, by first | exact HB.out | (rw [hA]; exact HB.out)⟩

set_option maxHeartbeats 2000000 in
set_option maxRecDepth 100000 in
theorem qof_in (seg : Int) (u : Value) (ls : List (List UInt8)) (p : List UInt8) (w : World) (hu : HS w u ls) (hp : p.length = 32) (h1 : 1 ≤ seg) (h2 : seg ≤ 999999) :
    Calls Try.prog 13 #[.int .i64 seg, u, .agg (enc8 p).toArray] w fun e w' => e = .returned (.tuple #[.agg (sealC seg ls.length (rootL ls) p).toArray, .int .i64 0]) ∧ Below w.heap.size w w' := by
  obtain ⟨C, c, rfl, hc, -⟩ := hu.form
  obtain ⟨W, A, hW, hA, hsz, r0, r1, hm⟩ := seal_new w (enc8 p)
  have hr := fun w' hb => qroot_any (ls.length + 1) _ ls w' (by omega) (hu.below (W' := w') hb)
  have hrl := rootL_length ls hu.all
  obtain ⟨n, hn⟩ : ∃ n, ls.length = n := ⟨_, rfl⟩
  obtain ⟨r, hre⟩ : ∃ r, rootL ls = r := ⟨_, rfl⟩
  rw [hre] at hrl ⊢
  simp only [hre] at hr
  rw [hn] at hr ⊢
  have hsl := sealC_len seg n r p hrl hp
  have hi := info66 _ hsl
  have hone := sealC_one seg n r p
  have i0 := info32 p hp
  have lr : (enc8 r).length = 32 := by rw [enc8_len, hrl]
  have lp : (enc8 p).length = 32 := by rw [enc8_len, hp]
  unfold sealC at hsl hi hone ⊢
  obtain ⟨ar, har⟩ : ∃ ar, enc8 r = ar := ⟨_, rfl⟩
  obtain ⟨ap, hap⟩ : ∃ ap, enc8 p = ap := ⟨_, rfl⟩
  rw [hap] at hW r0 i0 lp
  rw [har, hap] at hsl hi hone ⊢
  rw [har] at lr
  simp only [har] at hr
  obtain ⟨sc, hsc⟩ : ∃ sc, (.int .i64 seg :: .int .i64 (n : Int) :: (ar ++ ap) : List Value) = sc := ⟨_, rfl⟩
  rw [hsc] at hsl hi hone ⊢
  have hun := Try.underlying23
  have d1 : decide (seg < 1) = false := by simp; omega
  have d2 : decide (999999 < seg) = false := by simp; omega
  have HR := Lib.hid hr
  have HW := Lib.hid hW
  have HM := Lib.hid hm
  have R0 := Lib.hid r0
  have R1 := Lib.hid r1
  have HI := Lib.hid hi
  have HO := Lib.hid hone
  have HL := Lib.hid hsl
  have LR := Lib.hid lr
  have LP := Lib.hid lp
  have HSC := Lib.hid hsc
  clear hu hr hrl hre har hap hW hm r0 r1 hi hone hsl lr lp hsc hn hp hc
  have kz := zeroSeal
  go_enter Try.func13, Try.ntmps13
  go_wp2_with fail
  rw [HW.out]
  refine wp_region_noPanic ?_
  refine wp_region_held_drew (S := (fun w' => Mine A w w' ∧ w'.rangeAt A 0 ap ∧ w'.there (A + 1) 0 66)) (by kernel_rfl) ?_ (fun hHeld => ?_)
  · exact ⟨⟨HM.out.le, HM.out.bel.drew⟩, (World.rangeAt_drew _ _ _ _).2 R0.out.range, (World.there_drew _ _ _ _).2 (R1.out.there 66 rfl)⟩
  refine wpAnyH_take (i := 0) (oi := { dst := some 15, op := Op.move (Operand.tmp 0), type := 3, pos := "ref.go:22", after := #[], guard := none }) (v := ?v0_5) rfl (by kernel_rfl) (by kernel_rfl) (by kernel_rfl) (fun _ _ _ h => h) (Or.inl ⟨by rfl, ?y0_5⟩) (by assumption) ?r0_5
  case y0_5 => intro w hSw; (try dsimp only at hSw); go_simp; try with_reducible rfl
  try simp only [Act.put, List.setIfInBounds_toArray, List.set_cons_zero, List.set_cons_succ]
  refine wpAnyH_take (i := 1) (oi := { dst := some 16, op := Op.move (Operand.tmp 1), type := 22, pos := "ref.go:22", after := #[], guard := none }) (v := ?v1_6) rfl (by kernel_rfl) (by kernel_rfl) (by kernel_rfl) (fun _ _ _ h => h) (Or.inl ⟨by rfl, ?y1_6⟩) (by assumption) ?r1_6
  case y1_6 => intro w hSw; (try dsimp only at hSw); go_simp; try with_reducible rfl
  try simp only [Act.put, List.setIfInBounds_toArray, List.set_cons_zero, List.set_cons_succ]
  refine wpAnyH_take (i := 2) (oi := { dst := some 17, op := Op.call { callee := Callee.builtin Builtin.len, args := #[Operand.tmp 16], argTypes := #[22] }, type := 3, pos := "ref.go:22", after := #[{ on := 1, ground := Ground.data }], guard := none }) (v := ?v2_7) rfl (by kernel_rfl) (by kernel_rfl) (by kernel_rfl) (fun _ _ _ h => h) (Or.inl ⟨by rfl, ?y2_7⟩) (by assumption) ?r2_7
  case y2_7 => intro w hSw; (try dsimp only at hSw); go_simp; try with_reducible rfl
  try simp only [Act.put, List.setIfInBounds_toArray, List.set_cons_zero, List.set_cons_succ]
  refine wpAnyH_take (i := 3) (oi := { dst := some 18, op := Op.move (Operand.tmp 1), type := 22, pos := "ref.go:22", after := #[], guard := none }) (v := ?v3_8) rfl (by kernel_rfl) (by kernel_rfl) (by kernel_rfl) (fun _ _ _ h => h) (Or.inl ⟨by rfl, ?y3_8⟩) (by assumption) ?r3_8
  case y3_8 => intro w hSw; (try dsimp only at hSw); go_simp; try with_reducible rfl
  try simp only [Act.put, List.setIfInBounds_toArray, List.set_cons_zero, List.set_cons_succ]
  refine wpAnyH_take (i := 5) (oi := { dst := some 20, op := Op.load 23 (Operand.tmp 5), type := 23, pos := "ref.go:22", after := #[], guard := none }) (v := _) rfl (by kernel_rfl) (by kernel_rfl) (by kernel_rfl) (fun _ _ _ h => h) (yieldsIf_load_mid (by rfl) _ _ rfl _ _ rfl _ _ (by intro w hSw; (try dsimp only at hSw); go_split_ands; assumption) (by assumption) rfl (by first | assumption | (simp only [*]; done))) (by assumption) ?_
  try simp only [Act.put, List.setIfInBounds_toArray, List.set_cons_zero, List.set_cons_succ]
  refine wpAnyH_ready (rs := [4]) (by kernel_rfl) (by simp) (AllReadyH.cons (o := { dst := some 19, op := Op.call { callee := Callee.value (Operand.func 27), args := #[Operand.tmp 18], argTypes := #[22] }, type := 23, pos := "ref.go:22", after := #[{ on := 3, ground := Ground.data }], guard := none }) rfl (fun K hK => ?_) AllReadyH.nil)
  go_simp
  refine (HR.out _ (by rw [hA]; exact hHeld.1.bel)).mono ?_; rintro e w2 ⟨rfl, hb⟩
  go_wp2_with fail
  refine hK.out _ _ ?_ (fun hHeld => ?_)
  · (try dsimp only); (go_split_ands; (repeat' apply And.intro) <;> first | assumption | exact Mine.call (by assumption) (by assumption) | exact Mine.alloc (by assumption) _ | exact Mine.setCells (by assumption) _ _ _ (by omega) | exact Mine.callN (by assumption) (by assumption) (by omega) | exact Row.belowN (by assumption) (by assumption) (by omega) | exact there_belowN (by assumption) (by assumption) (by omega) | exact rangeAt_below (by assumption) (by assumption) | exact World.rangeAt_alloc (by assumption) _ | exact World.rangeAt_setCells_apart (by assumption) _ _ _ (Or.inl (by omega)) | exact there_below (by assumption) (by assumption) | exact World.there_alloc (by assumption) _ | exact World.there_setCells (by assumption) _ _ _ | exact Row.belowS (by assumption) (by assumption) | exact Row.alloc (by assumption) _ | exact Row.setCells (by assumption) _ _ (by omega) | exact HS.below (by assumption) (by assumption) | exact HS.alloc (by assumption) _)
  clear hK K
  try simp only [Act.put, List.setIfInBounds_toArray, List.set_cons_zero, List.set_cons_succ]
  refine wpAnyH_take (i := 6) (oi := { dst := some 21, op := Op.build 27 #[(0, Operand.tmp 15), (1, Operand.tmp 17), (2, Operand.tmp 19), (3, Operand.tmp 20)], type := 27, pos := "ref.go:22", after := #[{ on := 0, ground := Ground.data }, { on := 2, ground := Ground.data }, { on := 4, ground := Ground.data }, { on := 5, ground := Ground.data }], guard := none }) (v := _) rfl (by kernel_rfl) (by kernel_rfl) (by kernel_rfl) (fun _ _ _ h => h) (yields_build_seal rfl _ _ _ _ rfl rfl rfl rfl rfl LR.out LP.out) (by assumption) ?_
  try simp only [Act.put, List.setIfInBounds_toArray, List.set_cons_zero, List.set_cons_succ]
  rw [HSC.out]; have hi := HI.out; have hh1 := HO.out; have hol := HL.out
  have hPre := hHeld
  refine wpAnyH_ready (rs := [7]) (by kernel_rfl) (by simp) (AllReadyH.cons (o := { dst := none, op := Op.store 27 (Operand.tmp 6) (Operand.tmp 21), type := 0, pos := "ref.go:22", after := #[{ on := 6, ground := Ground.data }, { on := 4, ground := Ground.chain }, { on := 0, ground := Ground.phase }, { on := 1, ground := Ground.phase }, { on := 2, ground := Ground.phase }, { on := 3, ground := Ground.phase }, { on := 4, ground := Ground.phase }, { on := 5, ground := Ground.phase }, { on := 6, ground := Ground.phase }], guard := none }) rfl (fun K hK => ?_) AllReadyH.nil)
  rw [if_pos (by rfl)]
  refine wp_store_mid _ _ _ rfl _ _ (List.toArray _) rfl rfl (by go_split_ands; first | assumption | (simp only [List.size_toArray, *] <;> assumption)) (by first | assumption | (simp only [List.size_toArray] <;> assumption) | (simp only [List.size_toArray, *]; done)) (all_oneCell_toArray (by assumption)) ?_
  simp only [Act.put, List.setIfInBounds_toArray, List.set_cons_zero, List.set_cons_succ, List.toList_toArray]
  refine hK.out _ _ ?_ (fun hHeld => ?_)
  · (try dsimp only); (go_split_ands; (repeat' apply And.intro) <;> first | assumption | exact Mine.call (by assumption) (by assumption) | exact Mine.alloc (by assumption) _ | exact Mine.setCells (by assumption) _ _ _ (by omega) | exact Mine.callN (by assumption) (by assumption) (by omega) | exact Row.belowN (by assumption) (by assumption) (by omega) | exact there_belowN (by assumption) (by assumption) (by omega) | exact rangeAt_below (by assumption) (by assumption) | exact World.rangeAt_alloc (by assumption) _ | exact World.rangeAt_setCells_apart (by assumption) _ _ _ (Or.inl (by omega)) | exact there_below (by assumption) (by assumption) | exact World.there_alloc (by assumption) _ | exact World.there_setCells (by assumption) _ _ _ | exact Row.belowS (by assumption) (by assumption) | exact Row.alloc (by assumption) _ | exact Row.setCells (by assumption) _ _ (by omega) | exact HS.below (by assumption) (by assumption) | exact HS.alloc (by assumption) _)
  clear hK K
  refine wpAnyH_take (i := 8) (oi := { dst := some 7, op := Op.assign (Operand.const (Value.int IntKind.i64 0)), type := 3, pos := "ref.go:22", after := #[{ on := 7, ground := Ground.chain }, { on := 0, ground := Ground.phase }, { on := 1, ground := Ground.phase }, { on := 2, ground := Ground.phase }, { on := 3, ground := Ground.phase }, { on := 4, ground := Ground.phase }, { on := 5, ground := Ground.phase }, { on := 6, ground := Ground.phase }, { on := 7, ground := Ground.phase }], guard := none }) (v := ?v8_9) rfl (by kernel_rfl) (by kernel_rfl) (by kernel_rfl) (fun _ _ _ h => h) (Or.inl ⟨by rfl, ?y8_9⟩) (by assumption) ?r8_9
  case y8_9 => intro w hSw; (try dsimp only at hSw); go_simp; try with_reducible rfl
  try simp only [Act.put, List.setIfInBounds_toArray, List.set_cons_zero, List.set_cons_succ]
  refine wpAnyH_done (by kernel_rfl) ?_ _
  refine NoPanic.normal ?_
  have hr := Lib.hid (World.rangeAt_setCells_same w2 (A + 1) 0 sc (by rw [HL.out]; exact hPre.2.2))
  have hfin := Lib.hid hHeld.1.bel
  clear hHeld hPre hi hh1 hol hb hun i0
  go_wp2
  refine bodyPost_ret (v := .tuple #[.agg sc.toArray, .int .i64 0]) (rangeS_result2 hr.out Try.results13 _ _ rfl rfl Try.underlying27 rfl HI.out) rfl ?_
  exact ⟨rfl, by rw [hA]; exact hfin.out⟩
set_option maxHeartbeats 2000000 in
set_option maxRecDepth 100000 in
theorem qof_out (seg : Int) (u : Value) (p : List UInt8) (w : World) (h : ¬ (1 ≤ seg ∧ seg ≤ 999999)) :
    Calls Try.prog 13 #[.int .i64 seg, u, .agg (enc8 p).toArray] w fun e w' => e = .returned (.tuple #[.agg ZS.toArray, .int .i64 1]) ∧ Below w.heap.size w w' := by
  obtain ⟨W, A, hW, hA, hsz, r0, r1, hm⟩ := seal_new w (enc8 p)
  obtain ⟨ap, hap⟩ : ∃ ap, enc8 p = ap := ⟨_, rfl⟩
  rw [hap] at hW ⊢
  have HW := Lib.hid hW
  have R1 := Lib.hid r1
  have RR := Lib.hid (r1.setRow ZS)
  have HB := Lib.hid (below_setRow hm.bel (Nat.le_succ A) ZS.toArray)
  clear hW r0 r1 hm hap
  by_cases h1 : seg < 1
  · clear h
    have kz := zeroSeal
    go_enter Try.func13, Try.ntmps13
    go_wp2_with (first | (rw [HW.out]; refine R1.out.store (m := ZS) rfl 27 (.tmp 6) (.tmp 14) rfl rfl rfl (by kernel_rfl) rfl (by kernel_rfl) ?_))
    refine bodyPost_ret (v := .tuple #[.agg ZS.toArray, .int .i64 1]) (rangeS_result2 RR.out.range Try.results13 _ _ rfl rfl Try.underlying27 rfl (by kernel_rfl)) rfl ?_
    exact ⟨rfl, by first | exact HB.out | (rw [hA]; exact HB.out)⟩
  · have h2 : 999999 < seg := by omega
    clear h
    have kz := zeroSeal
    go_enter Try.func13, Try.ntmps13
    go_wp2_with (first | (rw [HW.out]; refine R1.out.store (m := ZS) rfl 27 (.tmp 6) (.tmp 14) rfl rfl rfl (by kernel_rfl) rfl (by kernel_rfl) ?_))
    refine bodyPost_ret (v := .tuple #[.agg ZS.toArray, .int .i64 1]) (rangeS_result2 RR.out.range Try.results13 _ _ rfl rfl Try.underlying27 rfl (by kernel_rfl)) rfl ?_
    exact ⟨rfl, by first | exact HB.out | (rw [hA]; exact HB.out)⟩
end Go.Proofs.Ytnepmhdnkcnnmaa
