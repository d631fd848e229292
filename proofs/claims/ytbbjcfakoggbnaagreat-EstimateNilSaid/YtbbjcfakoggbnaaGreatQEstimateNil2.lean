/- What is not valid answers as the rules say: no watcher, no filter, and such as were never made; no condition. -/
import Derived.Test.YtbbjcfakoggbnaaGreatQG12b753f3
import Derived.Test.YtbbjcfakoggbnaaGreatRows
set_option linter.unusedSimpArgs false
set_option linter.unusedVariables false
namespace Go.Proofs.YtbbjcfakoggbnaaGreat
namespace Abs
open Go Go.RowKit
noncomputable section
attribute [local irreducible] FnSat
def nilS (r : AV) : Summ := fun args => match args with
  | [.v (.pointer none)] => some ⟨[], r, []⟩
  | _ => none
theorem nilS_ok {P : Program} {f : FuncId} {r : AV} (h : Fn P f [.v (.pointer none)] [] r []) : SummOK P f (nilS r) := fun args pre res new e _ => by
  unfold nilS at e
  split at e
  · injection e with e; injection e with e1 e2 e3; subst e1 e2 e3; exact h
  · cases e
def nilR (r : AV) : Summ := fun args => match args with
  | [.v (.pointer none), .agg [.sb h0, .sb h1, .sb h2, .sb h3, .si .i64 v0, .si .i64 v1, .si .i64 v2, .si .i64 v3]] => some ⟨[], r, []⟩
  | _ => none
theorem nilR_ok {P : Program} {f : FuncId} {r : AV} (h : ∀ h0 h1 h2 h3 v0 v1 v2 v3, Fn P f [.v (.pointer none), .agg [.sb h0, .sb h1, .sb h2, .sb h3, .si .i64 v0, .si .i64 v1, .si .i64 v2, .si .i64 v3]] [] r []) : SummOK P f (nilR r) := fun args pre res new e _ => by
  unfold nilR at e
  split at e
  · injection e with e; injection e with e1 e2 e3; subst e1 e2 e3; exact h _ _ _ _ _ _ _ _
  · cases e
def nilL (r : AV) : Summ := fun args => match args with
  | [.v (.pointer none), .agg [.si .i64 v0, .si .i64 v1, .si .i64 v2, .si .i64 v3, .si .i64 v4]] => some ⟨[], r, []⟩
  | _ => none
theorem nilL_ok {P : Program} {f : FuncId} {r : AV} (h : ∀ v0 v1 v2 v3 v4, Fn P f [.v (.pointer none), .agg [.si .i64 v0, .si .i64 v1, .si .i64 v2, .si .i64 v3, .si .i64 v4]] [] r []) : SummOK P f (nilL r) := fun args pre res new e _ => by
  unfold nilL at e
  split at e
  · injection e with e; injection e with e1 e2 e3; subst e1 e2 e3; exact h _ _ _ _ _
  · cases e
theorem ng1 (x : Value) : ∀ t, notGd (getL [.v x] t)
  | 0 => trivial
  | _ + 1 => trivial
theorem ng2 (x : Value) (l : List AV) : ∀ t, notGd (getL [.v x, .agg l] t)
  | 0 => trivial
  | 1 => trivial
  | _ + 2 => trivial
@[reducible] def rdSh : Sh := .agg [.bool, .bool, .bool, .bool, .int .i64, .int .i64, .int .i64, .int .i64]
@[reducible] def wtCells : List Sh := [.bool, .int .i64, .slice 1 [.int .i64], .slice 1 [.int .i64], .int .i64, .slice 1 [.int .i64], .slice 1 [.int .i64], .int .i64, .int .i64, .int .i64, .int .i64, .int .i64, .int .i64, .slice 1 [.int .i64], .slice 1 [.int .i64], .int .i64, .int .i64, .int .i64, .slice 2 [.int .i64, .int .i64], .slice 2 [.int .i64, .int .i64], .int .i64, .int .i64, .int .i64, .int .i64, .int .i64, .int .i64, .int .i64, .int .i64, .int .i64, .int .i64, .int .i64, .int .i64, .int .i64, .int .i64, .int .i64, .int .i64, .int .i64, .int .i64, .int .i64, .int .i64, .int .i64, .slice 2 [.int .i64, .int .i64], .int .i64, .bool]
@[reducible] def liSh : Sh := .agg [.int .i64, .int .i64, .int .i64, .int .i64, .int .i64]

set_option maxRecDepth 100000 in
theorem valNil : Fn Tryz.prog 17 [.v (.pointer none)] [] (.lb false) [] := by
  refine Fn.of SW0_ok mixed (U := 0) (I := []) Tryz.func17 rfl (by kernel_rfl) rfl (ng1 _) (by decide +kernel) ?_
  unfold FnSat
  conv => arg 2; reduce
  simp
def valZ : Spec [.ptr [.bool]] := ⟨fun _ => True, fun ((m, _), _) => .sb m⟩
set_option maxRecDepth 100000 in
set_option maxHeartbeats 2000000 in
theorem valZ_ok : FnSpec Tryz.prog 17 _ valZ := by
  refine FnSpec.of SW0_ok mixed (U := 0) (I := fun _ => []) Tryz.func17 rfl (by kernel_rfl) rfl rfl (by decide +kernel) ?_
  rintro ⟨⟨(m : Bool), ⟨⟩⟩, ⟨⟩⟩ -
  unfold FnSat
  conv => arg 2; reduce
  simp [valZ]

def SNa : Sums := ⟨(17, (altSum (nilS (.lb false)) (mkSum _ valZ))) :: SW0.one, SW0.two, SW0.lo, SW0.eqs, SW0.its, SW0.imm⟩
theorem SNa_ok : SumsOK Tryz.prog SNa := (SW0_ok.add Tryz.func17 (by kernel_rfl) (by kernel_rfl) (altSum_ok (nilS_ok valNil) (mkSum_ok valZ_ok)))
set_option maxRecDepth 100000 in
theorem nowNil : Fn Tryz.prog 4 [.v (.pointer none)] [] (.tup [.v (.slice none 0 0), .li .i64 1]) [] := by
  refine Fn.of SNa_ok mixed (U := 0) (I := []) Tryz.func4 rfl (by kernel_rfl) rfl (ng1 _) (by decide +kernel) ?_
  unfold FnSat
  conv => arg 2; reduce
  simp
def nowZ : Spec [.ptr [.bool]] := ⟨fun ((m, _), _) => m = false, fun _ => .tup [.v (.slice none 0 0), .li .i64 1]⟩
set_option maxRecDepth 100000 in
set_option maxHeartbeats 2000000 in
theorem nowZ_ok : FnSpec Tryz.prog 4 _ nowZ := by
  refine FnSpec.of SNa_ok mixed (U := 0) (I := fun _ => []) Tryz.func4 rfl (by kernel_rfl) rfl rfl (by decide +kernel) ?_
  rintro ⟨⟨(m : Bool), ⟨⟩⟩, ⟨⟩⟩ (hm : m = false)
  subst hm
  unfold FnSat
  conv => arg 2; reduce
  simp [nowZ, valZ]

set_option maxRecDepth 100000 in
theorem filNil : Fn Tryz.prog 5 [.v (.pointer none)] [] (.tup [.agg [.li .i64 0, .li .i64 0], .li .i64 1]) [] := by
  refine Fn.of SNa_ok mixed (U := 0) (I := []) Tryz.func5 rfl (by kernel_rfl) rfl (ng1 _) (by decide +kernel) ?_
  unfold FnSat
  conv => arg 2; reduce
  simp
def filZ : Spec [.ptr [.bool]] := ⟨fun ((m, _), _) => m = false, fun _ => .tup [.agg [.li .i64 0, .li .i64 0], .li .i64 1]⟩
set_option maxRecDepth 100000 in
set_option maxHeartbeats 2000000 in
theorem filZ_ok : FnSpec Tryz.prog 5 _ filZ := by
  refine FnSpec.of SNa_ok mixed (U := 0) (I := fun _ => []) Tryz.func5 rfl (by kernel_rfl) rfl rfl (by decide +kernel) ?_
  rintro ⟨⟨(m : Bool), ⟨⟩⟩, ⟨⟩⟩ (hm : m = false)
  subst hm
  unfold FnSat
  conv => arg 2; reduce
  simp [filZ, valZ]

set_option maxRecDepth 100000 in
theorem heaNil : Fn Tryz.prog 6 [.v (.pointer none)] [] (.tup [.agg [.li .i64 0, .li .i64 0], .li .i64 1]) [] := by
  refine Fn.of SNa_ok mixed (U := 0) (I := []) Tryz.func6 rfl (by kernel_rfl) rfl (ng1 _) (by decide +kernel) ?_
  unfold FnSat
  conv => arg 2; reduce
  simp
def heaZ : Spec [.ptr [.bool]] := ⟨fun ((m, _), _) => m = false, fun _ => .tup [.agg [.li .i64 0, .li .i64 0], .li .i64 1]⟩
set_option maxRecDepth 100000 in
set_option maxHeartbeats 2000000 in
theorem heaZ_ok : FnSpec Tryz.prog 6 _ heaZ := by
  refine FnSpec.of SNa_ok mixed (U := 0) (I := fun _ => []) Tryz.func6 rfl (by kernel_rfl) rfl rfl (by decide +kernel) ?_
  rintro ⟨⟨(m : Bool), ⟨⟩⟩, ⟨⟩⟩ (hm : m = false)
  subst hm
  unfold FnSat
  conv => arg 2; reduce
  simp [heaZ, valZ]

set_option maxRecDepth 100000 in
theorem takNil (h0 h1 h2 h3 : Bool) (v0 v1 v2 v3 : Int) : Fn Tryz.prog 8 [.v (.pointer none), .agg [.sb h0, .sb h1, .sb h2, .sb h3, .si .i64 v0, .si .i64 v1, .si .i64 v2, .si .i64 v3]] [] (.li .i64 1) [] := by
  refine Fn.of SNa_ok mixed (U := 0) (I := []) Tryz.func8 rfl (by kernel_rfl) rfl (ng2 _ _) (by show 2 ≤ _; decide +kernel) ?_
  unfold FnSat
  conv => arg 2; reduce
  simp
def takZ : Spec [.ptr [.bool], rdSh] := ⟨fun ((m, _), _) => m = false, fun _ => .li .i64 1⟩
set_option maxRecDepth 100000 in
set_option maxHeartbeats 2000000 in
theorem takZ_ok : FnSpec Tryz.prog 8 _ takZ := by
  refine FnSpec.of SNa_ok mixed (U := 0) (I := fun _ => []) Tryz.func8 rfl (by kernel_rfl) rfl rfl (by decide +kernel) ?_
  rintro ⟨⟨(m : Bool), ⟨⟩⟩, ⟨⟨(h0 : Bool), (h1 : Bool), (h2 : Bool), (h3 : Bool), (v0 : Int), (v1 : Int), (v2 : Int), (v3 : Int), ⟨⟩⟩, ⟨⟩⟩⟩ (hm : m = false)
  subst hm
  unfold FnSat
  conv => arg 2; reduce
  simp [takZ, valZ]

set_option maxRecDepth 100000 in
theorem boxNil : Fn Tryz.prog 9 [.v (.pointer none)] [] (.v (.slice none 0 0)) [] := by
  refine Fn.of SNa_ok mixed (U := 0) (I := []) Tryz.func9 rfl (by kernel_rfl) rfl (ng1 _) (by decide +kernel) ?_
  unfold FnSat
  conv => arg 2; reduce
  simp
def boxZ : Spec [.ptr [.bool]] := ⟨fun ((m, _), _) => m = false, fun _ => .v (.slice none 0 0)⟩
set_option maxRecDepth 100000 in
set_option maxHeartbeats 2000000 in
theorem boxZ_ok : FnSpec Tryz.prog 9 _ boxZ := by
  refine FnSpec.of SNa_ok mixed (U := 0) (I := fun _ => []) Tryz.func9 rfl (by kernel_rfl) rfl rfl (by decide +kernel) ?_
  rintro ⟨⟨(m : Bool), ⟨⟩⟩, ⟨⟩⟩ (hm : m = false)
  subst hm
  unfold FnSat
  conv => arg 2; reduce
  simp [boxZ, valZ]

set_option maxRecDepth 100000 in
theorem tknNil : Fn Tryz.prog 10 [.v (.pointer none)] [] (.li .i64 0) [] := by
  refine Fn.of SNa_ok mixed (U := 0) (I := []) Tryz.func10 rfl (by kernel_rfl) rfl (ng1 _) (by decide +kernel) ?_
  unfold FnSat
  conv => arg 2; reduce
  simp
def tknZ : Spec [.ptr [.bool]] := ⟨fun ((m, _), _) => m = false, fun _ => .li .i64 0⟩
set_option maxRecDepth 100000 in
set_option maxHeartbeats 2000000 in
theorem tknZ_ok : FnSpec Tryz.prog 10 _ tknZ := by
  refine FnSpec.of SNa_ok mixed (U := 0) (I := fun _ => []) Tryz.func10 rfl (by kernel_rfl) rfl rfl (by decide +kernel) ?_
  rintro ⟨⟨(m : Bool), ⟨⟩⟩, ⟨⟩⟩ (hm : m = false)
  subst hm
  unfold FnSat
  conv => arg 2; reduce
  simp [tknZ, valZ]

set_option maxRecDepth 100000 in
theorem losNil : Fn Tryz.prog 11 [.v (.pointer none)] [] (.lb false) [] := by
  refine Fn.of SNa_ok mixed (U := 0) (I := []) Tryz.func11 rfl (by kernel_rfl) rfl (ng1 _) (by decide +kernel) ?_
  unfold FnSat
  conv => arg 2; reduce
  simp
def losZ : Spec [.ptr wtCells] := ⟨fun ((m, _), _) => m = false, fun _ => .sb false⟩
set_option maxRecDepth 100000 in
set_option maxHeartbeats 2000000 in
theorem losZ_ok : FnSpec Tryz.prog 11 _ losZ := by
  refine FnSpec.of SNa_ok mixed (U := 0) (I := fun _ => []) Tryz.func11 rfl (by kernel_rfl) rfl rfl (by decide +kernel) ?_
  rintro ⟨⟨(m : Bool), x⟩, ⟨⟩⟩ (hm : m = false)
  subst hm
  unfold FnSat
  conv => arg 2; reduce
  simp [losZ, valZ]

set_option maxRecDepth 100000 in
theorem copNil : Fn Tryz.prog 12 [.v (.pointer none)] [] (.v (.pointer none)) [] := by
  refine Fn.of SNa_ok mixed (U := 0) (I := []) Tryz.func12 rfl (by kernel_rfl) rfl (ng1 _) (by decide +kernel) ?_
  unfold FnSat
  conv => arg 2; reduce
  simp
def copZ : Spec [.ptr [.bool]] := ⟨fun ((m, _), _) => m = false, fun _ => .v (.pointer none)⟩
set_option maxRecDepth 100000 in
set_option maxHeartbeats 2000000 in
theorem copZ_ok : FnSpec Tryz.prog 12 _ copZ := by
  refine FnSpec.of SNa_ok mixed (U := 0) (I := fun _ => []) Tryz.func12 rfl (by kernel_rfl) rfl rfl (by decide +kernel) ?_
  rintro ⟨⟨(m : Bool), ⟨⟩⟩, ⟨⟩⟩ (hm : m = false)
  subst hm
  unfold FnSat
  conv => arg 2; reduce
  simp [copZ, valZ]

set_option maxRecDepth 100000 in
theorem ftaNil (h0 h1 h2 h3 : Bool) (v0 v1 v2 v3 : Int) : Fn Tryz.prog 13 [.v (.pointer none), .agg [.sb h0, .sb h1, .sb h2, .sb h3, .si .i64 v0, .si .i64 v1, .si .i64 v2, .si .i64 v3]] [] (.li .i64 1) [] := by
  refine Fn.of SNa_ok mixed (U := 0) (I := []) Tryz.func13 rfl (by kernel_rfl) rfl (ng2 _ _) (by show 2 ≤ _; decide +kernel) ?_
  unfold FnSat
  conv => arg 2; reduce
  simp
def ftaZ : Spec [.ptr [.bool], rdSh] := ⟨fun ((m, _), _) => m = false, fun _ => .li .i64 1⟩
set_option maxRecDepth 100000 in
set_option maxHeartbeats 2000000 in
theorem ftaZ_ok : FnSpec Tryz.prog 13 _ ftaZ := by
  refine FnSpec.of SNa_ok mixed (U := 0) (I := fun _ => []) Tryz.func13 rfl (by kernel_rfl) rfl rfl (by decide +kernel) ?_
  rintro ⟨⟨(m : Bool), ⟨⟩⟩, ⟨⟨(h0 : Bool), (h1 : Bool), (h2 : Bool), (h3 : Bool), (v0 : Int), (v1 : Int), (v2 : Int), (v3 : Int), ⟨⟩⟩, ⟨⟩⟩⟩ (hm : m = false)
  subst hm
  unfold FnSat
  conv => arg 2; reduce
  simp [ftaZ, valZ]

set_option maxRecDepth 100000 in
theorem fstNil : Fn Tryz.prog 14 [.v (.pointer none)] [] (.agg [.li .i64 0, .li .i64 0, .li .i64 0, .li .i64 0, .li .i64 0]) [] := by
  refine Fn.of SNa_ok mixed (U := 0) (I := []) Tryz.func14 rfl (by kernel_rfl) rfl (ng1 _) (by decide +kernel) ?_
  unfold FnSat
  conv => arg 2; reduce
  simp
def fstZ : Spec [.ptr [.bool]] := ⟨fun ((m, _), _) => m = false, fun _ => .agg [.li .i64 0, .li .i64 0, .li .i64 0, .li .i64 0, .li .i64 0]⟩
set_option maxRecDepth 100000 in
set_option maxHeartbeats 2000000 in
theorem fstZ_ok : FnSpec Tryz.prog 14 _ fstZ := by
  refine FnSpec.of SNa_ok mixed (U := 0) (I := fun _ => []) Tryz.func14 rfl (by kernel_rfl) rfl rfl (by decide +kernel) ?_
  rintro ⟨⟨(m : Bool), ⟨⟩⟩, ⟨⟩⟩ (hm : m = false)
  subst hm
  unfold FnSat
  conv => arg 2; reduce
  simp [fstZ, valZ]

set_option maxRecDepth 100000 in
theorem fcoNil : Fn Tryz.prog 15 [.v (.pointer none)] [] (.v (.pointer none)) [] := by
  refine Fn.of SNa_ok mixed (U := 0) (I := []) Tryz.func15 rfl (by kernel_rfl) rfl (ng1 _) (by decide +kernel) ?_
  unfold FnSat
  conv => arg 2; reduce
  simp
def fcoZ : Spec [.ptr [.bool]] := ⟨fun ((m, _), _) => m = false, fun _ => .v (.pointer none)⟩
set_option maxRecDepth 100000 in
set_option maxHeartbeats 2000000 in
theorem fcoZ_ok : FnSpec Tryz.prog 15 _ fcoZ := by
  refine FnSpec.of SNa_ok mixed (U := 0) (I := fun _ => []) Tryz.func15 rfl (by kernel_rfl) rfl rfl (by decide +kernel) ?_
  rintro ⟨⟨(m : Bool), ⟨⟩⟩, ⟨⟩⟩ (hm : m = false)
  subst hm
  unfold FnSat
  conv => arg 2; reduce
  simp [fcoZ, valZ]

def SNb : Sums := ⟨(15, (altSum (nilS (.v (.pointer none))) (mkSum _ fcoZ))) :: (14, (altSum (nilS (.agg [.li .i64 0, .li .i64 0, .li .i64 0, .li .i64 0, .li .i64 0])) (mkSum _ fstZ))) :: (13, (altSum (nilR (.li .i64 1)) (mkSum _ ftaZ))) :: (12, (altSum (nilS (.v (.pointer none))) (mkSum _ copZ))) :: (11, (altSum (nilS (.lb false)) (mkSum _ losZ))) :: (10, (altSum (nilS (.li .i64 0)) (mkSum _ tknZ))) :: (9, (altSum (nilS (.v (.slice none 0 0))) (mkSum _ boxZ))) :: (8, (altSum (nilR (.li .i64 1)) (mkSum _ takZ))) :: (6, (altSum (nilS (.tup [.agg [.li .i64 0, .li .i64 0], .li .i64 1])) (mkSum _ heaZ))) :: (5, (altSum (nilS (.tup [.agg [.li .i64 0, .li .i64 0], .li .i64 1])) (mkSum _ filZ))) :: (4, (altSum (nilS (.tup [.v (.slice none 0 0), .li .i64 1])) (mkSum _ nowZ))) :: SNa.one, SNa.two, SNa.lo, SNa.eqs, SNa.its, SNa.imm⟩
theorem SNb_ok : SumsOK Tryz.prog SNb := (((((((((((SNa_ok.add Tryz.func4 (by kernel_rfl) (by kernel_rfl) (altSum_ok (nilS_ok nowNil) (mkSum_ok nowZ_ok))).add Tryz.func5 (by kernel_rfl) (by kernel_rfl) (altSum_ok (nilS_ok filNil) (mkSum_ok filZ_ok))).add Tryz.func6 (by kernel_rfl) (by kernel_rfl) (altSum_ok (nilS_ok heaNil) (mkSum_ok heaZ_ok))).add Tryz.func8 (by kernel_rfl) (by kernel_rfl) (altSum_ok (nilR_ok takNil) (mkSum_ok takZ_ok))).add Tryz.func9 (by kernel_rfl) (by kernel_rfl) (altSum_ok (nilS_ok boxNil) (mkSum_ok boxZ_ok))).add Tryz.func10 (by kernel_rfl) (by kernel_rfl) (altSum_ok (nilS_ok tknNil) (mkSum_ok tknZ_ok))).add Tryz.func11 (by kernel_rfl) (by kernel_rfl) (altSum_ok (nilS_ok losNil) (mkSum_ok losZ_ok))).add Tryz.func12 (by kernel_rfl) (by kernel_rfl) (altSum_ok (nilS_ok copNil) (mkSum_ok copZ_ok))).add Tryz.func13 (by kernel_rfl) (by kernel_rfl) (altSum_ok (nilR_ok ftaNil) (mkSum_ok ftaZ_ok))).add Tryz.func14 (by kernel_rfl) (by kernel_rfl) (altSum_ok (nilS_ok fstNil) (mkSum_ok fstZ_ok))).add Tryz.func15 (by kernel_rfl) (by kernel_rfl) (altSum_ok (nilS_ok fcoNil) (mkSum_ok fcoZ_ok)))
set_option maxRecDepth 100000 in
theorem powNil (v0 v1 v2 v3 v4 : Int) : Fn Tryz.prog 7 [.v (.pointer none), .agg [.si .i64 v0, .si .i64 v1, .si .i64 v2, .si .i64 v3, .si .i64 v4]] [] (.tup [.li .i64 0, .li .i64 1]) [] := by
  refine Fn.of SNb_ok mixed (U := 0) (I := []) Tryz.func7 rfl (by kernel_rfl) rfl (ng2 _ _) (by show 2 ≤ _; decide +kernel) ?_
  unfold FnSat
  conv => arg 2; reduce
  simp
def powZ : Spec [.ptr [.bool], liSh] := ⟨fun ((m, _), _) => m = false, fun _ => .tup [.li .i64 0, .li .i64 1]⟩
set_option maxRecDepth 100000 in
set_option maxHeartbeats 2000000 in
theorem powZ_ok : FnSpec Tryz.prog 7 _ powZ := by
  refine FnSpec.of SNb_ok mixed (U := 0) (I := fun _ => []) Tryz.func7 rfl (by kernel_rfl) rfl rfl (by decide +kernel) ?_
  rintro ⟨⟨(m : Bool), ⟨⟩⟩, ⟨⟨(v0 : Int), (v1 : Int), (v2 : Int), (v3 : Int), (v4 : Int), ⟨⟩⟩, ⟨⟩⟩⟩ (hm : m = false)
  subst hm
  unfold FnSat
  conv => arg 2; reduce
  simp [powZ, nowZ]

def SNc : Sums := ⟨(16, mkSum _ trueS) :: (7, (altSum (nilL (.tup [.li .i64 0, .li .i64 1])) (mkSum _ powZ))) :: SNb.one, SNb.two, SNb.lo, SNb.eqs, SNb.its, SNb.imm⟩
theorem SNc_ok : SumsOK Tryz.prog SNc := ((SNb_ok.add Tryz.func7 (by kernel_rfl) (by kernel_rfl) (altSum_ok (nilL_ok powNil) (mkSum_ok powZ_ok))).cons Tryz.func16 (by kernel_rfl) (by kernel_rfl) works_ok)
@[reducible] def st5n : List (Option IntKind) := [some .i64, some .i64, some .i64, some .i64, some .i64]
def eqsN : List (Nat × List (Option IntKind)) := [(61, st5n), (39, spanKs)]
theorem eqsN_ok : ∀ t ks, findS eqsN t = some ks → EqOK Tryz.prog t ks := by
  intro t ks h
  unfold eqsN at h
  simp only [findS] at h
  split at h
  · rename_i e
    obtain rfl := Nat.eq_of_beq_eq_true e
    injection h with h; subst h
    exact EqOK.of 3 (by decide) (by kernel_rfl) (by kernel_rfl) (by kernel_rfl)
  · split at h
    · rename_i e
      obtain rfl := Nat.eq_of_beq_eq_true e
      injection h with h; subst h
      exact EqOK.of 3 (by decide) (by kernel_rfl) (by kernel_rfl) (by kernel_rfl)
    · cases h
def SNd : Sums := ⟨SNc.one, SNc.two, SNc.lo, eqsN, SNc.its, SNc.imm⟩
theorem SNd_ok : SumsOK Tryz.prog SNd := SNc_ok.setEqs eqsN_ok
set_option maxRecDepth 100000 in
set_option maxHeartbeats 8000000 in
theorem estimateNil_law : LawFn Tryz.prog 3 [rdSh, liSh] := by
  refine FnSpec.of SNd_ok mixed (U := 3) (I := fun _ => []) Tryz.func3 rfl (by kernel_rfl) rfl rfl (by decide +kernel) ?_
  rintro ⟨⟨(h0 : Bool), (h1 : Bool), (h2 : Bool), (h3 : Bool), (v0 : Int), (v1 : Int), (v2 : Int), (v3 : Int), ⟨⟩⟩, ⟨(l0 : Int), (l1 : Int), (l2 : Int), (l3 : Int), (l4 : Int), ⟨⟩⟩, ⟨⟩⟩ hv
  unfold FnSat
  conv => arg 2; reduce
  simp [-Bool.forall_bool, trueS, nowZ, filZ, heaZ, takZ, boxZ, tknZ, losZ, copZ, ftaZ, fstZ, fcoZ, powZ]
end
end Abs
open Go.ChangeShapes Go.WideShapes Go.ChangeAt Go.RowKit
set_option maxRecDepth 100000 in
theorem estimateNil_lifted (os : Os) (started : os.Started) (H : Type) (enc : TypeId × Value → H) :
    ReturnsInHanded {} Tryz.checked os 3 .any (Rows.estimateNilSpec.pre6 enc Tryz.prog Tryz.f3 Rows.estimateNilRow.domain false) (Rows.estimateNilSpec.post enc Tryz.prog Tryz.f3 false true false false) := by
  refine returnsInHanded_of_change (C := Tryz.checked) (show ownKnob Tryz.prog.godebug = none by kernel_rfl) started (by kernel_rfl) Tryz.func3
    (ChangeSpec.witness6 (enc := enc) (C := Tryz.checked) false ⟨#[], #[.agg #[.bool false, .bool false, .bool false, .bool false, .int .i64 0, .int .i64 0, .int .i64 0, .int .i64 0], .agg #[.int .i64 0, .int .i64 0, .int .i64 0, .int .i64 0, .int .i64 0]], []⟩ 8 (by kernel_rfl) (by kernel_rfl) (by kernel_rfl) (by kernel_rfl)) ?_
  intro W base args ds gs before hval0 hW hcnd _
  have hW0 := hW
  obtain ⟨p, q, hA, hV, rfl, hfz, hnd⟩ := hW0
  refine (Abs.law_calls (enc' := enc) Abs.estimateNil_law (fn := Tryz.f3) (d := 4) (by kernel_rfl) hA hval0).mono fun e W' hh => ?_
  obtain ⟨he, hb⟩ := hh
  subst he
  exact ⟨_, rfl, Abs.law_post (s := Rows.estimateNilSpec) (f := Tryz.f3) (by kernel_rfl) rfl (by kernel_rfl) (by kernel_rfl) rfl 2 (by kernel_rfl) (fun ds hl => by
    rcases ds with _ | ⟨d0, _ | ⟨d1, _ | ⟨d2, _⟩⟩⟩
    all_goals first | exact ⟨rfl, rfl, rfl⟩ | (exfalso; simp only [List.length_cons, List.length_nil] at hl; omega)) hW hb⟩
theorem estimateNil_holds : Rows.EstimateNilSaid :=
  OpenClaim.holds_of_wide 3 Tryz.f3 rfl rfl rfl rfl rfl rfl rfl ⟨rfl, rfl, rfl, rfl, rfl⟩ rfl rfl rfl rfl rfl (by kernel_rfl) Tryz.func3 (by kernel_rfl)
    (of_decide_eq_true (by kernel_rfl)) (by unfold Func.isWrapper; first | (rw [if_pos (by decide +kernel)]; kernel_rfl) | (rw [if_neg (by decide +kernel)]; exact ⟨rfl, rfl⟩))
    (fun os started H enc _ => estimateNil_lifted os started H enc)
end Go.Proofs.YtbbjcfakoggbnaaGreat
