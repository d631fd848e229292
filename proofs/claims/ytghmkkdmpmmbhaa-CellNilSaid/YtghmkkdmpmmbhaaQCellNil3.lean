/- A generator that is not valid draws nothing and has no copy, whatever the number; no condition. -/
import Derived.Test.YtghmkkdmpmmbhaaQG8d8479e0
import Derived.Test.YtghmkkdmpmmbhaaRows
set_option linter.unusedSimpArgs false
set_option linter.unusedVariables false
namespace Go.Proofs.Ytghmkkdmpmmbhaa
namespace Abs
open Go Go.RowKit
noncomputable section
attribute [local irreducible] FnSat
def nilS (r : AV) : Summ := fun args => match args with
  | [.v (.pointer none)] => some ⟨[], r, []⟩
  | _ => none
theorem nilS_ok {P : Program} {f : FuncId} {r : AV} (h : Fn P f [.v (.pointer none)] [] r []) : SummOK P f (nilS r) := fun args pre res new e _ => by
  unfold nilS at e
  split at e
  · injection e with e; injection e with e1 e2 e3; subst e1 e2 e3; exact h
  · cases e
def nilS1 (r : AV) : Summ := fun args => match args with
  | [.v (.pointer none), .si .i64 _] => some ⟨[], r, []⟩
  | _ => none
theorem nilS1_ok {P : Program} {f : FuncId} {r : AV} (h : ∀ n, Fn P f [.v (.pointer none), .si .i64 n] [] r []) : SummOK P f (nilS1 r) := fun args pre res new e _ => by
  unfold nilS1 at e
  split at e
  · injection e with e; injection e with e1 e2 e3; subst e1 e2 e3; exact h _
  · cases e
theorem ng1 (x : Value) : ∀ t, notGd (getL [.v x] t)
  | 0 => trivial
  | _ + 1 => trivial
theorem ng2 (x : Value) (k : IntKind) (n : Int) : ∀ t, notGd (getL [.v x, .si k n] t)
  | 0 => trivial
  | 1 => trivial
  | _ + 2 => trivial
set_option maxRecDepth 100000 in
theorem valNil : Fn Try.prog 78 [.v (.pointer none)] [] (.lb false) [] := by
  refine Fn.of SVb_ok mixed (U := 0) (I := []) Try.func78 rfl (by kernel_rfl) rfl (ng1 _) (by decide +kernel) ?_
  unfold FnSat
  conv => arg 2; reduce
  simp
def SNa : Sums := ⟨(78, (altSum (nilS (.lb false)) (mkSum _ valD))) :: SVb.one, SVb.two, SVb.lo, SVb.eqs, SVb.its⟩
theorem SNa_ok : SumsOK Try.prog SNa := (SVb_ok.add Try.func78 (by kernel_rfl) (by kernel_rfl) (altSum_ok (nilS_ok valNil) (mkSum_ok valD_ok)))
set_option maxRecDepth 100000 in
theorem nextNil : Fn Try.prog 23 [.v (.pointer none)] [] (.li .u64 0) [] := by
  refine Fn.of SNa_ok mixed (U := 0) (I := []) Try.func23 rfl (by kernel_rfl) rfl (ng1 _) (by decide +kernel) ?_
  unfold FnSat
  conv => arg 2; reduce
  simp
def nextZ : Spec [.ptr [.int .u64]] := ⟨fun (((s : Int), _), _) => s = 0, fun _ => .li .u64 0⟩
theorem nz0 : nzB 0 = false := by unfold nzB; rfl
set_option maxRecDepth 100000 in
theorem nextZ_ok : FnSpec Try.prog 23 _ nextZ := by
  refine FnSpec.of SNa_ok mixed (U := 0) (I := fun _ => []) Try.func23 rfl (by kernel_rfl) rfl rfl (by decide +kernel) ?_
  rintro ⟨⟨(s : Int), ⟨⟩⟩, ⟨⟩⟩ (hs : s = 0)
  subst hs
  unfold FnSat
  conv => arg 2; reduce
  simp [nextZ, valD, nz0]
set_option maxRecDepth 100000 in
theorem copyNil : Fn Try.prog 30 [.v (.pointer none)] [] (.v (.pointer none)) [] := by
  refine Fn.of SNa_ok mixed (U := 0) (I := []) Try.func30 rfl (by kernel_rfl) rfl (ng1 _) (by decide +kernel) ?_
  unfold FnSat
  conv => arg 2; reduce
  simp
def copyZ : Spec [.ptr [.int .u64]] := ⟨fun (((s : Int), _), _) => s = 0, fun _ => .v (.pointer none)⟩
set_option maxRecDepth 100000 in
theorem copyZ_ok : FnSpec Try.prog 30 _ copyZ := by
  refine FnSpec.of SNa_ok mixed (U := 0) (I := fun _ => []) Try.func30 rfl (by kernel_rfl) rfl rfl (by decide +kernel) ?_
  rintro ⟨⟨(s : Int), ⟨⟩⟩, ⟨⟩⟩ (hs : s = 0)
  subst hs
  unfold FnSat
  conv => arg 2; reduce
  simp [copyZ, valD, nz0]
def SNb : Sums := ⟨(30, (altSum (nilS (.v (.pointer none))) (mkSum _ copyZ))) :: (23, (altSum (nilS (.li .u64 0)) (mkSum _ nextZ))) :: SNa.one, SNa.two, SNa.lo, SNa.eqs, SNa.its⟩
theorem SNb_ok : SumsOK Try.prog SNb := ((SNa_ok.add Try.func23 (by kernel_rfl) (by kernel_rfl) (altSum_ok (nilS_ok nextNil) (mkSum_ok nextZ_ok))).add Try.func30 (by kernel_rfl) (by kernel_rfl) (altSum_ok (nilS_ok copyNil) (mkSum_ok copyZ_ok)))
set_option maxRecDepth 100000 in
theorem belNil (n : Int) : Fn Try.prog 29 [.v (.pointer none), .si .i64 n] [] (.tup [.li .i64 0, .li .i64 1]) [] := by
  refine Fn.of SNb_ok mixed (U := 0) (I := []) Try.func29 rfl (by kernel_rfl) rfl (ng2 _ _ _) (by show 2 ≤ _; decide +kernel) ?_
  unfold FnSat
  conv => arg 2; reduce
  simp
def belZ : Spec [.ptr [.int .u64], .int .i64] := ⟨fun (((s : Int), _), _) => s = 0, fun _ => .tup [.li .i64 0, .li .i64 1]⟩
set_option maxRecDepth 100000 in
theorem belZ_ok : FnSpec Try.prog 29 _ belZ := by
  refine FnSpec.of SNb_ok mixed (U := 0) (I := fun _ => []) Try.func29 rfl (by kernel_rfl) rfl rfl (by decide +kernel) ?_
  rintro ⟨⟨(s : Int), ⟨⟩⟩, (n : Int), ⟨⟩⟩ (hs : s = 0)
  subst hs
  unfold FnSat
  conv => arg 2; reduce
  simp [belZ, valD, nz0]
def SNc : Sums := ⟨(29, (altSum (nilS1 (.tup [.li .i64 0, .li .i64 1])) (mkSum _ belZ))) :: SNb.one, SNb.two, SNb.lo, SNb.eqs, SNb.its⟩
theorem SNc_ok : SumsOK Try.prog SNc := (SNb_ok.add Try.func29 (by kernel_rfl) (by kernel_rfl) (altSum_ok (nilS1_ok belNil) (mkSum_ok belZ_ok)))
set_option maxRecDepth 100000 in
theorem cellNil_law : LawFn Try.prog 7 [.int .i64] := by
  refine FnSpec.of SNc_ok mixed (U := 3) (I := fun _ => []) Try.func7 rfl (by kernel_rfl) rfl rfl (by decide +kernel) ?_
  rintro ⟨(n : Int), ⟨⟩⟩ hv
  unfold FnSat
  conv => arg 2; reduce
  simp [trueS, nextZ, copyZ, belZ]
end
end Abs
open Go.ChangeShapes Go.WideShapes Go.ChangeAt Go.RowKit
set_option maxRecDepth 100000 in
theorem cellNil_lifted (os : Os) (started : os.Started) (H : Type) (enc : TypeId × Value → H) :
    ReturnsInHanded {} Try.checked os 7 .any (Rows.cellNilSpec.pre6 enc Try.prog Try.f7 Rows.cellNilRow.domain false) (Rows.cellNilSpec.post enc Try.prog Try.f7 false true false false) := by
  refine returnsInHanded_of_change (C := Try.checked) (show ownKnob Try.prog.godebug = none by kernel_rfl) started (by kernel_rfl) Try.func7
    (ChangeSpec.witness6 (enc := enc) (C := Try.checked) false ⟨#[], #[.int .i64 0], []⟩ 8 (by kernel_rfl) (by kernel_rfl) (by kernel_rfl) (by kernel_rfl)) ?_
  intro W base args ds gs before hval0 hW hcnd _
  have hW0 := hW
  obtain ⟨p, q, hA, hV, rfl, hfz, hnd⟩ := hW0
  refine (Abs.law_calls (enc' := enc) Abs.cellNil_law (fn := Try.f7) (d := 2) (by kernel_rfl) hA hval0).mono fun e W' hh => ?_
  obtain ⟨he, hb⟩ := hh
  subst he
  exact ⟨_, rfl, Abs.law_post (s := Rows.cellNilSpec) (f := Try.f7) (by kernel_rfl) rfl (by kernel_rfl) (by kernel_rfl) rfl 1 (by kernel_rfl) (fun ds hl => by
    rcases ds with _ | ⟨d0, _ | ⟨d1, _⟩⟩
    all_goals first | exact ⟨rfl, rfl, rfl⟩ | (exfalso; simp only [List.length_cons, List.length_nil] at hl; omega)) hW hb⟩
theorem cellNil_holds : Rows.CellNilSaid :=
  OpenClaim.holds_of_wide 7 Try.f7 rfl rfl rfl rfl rfl rfl rfl ⟨rfl, rfl, rfl, rfl, rfl⟩ rfl rfl rfl rfl rfl (by kernel_rfl) Try.func7 (by kernel_rfl)
    (of_decide_eq_true (by kernel_rfl)) (by unfold Func.isWrapper; first | (rw [if_pos (by decide +kernel)]; kernel_rfl) | (rw [if_neg (by decide +kernel)]; exact ⟨rfl, rfl⟩))
    (fun os started H enc _ => cellNil_lifted os started H enc)
end Go.Proofs.Ytghmkkdmpmmbhaa
