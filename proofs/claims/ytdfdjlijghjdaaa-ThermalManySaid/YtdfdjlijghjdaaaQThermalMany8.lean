/- Law: a system with more nodes than there may be is refused. -/
import Derived.Test.YtdfdjlijghjdaaaQG7edd5cea
import Derived.Test.YtdfdjlijghjdaaaRows
set_option linter.unusedSimpArgs false
set_option linter.unusedVariables false
namespace Go.Proofs.Ytdfdjlijghjdaaa
namespace Abs
open Go Go.RowKit
@[irreducible] def mnS (g i : Nat) : Sys := sysOf ((1, fun k => decL [Sh.int IntKind.i64, Sh.int IntKind.i64] (rowAt 2 [AV.li IntKind.i64 0, AV.li IntKind.i64 10000] k)), (1, fun k => decL [Sh.int IntKind.i64, Sh.int IntKind.i64] (rowAt 2 [AV.li IntKind.i64 0, AV.li IntKind.i64 0] k)),
 (g, fun k => decL [Sh.int IntKind.i64, Sh.slice 1 [Sh.int IntKind.i64], Sh.slice 3 [Sh.int IntKind.i64, Sh.int IntKind.i64, Sh.int IntKind.i64]] [AV.si IntKind.i64 (k : Int), AV.slc (LN.lit 1) 1 (rowAt 1 [AV.si IntKind.i64 (p2 k)]), AV.v (Value.slice none 0 0)]), (i, fun _ => decL [Sh.slice 2 [Sh.int IntKind.i64, Sh.int IntKind.i64]] [AV.slc (LN.lit 1) 2 (rowAt 2 [AV.li IntKind.i64 0, AV.li IntKind.i64 0])]), ())
theorem mnS_eq (g i : Nat) : sysOf ((1, fun k => decL [Sh.int IntKind.i64, Sh.int IntKind.i64] (rowAt 2 [AV.li IntKind.i64 0, AV.li IntKind.i64 10000] k)), (1, fun k => decL [Sh.int IntKind.i64, Sh.int IntKind.i64] (rowAt 2 [AV.li IntKind.i64 0, AV.li IntKind.i64 0] k)),
 (g, fun k => decL [Sh.int IntKind.i64, Sh.slice 1 [Sh.int IntKind.i64], Sh.slice 3 [Sh.int IntKind.i64, Sh.int IntKind.i64, Sh.int IntKind.i64]] [AV.si IntKind.i64 (k : Int), AV.slc (LN.lit 1) 1 (rowAt 1 [AV.si IntKind.i64 (p2 k)]), AV.v (Value.slice none 0 0)]), (i, fun _ => decL [Sh.slice 2 [Sh.int IntKind.i64, Sh.int IntKind.i64]] [AV.slc (LN.lit 1) 2 (rowAt 2 [AV.li IntKind.i64 0, AV.li IntKind.i64 0])]), ()) = mnS g i := by rw [mnS]
theorem mnS_ok (i : Nat) : ManOK (mnS 8 i) i := by
 refine ⟨?_, ?_, ?_, ?_, ?_, ?_, ?_, fun k => ?_, fun k => ?_, fun k => ?_, fun k => ?_, ?_, fun k => ?_, fun k => ?_, fun k => ?_⟩
 ·unfold mnS sysOf Sys.lim bxOf Bx.len; rfl
 ·unfold mnS sysOf Sys.lim bxOf Bx.lo; rfl
 ·unfold mnS sysOf Sys.lim bxOf Bx.hi; rfl
 ·unfold mnS sysOf Sys.st bxOf Bx.len; rfl
 ·unfold mnS sysOf Sys.st bxOf Bx.lo; rfl
 ·unfold mnS sysOf Sys.st bxOf Bx.hi; rfl
 ·unfold mnS sysOf Sys.nmd; rfl
 ·unfold mnS sysOf Sys.md mdOf Mo.cost; rfl
 ·unfold mnS sysOf Sys.md mdOf Mo.nsh; rfl
 ·unfold mnS sysOf Sys.md mdOf Mo.sh; rfl
 ·unfold mnS sysOf Sys.md mdOf Mo.nfl; rfl
 ·unfold mnS sysOf Sys.nld; rfl
 ·unfold mnS sysOf Sys.ld bxOf Bx.len; rfl
 ·unfold mnS sysOf Sys.ld bxOf Bx.lo; rfl
 ·unfold mnS sysOf Sys.ld bxOf Bx.hi; rfl
theorem can_m1 : CanL [Sh.int IntKind.i64, Sh.int IntKind.i64] (rowAt 2 [AV.li IntKind.i64 0, AV.li IntKind.i64 10000] 0) := by
 show CanL _ [AV.li IntKind.i64 0, AV.li IntKind.i64 10000]
 exact (canL_cons _ _ _ _).2 ⟨rfl, (canSh_int _ _).2 trivial, (canL_cons _ _ _ _).2 ⟨rfl, (canSh_int _ _).2 trivial, canL_nil.2 trivial⟩⟩
theorem can_m2 : CanL [Sh.int IntKind.i64, Sh.int IntKind.i64] (rowAt 2 [AV.li IntKind.i64 0, AV.li IntKind.i64 0] 0) := by
 show CanL _ [AV.li IntKind.i64 0, AV.li IntKind.i64 0]
 exact (canL_cons _ _ _ _).2 ⟨rfl, (canSh_int _ _).2 trivial, (canL_cons _ _ _ _).2 ⟨rfl, (canSh_int _ _).2 trivial, canL_nil.2 trivial⟩⟩
theorem can_m3 : ∀ k : Nat, k < 8 -> CanL [Sh.int IntKind.i64] (rowAt 1 [AV.si IntKind.i64 (p2 k)] 0) /\ okSh (Sh.slice 3 [Sh.int IntKind.i64, Sh.int IntKind.i64, Sh.int IntKind.i64]) (AV.v (Value.slice none 0 0)) = true /\ CanSh (Sh.slice 3 [Sh.int IntKind.i64, Sh.int IntKind.i64, Sh.int IntKind.i64]) (AV.v (Value.slice none 0 0)) := fun k _ => by
 refine ⟨?_, rfl, by unfold CanSh; trivial⟩
 show CanL _ [AV.si IntKind.i64 (p2 k)]
 exact (canL_cons _ _ _ _).2 ⟨rfl, (canSh_int _ _).2 trivial, canL_nil.2 trivial⟩
theorem can_m4 {i : Nat} : ∀ k : Nat, k < i -> CanL [Sh.int IntKind.i64, Sh.int IntKind.i64] (rowAt 2 [AV.li IntKind.i64 0, AV.li IntKind.i64 0] 0) := fun _ _ => can_m2
theorem u8_man {a : Int} (hv : ValidL [.int .u8] (a, ())) : 0 <= a /\ a <= 255 := by
 simp only [ValidL, Valid] at hv
 obtain ⟨h1, _⟩ := hv
 simp [InR, IntKind.min, IntKind.max, IntKind.signed, IntKind.bits] at h1
 omega
attribute [local irreducible] FnSat decL
noncomputable def manI : DatL [.int .u8] -> Anns := fun ((a : Int), _) => [
 (2097152 + 2, [(3, 53 + 131072, 133)], unA),
 (3, [], fun fr hp => ⟨Nat, fun k => ⟨frI [.k 4, .s (.si .i64 (icast k)), .t 91] fr, setB hp 3 (.row 53 3 (.sym k) (fun k => [.si .i64 (icast k), .slc (.lit 1) 1 (rowAt 1 [.si .i64 (p2 k)]), .v (.slice none 0 0)]))⟩,
  Nat, fun k => k, fun k => k <= 8, fun k => nsub 8 k⟩),
 (2097152 + 6, [(3, 22, 197)], unA),
 (7, [], fun fr hp => ⟨Nat, fun i => ⟨frI [.k 5, .s (.si .i64 (icast i)), .t 90] fr, setB hp 4 (.row 22 1 (.sym i) (fun k => [.slc (.lit 1) 2 (rowAt 2 [.li .i64 0, .li .i64 0])]))⟩,
  Nat × Int, fun i => (i, a), fun (i, a) => (i : Int) <= 40 + a.tmod 9, fun i => nsub 48 i⟩),
 (2097152 + 10, [(3, 0, 6), (3, 0, 70), (3, 0, 134), (3, 0, 198), (3, 0, 0)], unA)]
set_option maxRecDepth 100000 in
set_option maxHeartbeats 8000000 in
theorem thermalMany_law : LawFn Try.prog 6 [.int .u8] := by
 refine FnSpec.of SYx0_ok mixed (U := 0) (I := manI) Try.func6 rfl (by kernel_rfl) rfl rfl (by decide +kernel) ?_
 rintro ⟨(a : Int), ⟨⟩⟩ hv
 unfold FnSat
 conv => arg 2; reduce
 simp [mnS_eq, worksS, pplS, nodesS, grdS, unA, unitA, encH, encB, ElEq, aliveB, goneB, getB, maxRow, and_assoc]
 have hu : 0 <= a /\ a <= 255 := u8_man hv
 clear hv
 have ht : 0 <= a.tmod 9 /\ a.tmod 9 <= 8 := by
  rw [Int.tmod_eq_emod_of_nonneg hu.1]; omega
 have hw : ∀ g : Nat, g < 8 -> IntKind.u64.wrap (g : Int) = g /\ ishl 1 (g : Int) = p2 g := fun g hg => by
  have : g = 0 \/ g = 1 \/ g = 2 \/ g = 3 \/ g = 4 \/ g = 5 \/ g = 6 \/ g = 7 := by omega
  unfold ishl p2
  rcases this with rfl | rfl | rfl | rfl | rfl | rfl | rfl | rfl <;> exact ⟨by decide, by decide⟩
 refine ⟨⟨0, rfl, rfl, fun j => Nat.zero_le _, Nat.zero_le _⟩, fun g hg => ⟨fun hlt => ?_, fun hge => ⟨⟨0, rfl, rfl, fun j => Nat.zero_le _, by omega⟩, fun i hi => ⟨by omega, by omega, by omega, by omega, fun hlt => ?_, fun hge2 => ?_⟩⟩⟩⟩
 ·obtain ⟨w1, w2⟩ := hw g (by omega)
  have hp := p2_b (k := g) (by omega)
  rw [w1, w2]
  refine ⟨by omega, by show (g : Int) < 64; omega, by omega, by omega, by omega, by omega, by omega, g + 1, rfl, rfl, fun j hj => app_one hj (fun _ => rfl) (fun e => by subst e; rfl), by omega, by omega⟩
 ·exact ⟨by omega, by omega, by omega, i + 1, rfl, rfl, fun j hj => app_one hj (fun _ => rfl) (fun _ => rfl), by omega, by omega⟩
 ·have eg : g = 8 := by omega
  subst eg
  have hM := mnS_ok i
  have h6 := hM.six (by omega) (by omega)
  have hE := plnE_bad (s := mnS 8 i) (by rw [h6]; decide)
  have hmx := hM.mx (by omega)
  obtain ⟨g1, g2, g3⟩ := hM.gr (by omega)
  exact ⟨can_m1, can_m2, can_m3, can_m4, hmx, can_m1, can_m2, can_m3, can_m4, hmx, can_m1, can_m2, can_m3, can_m4, hmx, by rw [hE]; exact h6, h6, nodN_bad (by rw [h6]; decide), g1, g2, by rw [g3]⟩
end Abs
open Go.ChangeShapes Go.WideShapes Go.ChangeAt Go.RowKit
set_option maxRecDepth 100000 in
theorem thermalMany_lifted (os : Os) (started : os.Started) (H : Type) (enc : TypeId × Value -> H) :
  ReturnsInHanded {} Try.checked os 6 .any (Rows.thermalManySpec.pre6 enc Try.prog Try.f6 Rows.thermalManyRow.domain false) (Rows.thermalManySpec.post enc Try.prog Try.f6 false true false false) := by
 refine returnsInHanded_of_change (C := Try.checked) (show ownKnob Try.prog.godebug = none by kernel_rfl) started (by kernel_rfl) Try.func6
  (ChangeSpec.witness6 (enc := enc) (C := Try.checked) false ⟨#[], #[.int .u8 0], []⟩ 8 (by kernel_rfl) (by kernel_rfl) (by kernel_rfl) (by kernel_rfl)) ?_
 intro W base args ds gs before hval0 hW hcnd _
 have hW0 := hW
 obtain ⟨p, q, hA, hV, rfl, hfz, hnd⟩ := hW0
 refine (Abs.law_calls (enc' := enc) Abs.thermalMany_law (fn := Try.f6) (d := 6) (by kernel_rfl) hA hval0).mono fun e W' hh => ?_
 obtain ⟨he, hb⟩ := hh
 subst he
 exact ⟨_, rfl, Abs.law_post (s := Rows.thermalManySpec) (f := Try.f6) (by kernel_rfl) rfl (by kernel_rfl) (by kernel_rfl) rfl 1 (by kernel_rfl) (fun ds hl => by
  rcases ds with _ | ⟨d0, _ | ⟨d1, _⟩⟩
  all_goals first | exact ⟨rfl, rfl, rfl⟩ | (exfalso; simp only [List.length_cons, List.length_nil] at hl; omega)) hW hb⟩
theorem thermalMany_holds : Rows.ThermalManySaid :=
 OpenClaim.holds_of_wide 6 Try.f6 rfl rfl rfl rfl rfl rfl rfl ⟨rfl, rfl, rfl, rfl, rfl⟩ rfl rfl rfl rfl rfl (by kernel_rfl) Try.func6 (by kernel_rfl)
  (of_decide_eq_true (by kernel_rfl)) (by unfold Func.isWrapper; first | (rw [if_pos (by decide +kernel)]; kernel_rfl) | (rw [if_neg (by decide +kernel)]; exact ⟨rfl, rfl⟩))
  (fun os started H enc _ => thermalMany_lifted os started H enc)
end Go.Proofs.Ytdfdjlijghjdaaa
