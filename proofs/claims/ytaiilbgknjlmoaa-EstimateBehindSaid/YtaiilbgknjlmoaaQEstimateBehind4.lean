/- Behind a reading are just the quantities of which the sensor shows it with some noise; no condition. -/
import Derived.Test.YtaiilbgknjlmoaaQEstimateBehind3
import Derived.Test.YtaiilbgknjlmoaaRows
namespace Go.Proofs.Ytaiilbgknjlmoaa
namespace Abs
open Go Go.RowKit
@[reducible] def smallSh : Sh := .agg [.int .u8, .int .u8, .int .i16, .int .u16]
def sensorS : Spec [smallSh] := ⟨fun ((a, b, c, d, _), _) => InR .u8 a ∧ InR .u8 b ∧ InR .i16 c ∧ InR .u16 d, fun ((a, b, c, d, _), _) => .agg [.si .i64 a, .si .i64 (iadd 1 b), .si .i64 c, .si .i64 (iadd c d)]⟩
set_option maxRecDepth 100000 in
theorem sensor_ok : FnSpec Try.prog 13 _ sensorS := by
  refine FnSpec.of SQ3_ok mixed (U := 0) (I := fun _ => []) Try.func13 rfl (by kernel_rfl) rfl rfl (by decide +kernel) ?_
  rintro ⟨⟨(a : Int), (b : Int), (c : Int), (d : Int), ⟨⟩⟩, ⟨⟩⟩ hp
  unfold FnSat
  conv => arg 2; reduce
  have hp : InR .u8 a ∧ InR .u8 b ∧ InR .i16 c ∧ InR .u16 d := hp
  simp [InR, IntKind.min, IntKind.max, IntKind.signed, IntKind.bits] at hp
  simp [sensorS]
  omega
def SEb : Sums := ⟨(12, mkSum _ trueS) :: (14, mkSum _ hasS) :: (13, mkSum _ sensorS) :: SQ3.one, SQ3.two, SQ3.lo, SQ3.eqs⟩
theorem SEb_ok : SumsOK Try.prog SEb := (((SQ3_ok.cons Try.func13 (by kernel_rfl) (by kernel_rfl) sensor_ok).cons Try.func14 (by kernel_rfl) (by kernel_rfl) has_ok).cons Try.func12 (by kernel_rfl) (by kernel_rfl) works_ok)
noncomputable def ebI : DatL [smallSh, .int .i16, .int .i8] → Anns := fun (((a : Int), (b : Int), (c : Int), (d : Int), _), _, _, _) =>
  [(18, [], fun fr hp => ⟨Int, fun g => ⟨frI [.k 17, .s (.sb (fndV a (iadd 1 b) c (iadd c d) (intOf (getL fr 11)) (intOf (getL fr 16)) g)), .s (.si .i64 (bfV a (iadd 1 b) c (iadd c d) (intOf (getL fr 16)) g)), .s (.si .i64 g), .t 2, .k 82, .t 27] fr, hp⟩, Int, fun g => g,
    fun n => -a ≤ n ∧ n ≤ a + 1, fun g => nat (isub (iadd a 1) g)⟩)]
set_option maxRecDepth 100000 in
set_option maxHeartbeats 4000000 in
theorem estimateBehind_law : LawFn Try.prog 4 [smallSh, .int .i16, .int .i8] := by
  refine FnSpec.of SEb_ok mixed (U := 6) (I := ebI) Try.func4 rfl (by kernel_rfl) rfl rfl (by decide +kernel) ?_
  rintro ⟨⟨(a : Int), (b : Int), (c : Int), (d : Int), ⟨⟩⟩, (x : Int), (e : Int), ⟨⟩⟩ hv
  unfold FnSat
  conv => arg 2; reduce
  have hv : InR .u8 a ∧ InR .u8 b ∧ InR .i16 c ∧ InR .u16 d ∧ InR .i16 x ∧ InR .i8 e := ⟨hv.1.1, hv.1.2.1, hv.1.2.2.1, hv.1.2.2.2.1, hv.2.1, hv.2.2.1⟩
  simp [show_, behind, sensorS, hasS, trueS, and_assoc, fnd_0, bf_0, hv]
  simp [InR, IntKind.min, IntKind.max, IntKind.signed, IntKind.bits] at hv
  have hs : sensOK a (1 + b) c (c + d) = true := by simp [sensOK]; omega
  have hx : isQ x = true := by simp [isQ]; omega
  refine ⟨by omega, by omega, by omega, fun h => ?_, fun h1 h2 => ?_⟩
  · have := showE_3 (a := a) (b := 1 + b) (c := c) (d := c + d) (x := x) (n := e) (by rw [hs, hx]; rfl) (by
      cases hh : isIn (-a) e a with
      | false => rfl
      | true => simp at hh; omega)
    omega
  have he : isIn (-a) e a = true := by simp; omega
  have hr := show_ok_read hs hx he
  obtain ⟨e1, e2⟩ := showE_0 (by rw [hs, hx]; rfl) he
  obtain ⟨e3, e4, e5⟩ := beh_0 hs hr
  have ht1 := thr1_in hs (r := showV a (1 + b) c (c + d) x e)
  have ht2 := thr2_in hs (r := showV a (1 + b) c (c + d) x e)
  obtain ⟨e6, e7⟩ := ref_eq hs hr
  have ht := ((ref_beh hs).2 hr).1
  have hxe := fnd_end hs hr (y := x) (by omega) (by omega)
  have hin : fndV a (1 + b) c (c + d) (showV a (1 + b) c (c + d) x e) x (a + 1) = true := fnd_iff.2 ⟨e, by omega, by omega, e1.symm⟩
  rw [hin] at hxe
  have hxe : behLo a (1 + b) c (c + d) (showV a (1 + b) c (c + d) x e) ≤ x ∧ x ≤ behHi a (1 + b) c (c + d) (showV a (1 + b) c (c + d) x e) := by simpa using hxe.symm
  have hall := fun y h1 h2 => fnd_end hs hr (y := y) h1 h2
  have hsh : ∀ y n, -1099511627776 ≤ y → y ≤ 1099511627776 → -a ≤ n → n ≤ a → showE a (1 + b) c (c + d) y n = 0 ∧ showV a (1 + b) c (c + d) y n = intoV (stepV (1 + b) (y + n)) c (c + d) := fun y n g1 g2 g3 g4 => by
    have := showE_0 (a := a) (b := 1 + b) (c := c) (d := c + d) (x := y) (n := n) (by rw [hs]; simp [isQ]; omega) (by simp; omega)
    exact ⟨this.2, this.1⟩
  clear e3 e4 hin
  generalize showV a (1 + b) c (c + d) x e = r at *
  rw [← e6] at ht1 ht
  generalize behLo a (1 + b) c (c + d) r = LO at *
  generalize behHi a (1 + b) c (c + d) r = HI at *
  have hq : -1099511627776 ≤ LO ∧ LO ≤ 1099511627776 ∧ HI ≤ 1099511627776 ∧ -1099511627776 ≤ HI := by omega
  have hha : hasV LO HI x = true := by simp [hasV, spanOK, isQ]; omega
  have hst : ∀ y n, -1099511627776 ≤ y → y ≤ 1099511627776 → -a ≤ n → n ≤ a → (fndV a (1 + b) c (c + d) r y n || showV a (1 + b) c (c + d) y n == r) = fndV a (1 + b) c (c + d) r y (n + 1) ∧
      showV a (1 + b) c (c + d) y n = bfV a (1 + b) c (c + d) y (n + 1) ∧ bfV a (1 + b) c (c + d) y n ≤ showV a (1 + b) c (c + d) y n := fun y n g1 g2 g3 g4 => by
    rw [(hsh y n g1 g2 g3 g4).2, fnd_1 g3, bf_1 g3]
    exact ⟨rfl, rfl, bf_le (by omega) (by omega)⟩
  clear ht1 ht2 hs hx he hr e1 e6 e7 ht
  repeat' (first | refine And.intro ?_ ?_ | intro _)
  all_goals first
    | omega
    | assumption
    | exact ⟨-a, fnd_0 .., (bf_0 ..).symm, rfl, Int.le_refl _, show -a ≤ a + 1 by omega⟩
    | exact (hsh _ _ (by omega) (by omega) (by omega) (by omega)).1
    | exact (hst _ _ (by omega) (by omega) (by omega) (by omega)).2.2
    | (refine ⟨_, ?_, ?_, rfl, ?_⟩
       · exact (hst _ _ (by omega) (by omega) (by omega) (by omega)).1
       · exact (hst _ _ (by omega) (by omega) (by omega) (by omega)).2.1
       · omega)
    | (rename_i g _ _ _
       obtain rfl : g = a + 1 := Int.le_antisymm (by assumption) (by assumption)
       rw [hall _ (by omega) (by omega)]; simp; done)
    | (rename_i g _ _ _
       obtain rfl : g = a + 1 := Int.le_antisymm (by assumption) (by assumption)
       rw [hall _ (by omega) (by omega)]; simp; omega)
    | (trace_state; sorry)
end Abs
open Go.ChangeShapes Go.WideShapes Go.ChangeAt Go.RowKit
set_option maxRecDepth 100000 in
theorem estimateBehind_lifted (os : Os) (started : os.Started) (H : Type) (enc : TypeId × Value → H) :
    ReturnsInHanded {} Try.checked os 4 .any (Rows.estimateBehindSpec.pre6 enc Try.prog Try.f4 Rows.estimateBehindRow.domain false) (Rows.estimateBehindSpec.post enc Try.prog Try.f4 false true false false) := by
  refine returnsInHanded_of_change (C := Try.checked) (show ownKnob Try.prog.godebug = none by kernel_rfl) started (by kernel_rfl) Try.func4
    (ChangeSpec.witness6 (enc := enc) (C := Try.checked) false ⟨#[], #[.agg #[.int .u8 0, .int .u8 0, .int .i16 0, .int .u16 0], .int .i16 0, .int .i8 0], []⟩ 8 (by kernel_rfl) (by kernel_rfl) (by kernel_rfl) (by kernel_rfl)) ?_
  intro W base args ds gs before hval0 hW hcnd _
  have hW0 := hW
  obtain ⟨p, q, hA, hV, rfl, hfz, hnd⟩ := hW0
  refine (Abs.law_calls (enc' := enc) Abs.estimateBehind_law (fn := Try.f4) (d := 3) (by kernel_rfl) hA hval0).mono fun e W' hh => ?_
  obtain ⟨he, hb⟩ := hh
  subst he
  exact ⟨_, rfl, Abs.law_post (s := Rows.estimateBehindSpec) (f := Try.f4) (by kernel_rfl) rfl (by kernel_rfl) (by kernel_rfl) rfl 3 (by kernel_rfl) (fun ds hl => by
    rcases ds with _ | ⟨d0, _ | ⟨d1, _ | ⟨d2, _ | ⟨d3, _⟩⟩⟩⟩
    all_goals first | exact ⟨rfl, rfl, rfl⟩ | (exfalso; simp only [List.length_cons, List.length_nil] at hl; omega)) hW hb⟩
theorem estimateBehind_holds : Rows.EstimateBehindSaid :=
  OpenClaim.holds_of_wide 4 Try.f4 rfl rfl rfl rfl rfl rfl rfl ⟨rfl, rfl, rfl, rfl, rfl⟩ rfl rfl rfl rfl rfl (by kernel_rfl) Try.func4 (by kernel_rfl)
    (of_decide_eq_true (by kernel_rfl)) (by unfold Func.isWrapper; first | (rw [if_pos (by decide +kernel)]; kernel_rfl) | (rw [if_neg (by decide +kernel)]; exact ⟨rfl, rfl⟩))
    (fun os started H enc _ => estimateBehind_lifted os started H enc)
end Go.Proofs.Ytaiilbgknjlmoaa
