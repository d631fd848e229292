/- Law: for all systems, plans, temperatures and loads, Run, Boxes, Safe, Cost and Margin return what the document says. -/
import Derived.Test.YtjblicdceafcpaaQThermalRuns1
import Derived.Test.YtjblicdceafcpaaRows
namespace Go.Proofs.Ytjblicdceafcpaa
namespace Abs
open Go Go.RowKit
noncomputable def runsI : DatL [sysSh, intsSh, intsSh, rowsSh] → Anns := fun (s, p, _, l, _) => [
  (4, [], fun fr hp => ⟨Nat, fun g => ⟨frI [.k 9, .s (.si .i64 (icast g)), .k 36, .t 148] fr, hp⟩, Nat × Rx, fun g => (g, rxOf l), fun (g, l) => g ≤ l.len ∧ ∀ k, k < g → (l.row k).len ≤ 20, fun g => nsub l.1 g⟩),
  (17, [], fun fr hp => ⟨Nat, fun g => ⟨frI [.k 16, .s (.si .i64 (icast g)), .k 89, .t 88] fr, hp⟩, Nat × Nat, fun g => (g, bxN (sysOf s) (vxOf p)), fun (g, n) => g ≤ n, fun g => nsub (bxN (sysOf s) (vxOf p)) g⟩)]
set_option maxRecDepth 100000 in
set_option maxHeartbeats 4000000 in
theorem thermalRuns_law : LawFn Try.prog 8 [sysSh, intsSh, intsSh, rowsSh] := by
  refine FnSpec.of SV1_ok mixed (U := 0) (I := runsI) Try.func8 rfl (by kernel_rfl) rfl rfl (by decide +kernel) ?_
  rintro ⟨s, p, t, l, ⟨⟩⟩ hv
  obtain ⟨s, rfl⟩ := sys_ex s
  obtain ⟨p, rfl⟩ := vx_ex p
  obtain ⟨t, rfl⟩ := vx_ex t
  obtain ⟨l, rfl⟩ := rx_ex l
  clear hv
  unfold FnSat
  conv => arg 2; reduce
  simp [worksS, shortS, runS, rowsS, boxesS, sameBS, safeS, costS, marS, and_assoc]
  intro h0 h1 h2 h3
  have hm := short_max h0
  have hp : p.len ≤ maxLen := by unfold maxLen; omega
  refine ⟨⟨0, rfl, by omega, fun k hk => by omega⟩, fun g hg hf => ⟨fun hlt => ⟨hlt, fun h4 => ⟨by omega, by omega, g + 1, by omega, by omega, fun k hk => ?_, by omega⟩⟩, fun hge => ?_⟩⟩
  · by_cases h' : k < g
    · exact hf k h'
    · obtain rfl : k = g := by omega
      omega
  have hl : RxMax l := ⟨by omega, fun k hk => by have := hf k (by omega); omega⟩
  have hn : rnN s p t l ≤ p.len := by unfold rnN; split <;> omega
  have hb : bxN s p ≤ 101 := by unfold bxN; split <;> omega
  have hs : s.st.len ≤ maxLen := hm.2.1
  refine ⟨hm, hp, by omega, hl, hm, hp, by omega, hl, ⟨by simp only [rxOf_len]; omega, fun k hk => ?_⟩, hm, hp, hm, hp, ⟨0, rfl, by omega⟩, fun g hg => ⟨fun hlt => ⟨hlt, by rw [bxV_len]; exact hs, by omega, by omega, g + 1, by omega, by omega, by omega⟩, fun hge => ⟨hm, hp⟩⟩⟩
  simp only [rxOf_row, vxOf_len]; omega
end Abs
open Go.ChangeShapes Go.WideShapes Go.ChangeAt Go.RowKit
set_option maxRecDepth 100000 in
theorem thermalRuns_lifted (os : Os) (started : os.Started) (H : Type) (enc : TypeId × Value → H) :
    ReturnsInHanded {} Try.checked os 8 .any (Rows.thermalRunsSpec.pre6 enc Try.prog Try.f8 Rows.thermalRunsRow.domain false) (Rows.thermalRunsSpec.post enc Try.prog Try.f8 false true false false) := by
  refine returnsInHanded_of_change (C := Try.checked) (show ownKnob Try.prog.godebug = none by kernel_rfl) started (by kernel_rfl) Try.func8
    (ChangeSpec.witness6 (enc := enc) (C := Try.checked) false ⟨#[], #[.agg #[.slice none 0 0, .slice none 0 0, .slice none 0 0, .slice none 0 0], .slice none 0 0, .slice none 0 0, .slice none 0 0], []⟩ 8 (by kernel_rfl) (by kernel_rfl) (by kernel_rfl) (by kernel_rfl)) ?_
  intro W base args ds gs before hval0 hW hcnd _
  have hW0 := hW
  obtain ⟨p, q, hA, hV, rfl, hfz, hnd⟩ := hW0
  refine (Abs.law_calls (enc' := enc) Abs.thermalRuns_law (fn := Try.f8) (d := 6) (by kernel_rfl) hA hval0).mono fun e W' hh => ?_
  obtain ⟨he, hb⟩ := hh
  subst he
  exact ⟨_, rfl, Abs.law_post (s := Rows.thermalRunsSpec) (f := Try.f8) (by kernel_rfl) rfl (by kernel_rfl) (by kernel_rfl) rfl 4 (by kernel_rfl) (fun ds hl => by
    rcases ds with _ | ⟨d0, _ | ⟨d1, _ | ⟨d2, _ | ⟨d3, _ | ⟨d4, _⟩⟩⟩⟩⟩
    all_goals first | exact ⟨rfl, rfl, rfl⟩ | (exfalso; simp only [List.length_cons, List.length_nil] at hl; omega)) hW hb⟩
theorem thermalRuns_holds : Rows.ThermalRunsSaid :=
  OpenClaim.holds_of_wide 8 Try.f8 rfl rfl rfl rfl rfl rfl rfl ⟨rfl, rfl, rfl, rfl, rfl⟩ rfl rfl rfl rfl rfl (by kernel_rfl) Try.func8 (by kernel_rfl)
    (of_decide_eq_true (by kernel_rfl)) (by unfold Func.isWrapper; first | (rw [if_pos (by decide +kernel)]; kernel_rfl) | (rw [if_neg (by decide +kernel)]; exact ⟨rfl, rfl⟩))
    (fun os started H enc _ => thermalRuns_lifted os started H enc)
end Go.Proofs.Ytjblicdceafcpaa
