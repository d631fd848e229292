/- Law: a flow changes no sum of temperatures. -/
import Derived.Test.YtjdjhpkgmhaieaaQThermalHeat1
import Derived.Test.YtjdjhpkgmhaieaaRows
namespace Go.Proofs.Ytjdjhpkgmhaieaa
namespace Abs
open Go Go.RowKit
@[irreducible] def nxE (s : Sys) (mo : Int) (t w : Vx) : Int := if checkB s = true then (if 0 ≤ mo ∧ mo < s.nmd then (if t.len = s.lim.len ∧ w.len = s.lim.len then
  (if anyN (fun k => farB (t.at k) 1073741824) t.len = true ∨ anyN (fun k => farB (w.at k) 1073741824) w.len = true then 3 else 0) else 8) else 3) else 2
@[irreducible] def nxN (s : Sys) (mo : Int) (t w : Vx) : Nat := if nxE s mo t w = 0 then t.len else 0
theorem nxE_iff {s : Sys} {mo : Int} {t w : Vx} : nxE s mo t w = 0 ↔ checkB s = true ∧ 0 ≤ mo ∧ mo < s.nmd ∧ t.len = s.lim.len ∧ w.len = s.lim.len ∧ (∀ k, k < t.len → farB (t.at k) 1073741824 = false) ∧ ∀ k, k < w.len → farB (w.at k) 1073741824 = false := by
  rw [← anyN_false (p := fun k => farB (t.at k) 1073741824), ← anyN_false (p := fun k => farB (w.at k) 1073741824)]
  unfold nxE
  cases checkB s <;> cases anyN (fun k => farB (t.at k) 1073741824) t.len <;> cases anyN (fun k => farB (w.at k) 1073741824) w.len <;> by_cases h : 0 ≤ mo ∧ mo < (s.nmd : Int) <;> by_cases h' : t.len = s.lim.len ∧ w.len = s.lim.len <;> simp [h, h'] <;> omega
theorem nxOK_of {s : Sys} {mo : Int} {t w : Vx} (h : nxE s mo t w = 0) : NxOK (s.md mo.toNat) t w := by
  obtain ⟨h1, h2, h3, h4, h5, h6, h7⟩ := nxE_iff.1 h
  have c := checkB_iff.1 h1
  refine ⟨by omega, by omega, by rw [h4]; exact c.2.2.2.2.2.2.2.2.2.2 mo.toNat (by omega), fun k hk => ?_, fun k hk => ?_⟩
  · have := h6 k hk; unfold farB at this; simp at this; omega
  · have := h7 k (by omega); unfold farB at this; simp at this; omega
def nxtS : Spec [sysSh, .int .i64, intsSh, intsSh] := ⟨fun (s, _, t, w, _) => SysMax (sysOf s) ∧ t.1 ≤ maxLen ∧ w.1 ≤ maxLen, fun (s, (mo : Int), t, w, _) =>
  .tup [.slc (.sym (nxN (sysOf s) mo (vxOf t) (vxOf w))) 1 (fun k => [.si .i64 (nxV ((sysOf s).md (nat mo)) (vxOf t).at (vxOf w).at k)]), .si .i64 (nxE (sysOf s) mo (vxOf t) (vxOf w))]⟩
def SL0 : Sums := ⟨(16, mkSum _ worksS) :: SE2.one, SE2.two, SE2.lo, SE2.eqs, SE2.its⟩
theorem SL0_ok : SumsOK Try.prog SL0 := (SE2_ok.cons Try.func16 (by kernel_rfl) (by kernel_rfl) works_ok)
set_option maxRecDepth 100000 in
set_option maxHeartbeats 1000000 in
theorem nxt_ok : FnSpec Try.prog 19 _ nxtS := by
  refine FnSpec.of SL0_ok mixed (U := 0) (I := fun _ => []) Try.func19 rfl (by kernel_rfl) rfl rfl (by decide +kernel) ?_
  rintro ⟨s, (mo : Int), t, w, ⟨⟩⟩ hpre
  obtain ⟨s, rfl⟩ := sys_ex s
  obtain ⟨t, rfl⟩ := vx_ex t
  obtain ⟨w, rfl⟩ := vx_ex w
  have hpre : SysMax s ∧ t.len ≤ maxLen ∧ w.len ≤ maxLen := by have : SysMax (sysOf (sysD s)) ∧ t.len ≤ maxLen ∧ w.len ≤ maxLen := hpre; rwa [sysOf_D] at this
  obtain ⟨⟨p1, p2, p3, p4, p5, p6⟩, p7, p8⟩ := hpre
  unfold FnSat
  conv => arg 2; reduce
  simp [nxtS, checkS, anyFarC, nextS, ElEq, getB, goneB, aliveB, and_assoc]
  have val : ∀ e : Int, nxE s mo t w = e → e ≠ 0 → nxN s mo t w = 0 ∧ e = nxE s mo t w := fun e h1 h2 => ⟨by unfold nxN; rw [h1, if_neg h2], h1.symm⟩
  refine ⟨p1, p2, p3, p4, p5, p6, fun h => ?_, fun h => ⟨fun h1 => ?_, fun a1 a2 => ⟨fun h1 => ?_, fun a3 a4 => ⟨p7, fun _ => p8, fun h1 => ?_, fun a5 a6 => ?_⟩⟩⟩⟩
  · rw [h, errA_false]; exact val 2 (by unfold nxE; simp [h]) (by decide)
  · exact val 3 (by unfold nxE; rw [if_pos h, if_neg (by omega)]) (by decide)
  · exact val 8 (by unfold nxE; rw [if_pos h, if_pos ⟨a1, a2⟩, if_neg (by omega)]) (by decide)
  · exact val 3 (by unfold nxE; rw [if_pos h, if_pos ⟨a1, a2⟩, if_pos (by omega), if_pos h1]) (by decide)
  · have h0 : nxE s mo t w = 0 := by unfold nxE; rw [if_pos h, if_pos ⟨a1, a2⟩, if_pos (by omega), if_neg (by simp [a5, a6])]
    have h1 : nxN s mo t w = t.len := by unfold nxN; rw [if_pos h0]
    simp [h0, h1, nxOK_of h0, a1, a2]
def SL1 : Sums := ⟨(19, mkSum _ nxtS) :: SL0.one, SL0.two, SL0.lo, SL0.eqs, SL0.its⟩
theorem SL1_ok : SumsOK Try.prog SL1 := (SL0_ok.cons Try.func19 (by kernel_rfl) (by kernel_rfl) nxt_ok)
theorem nxV_b {m : Mo} {t w : Vx} (h : NxOK m t w) {k : Nat} (hk : k < t.len) : -17179869184 ≤ nxV m t.at w.at k ∧ nxV m t.at w.at k ≤ 17179869184 := by
  obtain ⟨p1, p2, p3, p4, p5⟩ := h
  have h1 := p4 k hk
  have h2 := p5 k hk
  have h3 := mode_sh p3 hk
  by_cases h0 : m.nfl = 0
  · rw [nxV_none h0]; omega
  · have h4 := xV_near p3 p1 (T := 2147483648) p4 h0
    have hone := modeB_one p3 (by omega)
    rw [nxV_one (show m.nfl = 1 by omega)]
    split
    · omega
    · split <;> omega
/-- the sum so far -/
def sumH (m : Mo) (t w : Vx) : Nat → Int
  | 0 => 0
  | k + 1 => sumH m t w k + (nxV m t.at w.at k - t.at k - w.at k - m.sh k)
theorem sumH_zero (m : Mo) (t w : Vx) : sumH m t w 0 = 0 := rfl
theorem sumH_succ (m : Mo) (t w : Vx) (k : Nat) : sumH m t w (k + 1) = sumH m t w k + (nxV m t.at w.at k - t.at k - w.at k - m.sh k) := rfl
attribute [irreducible] sumH
theorem sumH_b {m : Mo} {t w : Vx} (h : NxOK m t w) : ∀ {k : Nat}, k ≤ t.len → -((k : Int) * 68719476736) ≤ sumH m t w k ∧ sumH m t w k ≤ (k : Int) * 68719476736
  | 0, _ => by rw [sumH_zero]; omega
  | k + 1, hk => by
    rw [sumH_succ]
    have h0 := sumH_b h (k := k) (by omega)
    have h1 := nxV_b h (show k < t.len by omega)
    obtain ⟨p1, p2, p3, p4, p5⟩ := h
    have h2 := p4 k (by omega)
    have h3 := p5 k (by omega)
    have h4 := mode_sh p3 (k := k) (by omega)
    omega
noncomputable def heatI : DatL [sysSh, .int .i64, intsSh, intsSh] → Anns := fun (s, (mo : Int), t, w, _) => [
  (8, [], fun fr hp => ⟨Nat, fun g => ⟨frI [.k 11, .s (.si .i64 (sumH ((sysOf s).md (nat mo)) (vxOf t) (vxOf w) g)), .s (.si .i64 (icast g)), .k 44, .t 51, .k 12] fr, hp⟩, Nat × Nat, fun g => (g, t.1), fun (g, n) => g ≤ n, fun g => nsub t.1 g⟩)]
set_option maxRecDepth 100000 in
set_option maxHeartbeats 4000000 in
theorem thermalHeat_law : LawFn Try.prog 4 [sysSh, .int .i64, intsSh, intsSh] := by
  refine FnSpec.of SL1_ok mixed (U := 0) (I := heatI) Try.func4 rfl (by kernel_rfl) rfl rfl (by decide +kernel) ?_
  rintro ⟨s, (mo : Int), t, w, ⟨⟩⟩ hv
  obtain ⟨s, rfl⟩ := sys_ex s
  obtain ⟨t, rfl⟩ := vx_ex t
  obtain ⟨w, rfl⟩ := vx_ex w
  clear hv
  unfold FnSat
  conv => arg 2; reduce
  simp [worksS, validS11, nxtS, and_assoc]
  intro hval ht hw h0 h1
  have hsb := (validB_iff.1 hval).1
  refine ⟨short_max hsb, by unfold maxLen; omega, by unfold maxLen; omega, fun hne => ?_, fun he => ?_⟩
  · have hc := (validB_iff.1 hval).2
    revert hne
    unfold nxE
    rw [if_pos hc]
    split
    · split
      · split
        · intro _; exact .inl rfl
        · intro h; exact absurd rfl h
      · intro _; exact .inr rfl
    · intro _; exact .inl rfl
  · have hok := nxOK_of he
    have hN : nxN s mo t w = t.len := by unfold nxN; rw [if_pos he]
    have hx := nxE_iff.1 he
    have hns := (modeB_iff.1 hok.md).2.2.1
    have hn3 := hok.n3
    have hwl := hok.wl
    rw [hN]
    refine ⟨⟨0, (sumH_zero ..).symm, rfl, by omega⟩, fun g hg => ⟨fun g1 g2 g3 g4 => ?_, fun hge => ⟨rfl, ?_⟩⟩⟩
    · have b0 := sumH_b hok (k := g) (by omega)
      have b1 := nxV_b hok g1
      have b2 := hok.tn g g1
      have b3 := hok.wn g g1
      have b4 := mode_sh hok.md g1
      exact ⟨g1, by omega, by omega, g1, by omega, by omega, g3, by omega, by omega, h0, h1, by omega, by omega, by omega, by omega, by omega, g + 1, by rw [sumH_succ]; omega, by omega, by omega, by omega⟩
    · have hgn : g = t.len := by
        rcases Nat.lt_or_ge g t.len with h | h
        · have := hge h h (by omega); omega
        · omega
      rw [hgn]
      exact nxV_sum hok.md hn3 t.at w.at (sumH (s.md mo.toNat) t w) (sumH_zero ..) fun i => by rw [sumH_succ]
end Abs
open Go.ChangeShapes Go.WideShapes Go.ChangeAt Go.RowKit
set_option maxRecDepth 100000 in
theorem thermalHeat_lifted (os : Os) (started : os.Started) (H : Type) (enc : TypeId × Value → H) :
    ReturnsInHanded {} Try.checked os 4 .any (Rows.thermalHeatSpec.pre6 enc Try.prog Try.f4 Rows.thermalHeatRow.domain false) (Rows.thermalHeatSpec.post enc Try.prog Try.f4 false true false false) := by
  refine returnsInHanded_of_change (C := Try.checked) (show ownKnob Try.prog.godebug = none by kernel_rfl) started (by kernel_rfl) Try.func4
    (ChangeSpec.witness6 (enc := enc) (C := Try.checked) false ⟨#[], #[.agg #[.slice none 0 0, .slice none 0 0, .slice none 0 0, .slice none 0 0], .int .i64 0, .slice none 0 0, .slice none 0 0], []⟩ 8 (by kernel_rfl) (by kernel_rfl) (by kernel_rfl) (by kernel_rfl)) ?_
  intro W base args ds gs before hval0 hW hcnd _
  have hW0 := hW
  obtain ⟨p, q, hA, hV, rfl, hfz, hnd⟩ := hW0
  refine (Abs.law_calls (enc' := enc) Abs.thermalHeat_law (fn := Try.f4) (d := 6) (by kernel_rfl) hA hval0).mono fun e W' hh => ?_
  obtain ⟨he, hb⟩ := hh
  subst he
  exact ⟨_, rfl, Abs.law_post (s := Rows.thermalHeatSpec) (f := Try.f4) (by kernel_rfl) rfl (by kernel_rfl) (by kernel_rfl) rfl 4 (by kernel_rfl) (fun ds hl => by
    rcases ds with _ | ⟨d0, _ | ⟨d1, _ | ⟨d2, _ | ⟨d3, _ | ⟨d4, _⟩⟩⟩⟩⟩
    all_goals first | exact ⟨rfl, rfl, rfl⟩ | (exfalso; simp only [List.length_cons, List.length_nil] at hl; omega)) hW hb⟩
theorem thermalHeat_holds : Rows.ThermalHeatSaid :=
  OpenClaim.holds_of_wide 4 Try.f4 rfl rfl rfl rfl rfl rfl rfl ⟨rfl, rfl, rfl, rfl, rfl⟩ rfl rfl rfl rfl rfl (by kernel_rfl) Try.func4 (by kernel_rfl)
    (of_decide_eq_true (by kernel_rfl)) (by unfold Func.isWrapper; first | (rw [if_pos (by decide +kernel)]; kernel_rfl) | (rw [if_neg (by decide +kernel)]; exact ⟨rfl, rfl⟩))
    (fun os started H enc _ => thermalHeat_lifted os started H enc)
end Go.Proofs.Ytjdjhpkgmhaieaa
