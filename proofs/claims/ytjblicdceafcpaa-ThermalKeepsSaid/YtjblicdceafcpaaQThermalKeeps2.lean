/- Law: if a plan is safe, all temperatures are within the limits; and they are in the boxes of the plan, safe or not. -/
import Derived.Test.YtjblicdceafcpaaQThermalKeeps1
import Derived.Test.YtjblicdceafcpaaRows
namespace Go.Proofs.Ytjblicdceafcpaa
namespace Abs
open Go Go.RowKit
theorem u8_keeps {a l : Vx} {s : Dat sysSh} {p : Dat intsSh} (hv : ValidL [sysSh, intsSh, .slice 1 [.int .u8], .slice 1 [.int .u8]] (s, p, (a.len, fun k => (a.at k, ())), (l.len, fun k => (l.at k, ())), ())) :
    (∀ k, k < a.len → 0 ≤ a.at k ∧ a.at k ≤ 255) ∧ (∀ k, k < l.len → 0 ≤ l.at k ∧ l.at k ≤ 255) ∧ l.len ≤ maxLen := by
  simp only [ValidL, Valid] at hv
  obtain ⟨_, _, h1, h2, _⟩ := hv
  refine ⟨fun k hk => ?_, fun k hk => ?_, h2.1⟩
  · have h := (h1.2 k hk).1
    simp [InR, IntKind.min, IntKind.max, IntKind.signed, IntKind.bits] at h
    omega
  · have h := (h2.2 k hk).1
    simp [InR, IntKind.min, IntKind.max, IntKind.signed, IntKind.bits] at h
    omega
noncomputable def keepsI : DatL [sysSh, intsSh, .slice 1 [.int .u8], .slice 1 [.int .u8]] → Anns := fun (s, p, a, l, _) => [
  (14, [(14, 2, 1)], fun fr hp => ⟨Nat, fun g => ⟨frI [.k 17, .s (.si .i64 (icast g)), .t 1, .k 53, .t 143] fr, putRL hp (.sym g) (fun k => [.si .i64 (ptF (sysOf s).st (vxOf a) k)])⟩, Nat × Nat, fun g => (g, s.1.1), fun (g, n) => g ≤ n, fun g => nsub s.1.1 g⟩),
  (21, [(15, 33, 1)], fun fr hp => ⟨Nat, fun g => ⟨frI [.k 16, .s (.si .i64 (icast (kF s.1.1 g))), .k 2, .s (.si .i64 (icast g)), .t 3, .k 72, .t 120] fr,
    putRL hp (.sym g) (fun i => [.slc (.sym s.1.1) 1 (fun j => [.si .i64 (ldF (sysOf s) (vxOf l) i j)])])⟩, Nat × Nat, fun g => (g, p.1), fun (g, n) => g ≤ n, fun g => nsub p.1 g⟩),
  (25, [(20, 2, 1)], fun fr hp => ⟨Nat, fun j => ⟨frI [.k 16, .s (.si .i64 (icast (nadd (kF s.1.1 (nat (intOf (getL fr 19)))) j))), .k 4, .s (.si .i64 (icast j)), .t 1, .k 78, .t 114] fr,
    putRL hp (.sym j) (fun k => [.si .i64 (ldF (sysOf s) (vxOf l) (nat (intOf (getL fr 19))) k)])⟩, Nat × Nat, fun j => (j, s.1.1), fun (j, n) => j ≤ n, fun j => nsub s.1.1 j⟩),
  (37, [], fun fr hp => ⟨Nat, fun g => ⟨frI [.k 24, .s (.si .i64 (icast g)), .t 1, .k 124, .t 65] fr, hp⟩, Nat × Nat, fun g => (g, p.1), fun (g, n) => g ≤ n, fun g => nsub p.1 g⟩),
  (42, [], fun fr hp => ⟨Nat, fun j => ⟨frI [.k 25, .s (.si .i64 (icast j)), .k 147, .t 42] fr, hp⟩, Nat × Nat, fun j => (j, s.1.1), fun (j, n) => j ≤ n, fun j => nsub s.1.1 j⟩)]
set_option maxRecDepth 100000 in
set_option maxHeartbeats 20000000 in
theorem thermalKeeps_law : LawFn Try.prog 7 [sysSh, intsSh, .slice 1 [.int .u8], .slice 1 [.int .u8]] := by
  refine FnSpec.of SX0_ok mixed (U := 0) (I := keepsI) Try.func7 rfl (by kernel_rfl) rfl rfl (by decide +kernel) ?_
  rintro ⟨s, p, a, l, ⟨⟩⟩ hv
  obtain ⟨s, rfl⟩ := sys_ex s
  obtain ⟨p, rfl⟩ := vx_ex p
  obtain ⟨a, rfl⟩ := vx_ex a
  obtain ⟨l, rfl⟩ := vx_ex l
  have hu := u8_keeps hv
  clear hv
  unfold FnSat
  conv => arg 2; reduce
  simp [worksS, validS11, boxesS, safeS, partS, runS, hasTS, maxRow, ElEq, aliveB, goneB, getB, and_assoc]
  intro hval hp
  have hc := (validB_iff.1 hval).2
  have hsm := short_max (validB_iff.1 hval).1
  have ck := checkB_iff.1 hc
  have hpm : p.len ≤ maxLen := by unfold maxLen; omega
  obtain ⟨ha, hl, hlm⟩ := hu
  unfold maxLen at hlm
  refine ⟨hsm, hpm, fun hne => ?_, fun he => ?_⟩
  · revert hne
    unfold plE
    rw [if_pos hc]
    split
    · split
      · intro _; exact .inr rfl
      · intro h; exact absurd rfl h
    · intro _; exact .inl rfl
  have h3 := plE_iff.1 he
  have hbn : bxN s p = p.len + 1 := by unfold bxN; rw [if_pos he]
  have hst := nearV_iff.1 ck.2.2.2.2.2.2.2.1
  have hld : ∀ i, i < p.len → (s.ld i).len = s.lim.len ∧ nearV (s.ld i) 10000 = true := fun i hi => ck.2.2.2.2.2.2.2.2.2.1 i (by omega)
  refine ⟨hsm, hpm, fun _ => by omega, he, by omega, fun _ _ => ⟨⟨0, rfl, rfl, fun j => by omega, by omega⟩, fun g hg => ⟨fun hlt => ⟨fun h1 => ?_, fun h1 => ?_⟩, fun hge => ?_⟩⟩⟩
  · have := hst g (by omega)
    exact ⟨h1, by omega, by omega, by omega, by omega, (ha g h1).1, (ha g h1).2, by omega, by omega, by omega, g + 1, by omega, rfl, fun j hj => app_one hj (fun _ => rfl) (fun h => by subst h; unfold ptF; rw [prtV_lt h1]; rfl), by omega, by omega⟩
  · have := hst g (by omega)
    exact ⟨by omega, by omega, by omega, by omega, by omega, by omega, by omega, g + 1, by omega, rfl, fun j hj => app_one hj (fun _ => rfl) (fun h => by subst h; unfold ptF; rw [prtV_ge h1]; rfl), by omega, by omega⟩
  obtain rfl : g = s.lim.len := by omega
  refine ⟨⟨0, by rw [kF_zero]; rfl, rfl, rfl, fun j => by omega, by omega⟩, fun g1 hg1 => ⟨fun hlt => ⟨⟨0, by omega, rfl, rfl, fun j => by omega, by omega⟩, fun j hj => ⟨fun hjl => ?_, fun hjg => ?_⟩⟩, fun hge => ?_⟩⟩
  · have hk := kF_le (n := s.lim.len) (g := g1) (by omega)
    have h4 := hld g1 hlt
    have h5 := nearV_iff.1 h4.2 j (by omega)
    have e : (((kF s.lim.len g1 : Nat) : Int) + (j : Int)).toNat = kF s.lim.len g1 + j := by omega
    rw [e]
    refine ⟨fun h6 => ?_, fun h6 => ?_⟩
    · have h7 := hl (kF s.lim.len g1 + j) (by omega)
      exact ⟨by omega, by omega, by omega, by omega, by omega, by omega, by omega, h7.1, h7.2, by omega, by omega, by omega, by omega, by omega, j + 1, by omega, by omega, rfl, fun i hi => app_one hi (fun _ => rfl) (fun h => by subst h; unfold ldF; rw [prtV_lt (by omega)]; rfl), by omega, by omega⟩
    · exact ⟨by omega, by omega, by omega, by omega, by omega, by omega, by omega, by omega, by omega, by omega, j + 1, by omega, by omega, rfl, fun i hi => app_one hi (fun _ => rfl) (fun h => by subst h; unfold ldF; rw [prtV_ge (by omega)]; rfl), by omega, by omega⟩
  · obtain rfl : j = s.lim.len := by omega
    exact ⟨by omega, by omega, by omega, g1 + 1, by rw [kF_succ]; omega, by omega, rfl, fun i hi => app_one hi (fun _ => rfl) (fun h => by subst h; rfl), by omega, by omega⟩
  obtain rfl : g1 = p.len := by omega
  have hT : ∃ T : Vx, vxOf (s.lim.len, fun k => (ptF s.st a k, PUnit.unit)) = T ∧ T.len = s.lim.len ∧ ∀ k, T.at k = ptF s.st a k := ⟨_, rfl, by simp, fun k => by simp⟩
  obtain ⟨T, hT, hT1, hT2⟩ := hT
  have hL : ∃ L : Rx, rxOf (p.len, fun k => ((s.lim.len, fun k_1 => (ldF s l k k_1, PUnit.unit)), PUnit.unit)) = L ∧ L.len = p.len ∧ (∀ k, (L.row k).len = s.lim.len) ∧ ∀ k j, (L.row k).at j = ldF s l k j := ⟨_, rfl, by simp, fun k => by simp, fun k j => by simp⟩
  obtain ⟨L, hL, hL1, hL2, hL3⟩ := hL
  rw [hT, hL]
  have b1 : bhV s.st T = true := bh_of (by omega) ck.2.2.2.2.2.2.2.1 (by omega) fun k hk => by
    rw [hT2]; unfold ptF
    have h0 := hst k hk
    have hpb := prtV_b ha k
    exact partV_in h0.1 hpb.1 hpb.2
  have b2 : ∀ i, i < L.len → bhV (s.ld i) (L.row i) = true := fun i hi => by
    have h4 := hld i (by omega)
    have h5 := nearV_iff.1 h4.2
    exact bh_of (by rw [hL2]; omega) h4.2 (by omega) fun k hk => by
      rw [hL3]; unfold ldF
      have h0 := h5 k hk
      have hpb := prtV_b hl (kF s.lim.len i + k)
      exact partV_in h0.1 hpb.1 hpb.2
  have r1 : rlB s p T L = true := rlB_iff.2 ⟨hT1, hL1, fun k _ => hL2 k⟩
  have r2 : rgB s T L L.len = true := rgB_iff.2 ⟨b1, b2⟩
  have r3 : rnE s p T L = 0 := rnE_iff.2 ⟨he, r1, r2⟩
  have r4 : rnN s p T L = p.len := by unfold rnN; rw [if_pos r3]
  have r5 : RxMax L := ⟨by omega, fun k _ => by rw [hL2]; omega⟩
  have key : ∀ g, g ≤ p.len → ∀ k, k < s.lim.len → (bxV s p g).lo k ≤ rnV s p T L g k ∧ rnV s p T L g k ≤ (bxV s p g).hi k := by
    intro g
    induction g with
    | zero =>
      intro _ k hk
      rw [bxV_zero, rnV_zero]
      exact bh_in b1 (by omega)
    | succ g ih =>
      intro hg k hk
      have hp2 := h3.2.2 g hg
      have hm : modeB (s.md (p.at g).toNat) (s.lim.len : Int) = true := ck.2.2.2.2.2.2.2.2.2.2 (p.at g).toNat (by omega)
      have h4 := hld g hg
      have h5 := b2 g (by omega)
      rw [bxV_succ, rnV_succ, adV_lo, adV_hi]
      simp only [Int.toNat_natCast]
      exact ⟨nxV_mono hm ck.2.1 (fun j hj => (ih (by omega) j hj).1) (fun j hj => (bh_in h5 (by omega)).1) hk, nxV_mono hm ck.2.1 (fun j hj => (ih (by omega) j hj).2) (fun j hj => (bh_in h5 (by omega)).2) hk⟩
  simp only [r3, r4, hsm, hpm, r5]
  simp
  have bl : ∀ g, (bxV s p g).len = s.lim.len := fun g => by rw [bxV_len]; exact ck.2.2.2.2.2.2.1
  have hlim := nearV_iff.1 ck.2.2.2.2.2.1
  have has : ∀ i, i < p.len → ∀ j, j < s.lim.len → hasT ((bxV s p (i + 1)).lo j) ((bxV s p (i + 1)).hi j) (rnV s p T L (i + 1) j) = true := fun i hi j hj => by
    have h4 := key (i + 1) (by omega) j hj
    have h5 := bxV_near he (g := i + 1) (by omega) j hj
    exact hasT_iff.2 ⟨spanOK_iff.2 (by omega), h4.1, h4.2⟩
  have has2 : sfB s p = true → ∀ i, i < p.len → ∀ j, j < s.lim.len → hasT (s.lim.lo j) (s.lim.hi j) (rnV s p T L (i + 1) j) = true := fun hs i hi j hj => by
    have h4 := key (i + 1) (by omega) j hj
    have h5 := inV_iff.1 (safe_in hs (g := i + 1) (by omega)) j (by rw [bl]; exact hj)
    have h6 := hlim j hj
    exact hasT_iff.2 ⟨spanOK_iff.2 (by omega), by omega, by omega⟩
  refine ⟨by omega, ⟨0, rfl, by omega⟩, fun i _ hi => ⟨hi, ⟨by omega, by omega⟩, ⟨by omega, by omega⟩, by rw [bl], fun _ => ⟨⟨0, rfl, by omega⟩, fun j hj => ⟨fun hjl => ?_, fun hjg => ⟨by omega, by omega, i + 1, by omega, by omega, by omega⟩⟩⟩⟩⟩
  have q1 := has i hi j hjl
  have q2 := fun hs => has2 hs i hi j hjl
  exact ⟨by omega, by omega, by omega, by omega, by rw [bl]; exact hjl, hi, hjl, fun _ _ => hjl, fun _ _ => hi, fun _ _ => hjl, fun _ hs => ⟨q1, hs⟩, q1, q2, fun _ _ => ⟨by omega, by omega, j + 1, by omega, by omega, by omega⟩⟩
end Abs
open Go.ChangeShapes Go.WideShapes Go.ChangeAt Go.RowKit
set_option maxRecDepth 100000 in
theorem thermalKeeps_lifted (os : Os) (started : os.Started) (H : Type) (enc : TypeId × Value → H) :
    ReturnsInHanded {} Try.checked os 7 .any (Rows.thermalKeepsSpec.pre6 enc Try.prog Try.f7 Rows.thermalKeepsRow.domain false) (Rows.thermalKeepsSpec.post enc Try.prog Try.f7 false true false false) := by
  refine returnsInHanded_of_change (C := Try.checked) (show ownKnob Try.prog.godebug = none by kernel_rfl) started (by kernel_rfl) Try.func7
    (ChangeSpec.witness6 (enc := enc) (C := Try.checked) false ⟨#[], #[.agg #[.slice none 0 0, .slice none 0 0, .slice none 0 0, .slice none 0 0], .slice none 0 0, .slice none 0 0, .slice none 0 0], []⟩ 8 (by kernel_rfl) (by kernel_rfl) (by kernel_rfl) (by kernel_rfl)) ?_
  intro W base args ds gs before hval0 hW hcnd _
  have hW0 := hW
  obtain ⟨p, q, hA, hV, rfl, hfz, hnd⟩ := hW0
  refine (Abs.law_calls (enc' := enc) Abs.thermalKeeps_law (fn := Try.f7) (d := 6) (by kernel_rfl) hA hval0).mono fun e W' hh => ?_
  obtain ⟨he, hb⟩ := hh
  subst he
  exact ⟨_, rfl, Abs.law_post (s := Rows.thermalKeepsSpec) (f := Try.f7) (by kernel_rfl) rfl (by kernel_rfl) (by kernel_rfl) rfl 4 (by kernel_rfl) (fun ds hl => by
    rcases ds with _ | ⟨d0, _ | ⟨d1, _ | ⟨d2, _ | ⟨d3, _ | ⟨d4, _⟩⟩⟩⟩⟩
    all_goals first | exact ⟨rfl, rfl, rfl⟩ | (exfalso; simp only [List.length_cons, List.length_nil] at hl; omega)) hW hb⟩
theorem thermalKeeps_holds : Rows.ThermalKeepsSaid :=
  OpenClaim.holds_of_wide 7 Try.f7 rfl rfl rfl rfl rfl rfl rfl ⟨rfl, rfl, rfl, rfl, rfl⟩ rfl rfl rfl rfl rfl (by kernel_rfl) Try.func7 (by kernel_rfl)
    (of_decide_eq_true (by kernel_rfl)) (by unfold Func.isWrapper; first | (rw [if_pos (by decide +kernel)]; kernel_rfl) | (rw [if_neg (by decide +kernel)]; exact ⟨rfl, rfl⟩))
    (fun os started H enc _ => thermalKeeps_lifted os started H enc)
end Go.Proofs.Ytjblicdceafcpaa
