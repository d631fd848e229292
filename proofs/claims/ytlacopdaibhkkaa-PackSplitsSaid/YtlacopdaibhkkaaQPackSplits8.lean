/- The currents of a split have the sum, the voltages of the cells are near that of the group, and for a greater current no cell gets less; for all packs, states, groups and currents; no condition. -/
import Derived.Test.YtlacopdaibhkkaaQG2b60b94d
import Derived.Test.YtlacopdaibhkkaaRows
set_option linter.unusedSimpArgs false
set_option linter.unusedVariables false
namespace Go.Proofs.Ytlacopdaibhkkaa
namespace Abs
open Go Go.RowKit
attribute [local irreducible] FnSat
noncomputable section
def plsI : DatL [pkSh, sxSh, .int .i64, .int .i64, .int .u16] -> Anns := fun (p, s, (g : Int), (i : Int), (more : Int), _) => [
 (9, [], fun fr hp => ⟨Nat, fun k => ⟨frI [.k 17, .s (.si .i64 (sumN (splO (pkOf p) (sxOf s) g i) k)), .s (.si .i64 (icast k)), .t 6, .k 33, .t 125] fr, hp⟩, Nat × Nat, fun k => (k, (pkOf p).sz (nat g)), fun (k, n) => k <= n, fun k => nsub 5 k⟩),
 (26, [], fun fr hp => ⟨Nat, fun k => ⟨frI [.k 27, .s (.si .i64 (icast k)), .k 134, .t 21] fr, hp⟩, Nat × Nat, fun k => (k, (pkOf p).sz (nat g)), fun (k, n) => k <= n, fun k => nsub 5 k⟩)]
end
set_option maxRecDepth 100000 in
set_option maxHeartbeats 2000000 in
theorem packSplits_law : LawFn Try.prog 4 [pkSh, sxSh, .int .i64, .int .i64, .int .u16] := by
 refine FnSpec.of HY5_ok mixed (U := 0) (I := plsI) Try.func4 rfl (by kernel_rfl) rfl rfl (by decide +kernel) ?_
 rintro ⟨p, s, (g : Int), (i : Int), (more : Int), ⟨⟩⟩ hv
 obtain ⟨p, rfl⟩ := pk_ex p
 obtain ⟨s, rfl⟩ := sx_ex s
 unfold FnSat
 conv => arg 2; reduce
 simp [truS, grS, splS, splR, opnS, rsiS, ElEq, getB, goneB, aliveB, and_assoc]
 intro hgr
 obtain ⟨gr1, gr2, hP, _⟩ := grB_f hgr
 refine ⟨hP, fun _ => hP, fun h0 => ?_⟩
 obtain ⟨hss, ⟨⟨g0, g1⟩, i0, i1⟩, hx⟩ := splE_0.1 h0
 have S := ssOK hss
 have hl := S.l
 have hgl : g.toNat < p.len := by omega
 have hm := S.m _ hgl
 have hO := S.src hgl
 have K := shOK hO hm.1.1 i0 i1
 have hN : splN p s g i = p.sz g.toNat := by unfold splN; rw [okN_0 h0]
 have hV : splV p s g i = shV (sA (p.at g.toNat) (s.at g.toNat)) (sR (p.at g.toNat) (s.at g.toNat)) (p.sz g.toNat) i := by unfold splV; rw [okI_0 h0, plV_eq]
 have hXo : plO p s g.toNat i = splO p s g i := by funext k; unfold splO; rfl
 have hX : splO p s g i = shO (sA (p.at g.toNat) (s.at g.toNat)) (sR (p.at g.toNat) (s.at g.toNat)) (p.sz g.toNat) i := by funext k; rw [<- plO_eq, hXo]
 rw [hXo] at hx
 have hsum := shO_sum hO K
 have hvol := fun k hk => shO_volts hO K (k := k) hk
 have hCS := S.c _ hgl
 have hA : ∀ k, k < p.sz g.toNat -> aV (p.at g.toNat k) (s.at g.toNat k) (opnV (p.at g.toNat k) (s.at g.toNat k)) - (s.at g.toNat k).rx = sA (p.at g.toNat) (s.at g.toNat) k := fun k hk => by rw [aV_yes (csE_iff.2 (hCS k hk)), sA_eq]
 have hR : ∀ k, k < p.sz g.toNat -> max 1 (aV (p.at g.toNat k) (s.at g.toNat k) (rV (p.at g.toNat k) (s.at g.toNat k))) = sR (p.at g.toNat) (s.at g.toNat) k := fun k hk => by rw [aV_yes (csE_iff.2 (hCS k hk)), sR_eq]
 have hcm : ∀ k, k < p.sz g.toNat -> CelMax (p.at g.toNat k) := fun k hk => (celB_iff.1 (hCS k hk).1).max
 have hO0 := hO.a0
 have hO1 := hO.r0
 rw [<- hX] at hsum hvol
 rw [<- hV] at hvol
 have hVb : -1099511627776 <= splV p s g i /\ splV p s g i <= 1099511627776 := by rw [hV]; exact ⟨by have := K.lo; omega, K.hi⟩
 have hsb := fun k (hk : k <= p.sz g.toNat) => sumN_in (c := splO p s g i) (M := 1048576) (n := k) fun j hj => hx j (by omega)
 rw [hN]
 refine ⟨⟨0, by simp, rfl, by omega⟩, fun k hk => ⟨fun hlt => ?_, fun hge => ?_⟩⟩
 ·rw [hA k hlt, hR k hlt]
  have ha := hO0 k hlt
  have hr := hO1 k hlt
  have hv2 := hvol k hlt
  have hx2 := hx k hlt
  have hc := hcm k hlt
  have hs2 := hsb k hk
  have hs3 := sumN_succ (splO p s g i) k
  generalize splO p s g i k = O at *
  generalize sA (p.at g.toNat) (s.at g.toNat) k = A at *
  generalize sR (p.at g.toNat) (s.at g.toNat) k = R at *
  generalize splV p s g i = V at *
  have hOR : -1099511627776 <= O * R /\ O * R <= 1099511627776 := by
   have m1 := Int.mul_le_mul_of_nonneg_right hx2.1 (show 0 <= R by omega)
   have m2 := Int.mul_le_mul_of_nonneg_right hx2.2 (show 0 <= R by omega)
   omega
  generalize O * R = OR at *
  exact ⟨g0, g1, hlt, fun _ => ⟨g0, g1, hlt, g0, by omega, by omega, hc, g0, by omega, by omega, hc, g0, by omega, by omega, by omega, by omega, by omega, by omega, hlt, by omega, by omega, by omega, by omega, by omega, by omega, by omega, by omega, fun _ => by omega, fun _ => by omega, by omega, by omega, fun _ _ => ⟨hlt, by omega, by omega, by omega, by omega, k + 1, hs3.symm, by omega, by omega, by omega⟩⟩⟩
 ·obtain rfl : k = p.sz g.toNat := by omega
  have hmr : 0 <= more /\ more <= 65535 := by
   have h : InR .u16 more := hv.2.2.2.2.1
   unfold InR at h
   simpa [IntKind.min, IntKind.max, IntKind.signed, IntKind.bits] using h
  refine ⟨by omega, by omega, by omega, by omega, hP, fun h1 => ?_, fun _ => hsum⟩
  obtain ⟨_, ⟨_, j0, j1⟩, _⟩ := splE_0.1 h1
  have L := shOK hO hm.1.1 j0 j1
  have hN1 : splN p s g (i + more) = p.sz g.toNat := by unfold splN; rw [okN_0 h1]
  have hX1 : splO p s g (i + more) = shO (sA (p.at g.toNat) (s.at g.toNat)) (sR (p.at g.toNat) (s.at g.toNat)) (p.sz g.toNat) (i + more) := by funext k; rw [<- plO_eq]; unfold splO; rfl
  have hmo := fun k hk => shO_mono hO K L (show i <= i + more by omega) (k := k) hk
  rw [<- hX, <- hX1] at hmo
  rw [hN1]
  exact ⟨rfl, fun _ => ⟨⟨0, rfl, by omega⟩, fun q hq => ⟨fun hlt => ⟨hlt, hlt, hmo q hlt, fun _ => ⟨by omega, by omega, q + 1, by omega, by omega, by omega⟩⟩, fun _ => hsum⟩⟩⟩
end Abs
open Go.ChangeShapes Go.WideShapes Go.ChangeAt Go.RowKit
set_option maxRecDepth 100000 in
theorem packSplits_lifted (os : Os) (started : os.Started) (H : Type) (enc : TypeId × Value -> H) :
  ReturnsInHanded {} Try.checked os 4 .any (Rows.packSplitsSpec.pre6 enc Try.prog Try.f4 Rows.packSplitsRow.domain false) (Rows.packSplitsSpec.post enc Try.prog Try.f4 false true false false) := by
 refine returnsInHanded_of_change (C := Try.checked) (show ownKnob Try.prog.godebug = none by kernel_rfl) started (by kernel_rfl) Try.func4
  (ChangeSpec.witness6 (enc := enc) (C := Try.checked) false ⟨#[], #[.agg #[.slice none 0 0], .slice none 0 0, .int .i64 0, .int .i64 0, .int .u16 0], []⟩ 8 (by kernel_rfl) (by kernel_rfl) (by kernel_rfl) (by kernel_rfl)) ?_
 intro W base args ds gs before hval0 hW hcnd _
 have hW0 := hW
 obtain ⟨p, q, hA, hV, rfl, hfz, hnd⟩ := hW0
 refine (Abs.law_calls (enc' := enc) Abs.packSplits_law (fn := Try.f4) (d := 8) (by kernel_rfl) hA hval0).mono fun e W' hh => ?_
 obtain ⟨he, hb⟩ := hh
 subst he
 exact ⟨_, rfl, Abs.law_post (s := Rows.packSplitsSpec) (f := Try.f4) (by kernel_rfl) rfl (by kernel_rfl) (by kernel_rfl) rfl 5 (by kernel_rfl) (fun ds hl => by
  rcases ds with _ | ⟨d0, _ | ⟨d1, _ | ⟨d2, _ | ⟨d3, _ | ⟨d4, _ | ⟨d5, _⟩⟩⟩⟩⟩⟩
  all_goals first | exact ⟨rfl, rfl, rfl⟩ | (exfalso; simp only [List.length_cons, List.length_nil] at hl; omega)) hW hb⟩
theorem packSplits_holds : Rows.PackSplitsSaid :=
 OpenClaim.holds_of_wide 4 Try.f4 rfl rfl rfl rfl rfl rfl rfl ⟨rfl, rfl, rfl, rfl, rfl⟩ rfl rfl rfl rfl rfl (by kernel_rfl) Try.func4 (by kernel_rfl)
  (of_decide_eq_true (by kernel_rfl)) (by unfold Func.isWrapper; first | (rw [if_pos (by decide +kernel)]; kernel_rfl) | (rw [if_neg (by decide +kernel)]; exact ⟨rfl, rfl⟩))
  (fun os started H enc _ => packSplits_lifted os started H enc)
end Go.Proofs.Ytlacopdaibhkkaa
