/- A safe current of a pack is what the definition says; the greatest safe one is found, and a step at it keeps every cell within its limits; for all packs, states, limits and inputs; no condition. -/
import Derived.Test.YtlacopdaibhkkaaGreatQG555d43c7
import Derived.Test.YtlacopdaibhkkaaGreatRows
set_option linter.unusedSimpArgs false
set_option linter.unusedVariables false
namespace Go.Proofs.YtlacopdaibhkkaaGreat
namespace Abs
open Go Go.RowKit
attribute [local irreducible] FnSat
noncomputable section
noncomputable def HL0 : Sums := ⟨(26, mkSum _ capS) :: (25, mkSum _ volS) :: HK6.one, HK6.two, HK6.lo, HK6.eqs, HK6.its, HK6.imm⟩
theorem HL0_ok : SumsOK Tryz.prog HL0 := ((HK6_ok.cons Tryz.func25 (by kernel_rfl) (by kernel_rfl) rvol_ok).cons Tryz.func26 (by kernel_rfl) (by kernel_rfl) rcpt_ok)
def psfLI : DatL [pkSh, sxSh, limSh, inSh] -> Anns := fun (p, s, ((l : Int), (m : Int), (o : Int), (n : Int), (h : Int), _), ((_ : Int), (a : Int), _), _) => [
 (19, [], fun fr hp => ⟨Nat, fun g => ⟨frI [.k 16, .s (.si .i64 (icast g)), .t 10, .k 78, .t 132] fr, hp⟩, Nat × Nat, fun g => (g, okN (stxE (pkOf p) (sxOf s) (mxV (pkOf p) (sxOf s) l m o n h a) a) (pkOf p).len), fun (g, n) => g <= n, fun g => nsub 17 g⟩),
 (25, [], fun fr hp => ⟨Nat, fun k => ⟨frI [.k 20, .s (.si .i64 (icast k)), .t 6, .k 105, .t 105] fr, hp⟩, Nat × Nat, fun k => (k, splN (pkOf p) (sxOf s) (icast (nat (intOf (getL fr 16)))) (mxV (pkOf p) (sxOf s) l m o n h a)), fun (k, n) => k <= n, fun k => nsub 5 k⟩)]
theorem mx_fin {p : Pk} {s : Sx} {l m o n h a : Int} (h0 : mxE p s l m o n h a = 0) : ssE p s = 0 /\ (0 <= a /\ a <= 400000) /\ (-1048576 <= mxV p s l m o n h a /\ mxV p s l m o n h a <= 1048576) /\ ∀ g, g < p.len -> ∀ k, k < p.sz g -> (-1048576 <= swO (wOf p s) (mxV p s l m o n h a) g k /\ swO (wOf p s) (mxV p s l m o n h a) g k <= 1048576) /\ csfB (p.at g k) (s.at g k) l m h a (swO (wOf p s) (mxV p s l m o n h a) g k) = true := by
 have hs : ssE p s = 0 := by
  apply Classical.byContradiction
  intro hn
  rw [mxE_e hn] at h0; exact hn h0
 have hb : limB l m o n h = true := by
  cases hb : limB l m o n h with
  | true => rfl
  | false => rw [mxE_2 hs hb] at h0; omega
 have ha : ¬ (a < 0 \/ 400000 < a) := fun ha => by rw [mxE_3 hs hb ha] at h0; omega
 have hE := mxE_n hs hb ha
 rw [mxV_0 h0]
 rw [h0] at hE
 have ht : t1A (wOf p s) (bOf p s l m h a) 0 = true /\ t2A (wOf p s) (bOf p s l m h a) (grI (t1A (wOf p s) (bOf p s l m h a)) o) = true := by
  apply Classical.byContradiction
  intro hn
  rw [if_neg hn] at hE; omega
 have hl := limB_iff.1 hb
 have S := ssOK hs
 obtain ⟨x0, x1, ht1, _⟩ := grI_spec (t1_mono (b := bOf p s l m h a) S.w (o := o) (by omega) (by omega) ht.1)
 generalize grI (t1A (wOf p s) (bOf p s l m h a)) o = x at *
 have hr := (rsf_t2 (n := n) (o := o) S ht1 x0 x1 (by omega)).2 ht.2
 have hok : gokA (wOf p s) x p.len = true := by
  cases hh : gokA (wOf p s) x p.len with
  | true => rfl
  | false => rw [rsfV_2 hh] at hr; cases hr
 rw [rsfV_3 (by omega) x1 hok, alB_t] at hr
 refine ⟨hs, by omega, by omega, fun g hg k hk => ⟨gok_t hok g hg k (by rw [wOf_m]; exact hk), ?_⟩⟩
 have hA := hr g hg
 rw [cgA_eq, alB_t] at hA
 have hB := hA k hk
 rwa [cgB_eq] at hB
theorem st_fin {p : Pk} {s : Sx} {x a : Int} (hs : ssE p s = 0) (ha : 0 <= a /\ a <= 400000) (hx : -1048576 <= x /\ x <= 1048576) (hc : ∀ g, g < p.len -> ∀ k, k < p.sz g -> -1048576 <= swO (wOf p s) x g k /\ swO (wOf p s) x g k <= 1048576) (h4 : stxE p s x a ≠ 4) : stxE p s x a = 0 /\ ∀ g, g < p.len -> ∀ k, k < p.sz g -> stAE (p.at g k) (s.at g k) (swO (wOf p s) x g k) a = 0 := by
 have S := ssOK hs
 have hok : gokA (wOf p s) x p.len = true := gok_of fun g hg k hk => hc g hg k (by rwa [wOf_m] at hk)
 have hcu : cuE (wOf p s) x a = 0 := cuE_iff.2 ⟨⟨hx, ha⟩, by rw [wOf_n]; exact hok⟩
 have hE := stxE_n (a := a) hs hcu
 have c04 : ∀ g, g < p.len -> ∀ k, k < p.sz g -> ceE p s x a g k = 0 \/ ceE p s x a g k = 4 := fun g hg k hk => by
  have hcs : csE (p.at g k) (s.at g k) = 0 := csE_iff.2 (S.c g hg k hk)
  rw [ceE_eq]
  have h1 := stA_iff (i := swO (wOf p s) x g k) (a := a) hcs
  rcases h1.2 with h2 | h2 | h2
  ·exact .inl h2
  ·exfalso
   unfold stAE at h2
   rw [aE_yes hcs] at h2
   unfold stpE at h2
   rw [if_pos (inB_iff.2 ⟨hc g hg k hk, ha⟩)] at h2
   split at h2 <;> omega
  ·exact .inr h2
 have g04 : ∀ g, g < p.len -> geE p s x a g = 0 \/ geE p s x a g = 4 := fun g hg => by
  rw [geE_eq]
  by_cases h : ferE (ceE p s x a g) (p.sz g) = 0
  ·exact .inl h
  ·have hle := firstN_le (ferB (ceE p s x a g)) (p.sz g)
   unfold ferE at h ⊢
   split at h
   ·rename_i hf
    rw [if_pos hf]
    exact c04 g hg _ hf
   ·exact absurd rfl h
 have f04 : ferE (geE p s x a) p.len = 0 \/ ferE (geE p s x a) p.len = 4 := by
  by_cases h : ferE (geE p s x a) p.len = 0
  ·exact .inl h
  ·unfold ferE at h ⊢
   split at h
   ·rename_i hf
    rw [if_pos hf]
    exact g04 _ hf
   ·exact absurd rfl h
 have h0 : stxE p s x a = 0 := by
  rw [hE] at h4 ⊢
  rcases f04 with h | h
  ·exact h
  ·exact absurd h h4
 refine ⟨h0, fun g hg k hk => ?_⟩
 rw [hE] at h0
 have hg0 := ferE_0.1 h0 g hg
 rw [geE_eq] at hg0
 have hc0 := ferE_0.1 hg0 k hk
 rwa [ceE_eq] at hc0
end
set_option maxRecDepth 100000 in
set_option maxHeartbeats 4000000 in
theorem packSafe_law : LawFn Tryz.prog 4 [pkSh, sxSh, limSh, inSh] := by
 refine FnSpec.of HL0_ok mixed (U := 0) (I := psfLI) Tryz.func4 rfl (by kernel_rfl) rfl rfl (by decide +kernel) ?_
 rintro ⟨p, s, ⟨(l : Int), (m : Int), (o : Int), (n : Int), (h : Int), ⟨⟩⟩, ⟨(i : Int), (a : Int), ⟨⟩⟩, ⟨⟩⟩ hv
 obtain ⟨p, rfl⟩ := pk_ex p
 obtain ⟨s, rfl⟩ := sx_ex s
 unfold FnSat
 conv => arg 2; reduce
 simp [-Bool.forall_bool, truS, grS, sfS, mxS, stxS, splS, splR, volS, capS, ElEq, getB, goneB, aliveB, and_assoc]
 intro hg _
 obtain ⟨g1, g2, hP, g3, g4⟩ := grB_f hg
 refine ⟨hP, fun h0 => ⟨hP, fun h4 => ?_⟩⟩
 obtain ⟨hs, ha, hx, hc⟩ := mx_fin h0
 have S := ssOK hs
 have n16 := S.n
 have hl := S.l
 generalize mxV p s l m o n h a = x at *
 obtain ⟨e0, hst⟩ := st_fin hs ha hx (fun g hg k hk => (hc g hg k hk).1) h4
 rw [e0, okN_0 rfl]
 have hpl : ∀ g k, plO p s g x k = swO (wOf p s) x g k := fun g k => by rw [plO_eq, swO_eq, wOf_a, wOf_r, wOf_m]
 have hsp : ∀ g : Nat, g < p.len -> splE p s g x = 0 := fun g hg => splE_0.2 ⟨hs, ⟨by omega, hx⟩, fun k hk => by rw [hpl]; exact (hc g hg k hk).1⟩
 refine ⟨rfl, fun _ => ⟨⟨0, rfl, by omega⟩, fun g hg hlt => ?_⟩⟩
 have hm := S.m g hlt
 have hN : splN p s g x = p.sz g := by unfold splN; rw [hsp g hlt, okN_0 rfl]; rfl
 rw [hN]
 refine ⟨hP, fun _ => hlt, hsp g hlt, rfl, fun _ _ => ⟨⟨0, rfl, by omega⟩, fun k hk => ⟨fun hkl => ?_, fun hge => ⟨by omega, by omega, g + 1, by omega, by omega, by omega⟩⟩⟩⟩
 have hcc := S.c g hlt k hkl
 have hcs : csE (p.at g k) (s.at g k) = 0 := csE_iff.2 hcc
 have hO : splO p s g x k = swO (wOf p s) x g k := by unfold splO; exact hpl g k
 obtain ⟨hy, hcf⟩ := hc g hlt k hkl
 have hS0 := hst g hlt k hkl
 have hT : (stxN p s x a).at g k = ⟨nxQ (p.at g k) (s.at g k) (swO (wOf p s) x g k), nxR (p.at g k) (s.at g k) (swO (wOf p s) x g k), nxT (p.at g k) (s.at g k) (swO (wOf p s) x g k) a, nxH (s.at g k) (swO (wOf p s) x g k), nxA (p.at g k) (s.at g k)⟩ := by rw [stxN_at, stA_0 hcs hS0]
 have hT2 : csE (p.at g k) ((stxN p s x a).at g k) = 0 := by rw [stxN_at]; exact csE_iff.2 ⟨hcc.1, (stA_ok hcs hS0).1⟩
 have hK : aV (p.at g k) ((stxN p s x a).at g k) (kV (p.at g k) ((stxN p s x a).at g k)) = roomV (p.at g k) (wearV (p.at g k) (nxH (s.at g k) (swO (wOf p s) x g k)) (nxA (p.at g k) (s.at g k))) := by
  rw [aV_yes hT2, hT]
  unfold kV wV
  rw [Sta.th_mk, Sta.ag_mk]
 have hT3 : ((stxN p s x a).at g k).tp = nxT (p.at g k) (s.at g k) (swO (wOf p s) x g k) a := by rw [hT, Sta.tp_mk]
 have hV : aV (p.at g k) (s.at g k) (wiV (swO (wOf p s) x g k) (voltV (p.at g k) (s.at g k) (swO (wOf p s) x g k))) = voltV (p.at g k) (s.at g k) (swO (wOf p s) x g k) := by
  rw [aV_yes hcs]; unfold wiV; rw [if_pos (curI_iff.2 hy)]
 rw [hO, hK, hT3, hV]
 have k0 := (celB_iff.1 hcc.1).lk0
 have k1 := (celB_iff.1 hcc.1).lk1
 have q0 := hcc.2.q0
 have hcc1 := celB_iff.1 hcc.1
 have hw2 := wearV_in (show WearOK (p.at g k) (s.at g k).th (s.at g k).ag from ⟨hcc1.cy0, hcc1.cy1, hcc1.al0, hcc1.al1, hcc.2.h0, by have := hcc.2.h1; omega, hcc.2.a0, by have := hcc.2.a1; omega⟩)
 have hr := (roomV_in (c := p.at g k) (w := wearV (p.at g k) (s.at g k).th (s.at g k).ag)).2 hw2.1 hcc1.cap0
 have q1 := hcc.2.q1
 have q2 := hcc1.cap1
 have hCM := hP g hlt k hkl
 have F : (0 <= swO (wOf p s) x g k -> l <= voltV (p.at g k) (s.at g k) (swO (wOf p s) x g k) /\ swO (wOf p s) x g k + (p.at g k).leak <= (s.at g k).q) /\ (swO (wOf p s) x g k < 0 -> voltV (p.at g k) (s.at g k) (swO (wOf p s) x g k) <= m /\ (s.at g k).q - swO (wOf p s) x g k - (p.at g k).leak <= roomV (p.at g k) (wearV (p.at g k) (nxH (s.at g k) (swO (wOf p s) x g k)) (nxA (p.at g k) (s.at g k)))) /\ nxT (p.at g k) (s.at g k) (swO (wOf p s) x g k) a <= h := by
  by_cases hz : 0 <= swO (wOf p s) x g k
  ·rw [csfB_p hz] at hcf
   have := outP_iff.1 hcf
   exact ⟨fun _ => ⟨this.1, this.2.1⟩, fun hh => by omega, this.2.2⟩
  ·rw [csfB_n (by omega)] at hcf
   have := inP_iff.1 hcf
   rw [Int.neg_neg] at this
   exact ⟨fun hh => absurd hh hz, fun _ => ⟨this.1, by omega⟩, this.2.1⟩
 generalize roomV (p.at g k) (wearV (p.at g k) (nxH (s.at g k) (swO (wOf p s) x g k)) (nxA (p.at g k) (s.at g k))) = K at *
 generalize nxT (p.at g k) (s.at g k) (swO (wOf p s) x g k) a = T at *
 generalize voltV (p.at g k) (s.at g k) (swO (wOf p s) x g k) = V at *
 generalize swO (wOf p s) x g k = y at *
 clear hT hT2 hK hT3 hV hS0 hcs hcf
 obtain ⟨F1, F2, F3⟩ := F
 refine ⟨hlt, hkl, by omega, by omega, hkl, hCM, hlt, hkl, hCM, by omega, by omega, hkl, by omega, by omega, by omega, by omega, hlt, hkl, ?_⟩
 refine ⟨fun _ => hkl, fun a b c => ⟨a, b, c⟩, fun a b => ⟨a, b⟩, fun _ _ => hkl, fun a b c d => ⟨a, b, c, d⟩, ?_⟩
 repeat' apply And.intro
 all_goals intros
 case right.right.right.right.right => exact ⟨by omega, by omega, k + 1, by omega, by omega, by omega⟩
 all_goals omega
end Abs
open Go.ChangeShapes Go.WideShapes Go.ChangeAt Go.RowKit
set_option maxRecDepth 100000 in
theorem packSafe_lifted (os : Os) (started : os.Started) (H : Type) (enc : TypeId × Value -> H) :
  ReturnsInHanded {} Tryz.checked os 4 .any (Rows.packSafeSpec.pre6 enc Tryz.prog Tryz.f4 Rows.packSafeRow.domain false) (Rows.packSafeSpec.post enc Tryz.prog Tryz.f4 false true false false) := by
 refine returnsInHanded_of_change (C := Tryz.checked) (show ownKnob Tryz.prog.godebug = none by kernel_rfl) started (by kernel_rfl) Tryz.func4
  (ChangeSpec.witness6 (enc := enc) (C := Tryz.checked) false ⟨#[], #[.agg #[.slice none 0 0], .slice none 0 0, .agg #[.int .i64 0, .int .i64 0, .int .i64 0, .int .i64 0, .int .i64 0], .agg #[.int .i64 0, .int .i64 0]], []⟩ 8 (by kernel_rfl) (by kernel_rfl) (by kernel_rfl) (by kernel_rfl)) ?_
 intro W base args ds gs before hval0 hW hcnd _
 have hW0 := hW
 obtain ⟨p, q, hA, hV, rfl, hfz, hnd⟩ := hW0
 refine (Abs.law_calls (enc' := enc) Abs.packSafe_law (fn := Tryz.f4) (d := 8) (by kernel_rfl) hA hval0).mono fun e W' hh => ?_
 obtain ⟨he, hb⟩ := hh
 subst he
 exact ⟨_, rfl, Abs.law_post (s := Rows.packSafeSpec) (f := Tryz.f4) (by kernel_rfl) rfl (by kernel_rfl) (by kernel_rfl) rfl 4 (by kernel_rfl) (fun ds hl => by
  rcases ds with _ | ⟨d0, _ | ⟨d1, _ | ⟨d2, _ | ⟨d3, _ | ⟨d4, _⟩⟩⟩⟩⟩
  all_goals first | exact ⟨rfl, rfl, rfl⟩ | (exfalso; simp only [List.length_cons, List.length_nil] at hl; omega)) hW hb⟩
theorem packSafe_holds : Rows.PackSafeSaid :=
 OpenClaim.holds_of_wide 4 Tryz.f4 rfl rfl rfl rfl rfl rfl rfl ⟨rfl, rfl, rfl, rfl, rfl⟩ rfl rfl rfl rfl rfl (by kernel_rfl) Tryz.func4 (by kernel_rfl)
  (of_decide_eq_true (by kernel_rfl)) (by unfold Func.isWrapper; first | (rw [if_pos (by decide +kernel)]; kernel_rfl) | (rw [if_neg (by decide +kernel)]; exact ⟨rfl, rfl⟩))
  (fun os started H enc _ => packSafe_lifted os started H enc)
end Go.Proofs.YtlacopdaibhkkaaGreat
