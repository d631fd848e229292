/- Law: no safe plan costs less than the one that is returned, nor comes before it with the same cost. -/
import Derived.Test.YtdfdjlijghjdaaaQGc320eefc
import Derived.Test.YtdfdjlijghjdaaaRows
set_option linter.unusedSimpArgs false
set_option linter.unusedVariables false
namespace Go.Proofs.Ytdfdjlijghjdaaa
namespace Abs
open Go Go.RowKit
theorem vx_pl' (s : Sys) : vxOf (plnN s, fun k => ((plF s k : Int), ())) = plW s := by unfold vxOf plW; rfl
theorem least_dig {s : Sys} (hm : SysMax s) (he : exE s = 0) (hE : plnE s = 0 \/ plnE s = 18) {k d : Nat} :
  plE s (vxOf (s.nld, fun i => (dgJ s.nmd k s.nld d i, ()))) = 0 /\ (sfB s (vxOf (s.nld, fun i => (dgJ s.nmd k s.nld d i, ()))) = true ->
   plnE s = 0 /\ plnC s <= csV s (vxOf (s.nld, fun i => (dgJ s.nmd k s.nld d i, ()))) /\ (csV s (vxOf (s.nld, fun i => (dgJ s.nmd k s.nld d i, ()))) = plnC s -> (befB s.nld (fun i => dgJ s.nmd k s.nld d i) fun i => (plF s i : Int)) = false)) := by
 have gr := grV_ok he
 have c1 := checkB_iff.1 gr.ch
 have hl : (vxOf (s.nld, fun i => (dgJ s.nmd k s.nld d i, ()))).len = s.nld := vxOf_len _ _
 have ha : ∀ i, (vxOf (s.nld, fun i => (dgJ s.nmd k s.nld d i, ()))).at i = dgJ s.nmd k s.nld d i := fun i => vxOf_at _ _ i
 generalize vxOf (s.nld, fun i => (dgJ s.nmd k s.nld d i, ())) = W at *
 have hp : plE s W = 0 := plE_iff.2 ⟨gr.ch, hl, fun i hi => by rw [ha]; exact dgJ_b (by omega)⟩
 refine ⟨hp, fun hs => ?_⟩
 obtain ⟨h1, h2⟩ := sf_least he hs
 have e0 := plnE_ok he (Int.ne_of_lt h2)
 have hcs : csV s W = costN s W s.nld := by unfold csV; rw [if_pos hp, hl]
 refine ⟨e0, by rw [plnC_ok e0, hcs]; exact h1, fun hc => ?_⟩
 rw [hcs, plnC_ok e0] at hc
 cases hb : befB s.nld (fun i => dgJ s.nmd k s.nld d i) fun i => (plF s i : Int) with
 | false => rfl
 | true =>
   obtain ⟨b1, b2⟩ := befB_iff.1 hb
   have := plW_first he hs hc b1 fun j hj => by rw [ha, plW_at]; exact difN_lt hj
   rw [ha, plW_at] at this
   exact absurd b2 (by omega)
noncomputable def leastI : DatL [sysSh] -> Anns := fun (s, _) => [
 (15, [], fun fr hp => ⟨Nat, fun i => ⟨frI [.k 11, .s (.si .i64 (icast (pwN (sysOf s).nmd i))), .s (.si .i64 (icast i)), .t 165] fr, hp⟩, Nat × Nat, fun i => (i, (sysOf s).nld), fun (i, n) => i <= n, fun i => nsub (sysOf s).nld i⟩),
 (19, [], fun fr hp => ⟨Nat, fun k => ⟨frI [.k 13, .s (.si .i64 (icast k)), .t 164] fr, hp⟩, Nat × Nat, fun k => (k, pwN (sysOf s).nmd (sysOf s).nld), fun (k, n) => k <= n, fun k => nsub (pwN (sysOf s).nmd (sysOf s).nld) k⟩),
 (24, [], fun fr hp => ⟨Nat, fun d => ⟨frI [.k 15, .s (.si .i64 (icast (qtN (sysOf s).nmd (nat (intOf (getL fr 13))) d))), .s (.si .i64 (isub (isub (icast (sysOf s).nld) 1) (icast d))), .t 161] fr,
   setB hp 1 (.row 3 1 (.sym (sysOf s).nld) (fun i => [.si .i64 (dgJ (sysOf s).nmd (nat (intOf (getL fr 13))) (sysOf s).nld d i)]))⟩,
  Nat × Nat, fun d => (d, (sysOf s).nld), fun (d, n) => d <= n, fun d => nsub (sysOf s).nld d⟩)]
set_option maxRecDepth 100000 in
set_option maxHeartbeats 8000000 in
theorem thermalLeast_law : LawFn Try.prog 4 [sysSh] := by
 refine FnSpec.of SYv0_ok mixed (U := 0) (I := leastI) Try.func4 rfl (by kernel_rfl) rfl rfl (by decide +kernel) ?_
 rintro ⟨s, ⟨⟩⟩ hv
 obtain ⟨s, rfl⟩ := sys_ex s
 clear hv
 unfold FnSat
 conv => arg 2; reduce
 simp [worksS, fewS11, checkS, pplS, befS, safeS, costS, encH, encB, ElEq, aliveB, goneB, getB, maxRow, and_assoc]
 simp only [vx_pl']
 refine ⟨fun hf => short_max (fewB_iff.1 hf).1, fun hf hc => ?_⟩
 obtain ⟨hm, he, hq⟩ := few_ex hf hc
 have gr := grV_ok he
 have c1 := checkB_iff.1 hc
 have vb := vlN_bnd hc (grV s 0)
 rw [<- plV_eq] at vb
 have hE : plnE s = 0 \/ plnE s = 18 := by
  by_cases hv : plV s = 1125899906842624
  ·exact .inr (plnE_18 he hv)
  ·exact .inl (plnE_ok he hv)
 have hv0 : plnE s = 0 -> plV s < 1125899906842624 := fun h => by
  by_cases hv : plV s = 1125899906842624
  ·rw [plnE_18 he hv] at h; cases h
  ·omega
 have h18 : ¬plnE s = 0 -> plnE s = 18 := fun h => hE.resolve_left h
 have hm4 := hm.2.2.2.1
 have hN : plnE s = 0 -> plnN s = s.nld := plnN_ok
 refine ⟨hm, fun a b => ⟨a, b⟩, fun _ => hE, h18, fun h => by rw [hN h], fun _ _ => ⟨fun h0 => ?_, fun h0 h1 h2 => ?_⟩⟩
 ·obtain ⟨w1, w2, w3⟩ := plW_safe he (hv0 h0)
  refine ⟨hm, by rw [hN h0]; exact hm4, hm, by rw [hN h0]; exact hm4, w1, w2, by rw [w3, plnC_ok h0], fun _ _ _ h1 h2 => ?_⟩
  refine ⟨⟨0, by rw [pwN_zero]; rfl, rfl, Nat.zero_le _⟩, fun i hi => ⟨fun hil => ?_, fun hie => ⟨⟨0, rfl, Nat.zero_le _⟩, fun k hk hkl => ?_⟩⟩⟩
  ·have hp := pwN_729 (q := s.nmd) (i := i + 1) (by omega) (by omega) (by omega)
   have he1 : (pwN s.nmd i : Int) * (s.nmd : Int) = (pwN s.nmd (i + 1) : Int) := by rw [pwN_succ]; exact (Int.natCast_mul _ _).symm
   exact ⟨by omega, by omega, by omega, by omega, i + 1, he1, rfl, by omega, by omega⟩
  ·have hp := pwN_729 (q := s.nmd) (i := i) (by omega) (by omega) (by omega)
   have ei : i = s.nld := by omega
   rw [ei] at hkl hp
   refine ⟨by omega, by omega, by omega, ⟨0, by rw [qtN_zero], by omega, fun j hj => (dgJ_zero hj).symm, Nat.zero_le _⟩, fun d hd => ⟨fun hdl => ?_, fun hde => ?_⟩⟩
   ·have hdv : (qtN s.nmd k d : Int) / (s.nmd : Int) = (qtN s.nmd k (d + 1) : Int) := by rw [qtN_succ]; exact (Int.natCast_ediv _ _).symm
    have hql := qtN_le s.nmd k (d + 1)
    refine ⟨by omega, hdl, by omega, by omega, by omega, by omega, by omega, by omega, d + 1, hdv, by omega, fun j hj => ?_, by omega, by omega⟩
    rw [dgJ_next (by omega) hj]
    by_cases e : j = s.nld - 1 - d
    ·rw [if_pos e, if_pos e]; exact (Int.ofNat_tmod _ _).symm
    ·rw [if_neg e, if_neg e]
   ·have hdd : d = s.nld := by omega
    have hW := least_dig hm he hE (k := k) (d := d)
    exact ⟨hm, hm4, hm, hm4, hW.1, fun _ => ⟨fun a b => ⟨a, b⟩, fun _ b _ _ => ⟨by rw [hN b]; exact Nat.le_refl _, hm4⟩, fun a b c d => ⟨a, b, c, d⟩, fun a b c => ⟨a, b, c⟩, hW.2, fun _ => ⟨by omega, by omega, k + 1, rfl, by omega, by omega⟩⟩⟩
 ·refine ⟨⟨0, by rw [pwN_zero]; rfl, rfl, Nat.zero_le _⟩, fun i hi => ⟨fun hil => ?_, fun hie => ⟨⟨0, rfl, Nat.zero_le _⟩, fun k hk hkl => ?_⟩⟩⟩
  ·have hp := pwN_729 (q := s.nmd) (i := i + 1) (by omega) (by omega) (by omega)
   have he1 : (pwN s.nmd i : Int) * (s.nmd : Int) = (pwN s.nmd (i + 1) : Int) := by rw [pwN_succ]; exact (Int.natCast_mul _ _).symm
   exact ⟨by omega, by omega, by omega, by omega, i + 1, he1, rfl, by omega, by omega⟩
  ·have hp := pwN_729 (q := s.nmd) (i := i) (by omega) (by omega) (by omega)
   have ei : i = s.nld := by omega
   rw [ei] at hkl hp
   refine ⟨by omega, by omega, by omega, ⟨0, by rw [qtN_zero], by omega, fun j hj => (dgJ_zero hj).symm, Nat.zero_le _⟩, fun d hd => ⟨fun hdl => ?_, fun hde => ?_⟩⟩
   ·have hdv : (qtN s.nmd k d : Int) / (s.nmd : Int) = (qtN s.nmd k (d + 1) : Int) := by rw [qtN_succ]; exact (Int.natCast_ediv _ _).symm
    have hql := qtN_le s.nmd k (d + 1)
    refine ⟨by omega, hdl, by omega, by omega, by omega, by omega, by omega, by omega, d + 1, hdv, by omega, fun j hj => ?_, by omega, by omega⟩
    rw [dgJ_next (by omega) hj]
    by_cases e : j = s.nld - 1 - d
    ·rw [if_pos e, if_pos e]; exact (Int.ofNat_tmod _ _).symm
    ·rw [if_neg e, if_neg e]
   ·have hdd : d = s.nld := by omega
    have hW := least_dig hm he hE (k := k) (d := d)
    exact ⟨hm, hm4, hm, hm4, hW.1, fun _ => ⟨fun a b => ⟨a, b⟩, fun _ b _ _ => ⟨by rw [hN b]; exact Nat.le_refl _, hm4⟩, fun a b c d => ⟨a, b, c, d⟩, fun a b c => ⟨a, b, c⟩, hW.2, fun _ => ⟨by omega, by omega, k + 1, rfl, by omega, by omega⟩⟩⟩
end Abs
open Go.ChangeShapes Go.WideShapes Go.ChangeAt Go.RowKit
set_option maxRecDepth 100000 in
theorem thermalLeast_lifted (os : Os) (started : os.Started) (H : Type) (enc : TypeId × Value -> H) :
  ReturnsInHanded {} Try.checked os 4 .any (Rows.thermalLeastSpec.pre6 enc Try.prog Try.f4 Rows.thermalLeastRow.domain false) (Rows.thermalLeastSpec.post enc Try.prog Try.f4 false true false false) := by
 refine returnsInHanded_of_change (C := Try.checked) (show ownKnob Try.prog.godebug = none by kernel_rfl) started (by kernel_rfl) Try.func4
  (ChangeSpec.witness6 (enc := enc) (C := Try.checked) false ⟨#[], #[.agg #[.slice none 0 0, .slice none 0 0, .slice none 0 0, .slice none 0 0]], []⟩ 8 (by kernel_rfl) (by kernel_rfl) (by kernel_rfl) (by kernel_rfl)) ?_
 intro W base args ds gs before hval0 hW hcnd _
 have hW0 := hW
 obtain ⟨p, q, hA, hV, rfl, hfz, hnd⟩ := hW0
 refine (Abs.law_calls (enc' := enc) Abs.thermalLeast_law (fn := Try.f4) (d := 6) (by kernel_rfl) hA hval0).mono fun e W' hh => ?_
 obtain ⟨he, hb⟩ := hh
 subst he
 exact ⟨_, rfl, Abs.law_post (s := Rows.thermalLeastSpec) (f := Try.f4) (by kernel_rfl) rfl (by kernel_rfl) (by kernel_rfl) rfl 1 (by kernel_rfl) (fun ds hl => by
  rcases ds with _ | ⟨d0, _ | ⟨d1, _⟩⟩
  all_goals first | exact ⟨rfl, rfl, rfl⟩ | (exfalso; simp only [List.length_cons, List.length_nil] at hl; omega)) hW hb⟩
theorem thermalLeast_holds : Rows.ThermalLeastSaid :=
 OpenClaim.holds_of_wide 4 Try.f4 rfl rfl rfl rfl rfl rfl rfl ⟨rfl, rfl, rfl, rfl, rfl⟩ rfl rfl rfl rfl rfl (by kernel_rfl) Try.func4 (by kernel_rfl)
  (of_decide_eq_true (by kernel_rfl)) (by unfold Func.isWrapper; first | (rw [if_pos (by decide +kernel)]; kernel_rfl) | (rw [if_neg (by decide +kernel)]; exact ⟨rfl, rfl⟩))
  (fun os started H enc _ => thermalLeast_lifted os started H enc)
end Go.Proofs.Ytdfdjlijghjdaaa
