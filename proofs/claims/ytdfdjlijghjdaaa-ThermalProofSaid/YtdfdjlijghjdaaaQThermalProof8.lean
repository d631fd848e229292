/- Law: whatever nodes are accepted as a proof, no safe plan costs less; the nodes of a system are accepted with the cost of its plan. -/
import Derived.Test.YtdfdjlijghjdaaaQGfbf53288
import Derived.Test.YtdfdjlijghjdaaaRows
set_option linter.unusedSimpArgs false
set_option linter.unusedVariables false
namespace Go.Proofs.Ytdfdjlijghjdaaa
namespace Abs
open Go Go.RowKit
theorem nd_valid {n : Nat} {nd : Nat -> Nd} {s : Dat sysSh} {c : Int} {p : Dat intsSh} (hv : ValidL [sysSh, .int .i64, nodesSh, intsSh] (s, c, (n, fun k => ndD (nd k)), p, ())) : ∀ k, k < n -> (nd k).box.len <= maxLen := by
 simp only [ValidL, Valid] at hv
 obtain ⟨_, _, h1, _⟩ := hv
 intro k hk
 exact (h1.2 k hk).2.1.1
set_option maxRecDepth 100000 in
set_option maxHeartbeats 8000000 in
theorem thermalProof_law : LawFn Try.prog 9 [sysSh, .int .i64, nodesSh, intsSh] := by
 refine FnSpec.of SYv0_ok mixed (U := 0) (I := fun _ => []) Try.func9 rfl (by kernel_rfl) rfl rfl (by decide +kernel) ?_
 rintro ⟨s, (c : Int), ⟨n, el⟩, p, ⟨⟩⟩ hv
 obtain ⟨s, rfl⟩ := sys_ex s
 obtain ⟨nd, rfl⟩ := nds_ex el
 obtain ⟨p, rfl⟩ := vx_ex p
 have hbl := nd_valid hv
 clear hv
 unfold FnSat
 conv => arg 2; reduce
 simp [worksS, fewS11, checkS, pplS, nodesS, proveS, safeS, costS, ElEq, and_assoc]
 have en : (fun k => nd k) = nd := rfl
 have eg : (fun k => grV s k) = grV s := rfl
 simp only [en, eg]
 refine ⟨fun hf _ _ => short_max (fewB_iff.1 hf).1, fun hf hn hpl hc => ?_⟩
 obtain ⟨hm, he, -⟩ := few_ex hf hc
 have gr := grV_ok he
 have n1 := gr.n1
 have n5 := gr.n5
 have vb := vlN_bnd hc (grV s 0)
 rw [<- plV_eq] at vb
 have hE : plnE s = 0 \/ plnE s = 18 := by
  by_cases hv : plV s = 1125899906842624
  ·exact .inr (plnE_18 he hv)
  ·exact .inl (plnE_ok he hv)
 have hv0 : plnE s = 0 -> plV s < 1125899906842624 /\ plnC s = plV s := fun h => by
  by_cases hv : plV s = 1125899906842624
  ·rw [plnE_18 he hv] at h; cases h
  ·exact ⟨by omega, plnC_ok h⟩
 have hv8 : plnE s = 18 -> plV s = 1125899906842624 := fun h => by
  by_cases hv : plV s = 1125899906842624
  ·exact hv
  ·rw [plnE_ok he hv] at h; cases h
 have hN : nodN s = grN s := nodN_ok he
 have hml : nodN s <= maxLen := by rw [hN]; unfold maxLen; omega
 have hgl : ∀ k, k < nodN s -> (grV s k).box.len <= maxLen := fun k hk => by rw [hN] at hk; rw [gr.ln k hk]; exact hm.1
 have hpm : p.len <= maxLen := by unfold maxLen; omega
 have fin : SysMax s /\ (exE s = 0 -> ¬nodN s = 0 -> ¬plnE s = 0 -> exE s = 0 /\ ¬nodN s = 0 /\ ¬plnE s = 0) /\ exE s = 0 /\ ¬nodN s = 0 /\ (¬plnE s = 0 -> plnE s = 18) /\ (exE s = 0 -> ¬nodN s = 0 -> (¬plnE s = 0 -> plnE s = 18) -> (plnE s = 18 -> SysMax s /\ nodN s <= maxLen /\ (∀ (k : Nat), k < nodN s -> (grV s k).box.len <= maxLen) /\ pvE s 1125899906842624 (grV s) (nodN s) = 0) /\ (¬plnE s = 18 -> SysMax s /\ nodN s <= maxLen /\ (∀ (k : Nat), k < nodN s -> (grV s k).box.len <= maxLen) /\ (pvE s (plnC s) (grV s) (nodN s) = 0 -> -9223372036854775808 <= plnC s + 1 /\ plnC s + 1 <= 9223372036854775807) /\ (pvE s (plnC s) (grV s) (nodN s) = 0 -> SysMax s /\ nodN s <= maxLen /\ ∀ (k : Nat), k < nodN s -> (grV s k).box.len <= maxLen) /\ pvE s (plnC s) (grV s) (nodN s) = 0 /\ pvE s (plnC s + 1) (grV s) (nodN s) = 19)) := by
  refine ⟨hm, fun a b c => ⟨a, b, c⟩, he, by omega, fun h => hE.resolve_left h, fun _ _ _ => ⟨fun h => ⟨hm, hml, hgl, ?_⟩, fun h => ?_⟩⟩
  ·rw [hN]; exact (gr_pv he).1 (by rw [hv8 h]; exact Int.le_refl _)
  ·obtain ⟨h1, h2⟩ := hv0 (hE.resolve_right h)
   refine ⟨hm, hml, hgl, fun _ => by omega, fun _ => ⟨hm, hml, hgl⟩, ?_, ?_⟩
   ·rw [hN, h2]; exact (gr_pv he).1 (Int.le_refl _)
   ·rw [hN, h2]; exact (gr_pv he).2 (Int.lt_succ _)
 refine ⟨hm, by unfold maxLen; omega, hbl, fun hp => ⟨hm, hpm, hm, hpm, fun h1 h2 => ?_, fun _ => ⟨hm, fun h0 => ?_, fun _ => fin⟩⟩, fun _ => fin⟩
 ·have := pv_low hp h2
  unfold csV
  rw [if_pos h1, (sf_at h2).2.1]; exact this
 ·obtain ⟨h1, h2⟩ := hv0 h0
  obtain ⟨w1, w2, w3⟩ := plW_safe he h1
  have := pv_low hp w2
  have hcs : csV s (plW s) = costN s (plW s) s.nld := by unfold csV; rw [if_pos w1, (sf_at w2).2.1]
  rw [h2, <- w3, hcs]; exact this
end Abs
open Go.ChangeShapes Go.WideShapes Go.ChangeAt Go.RowKit
set_option maxRecDepth 100000 in
theorem thermalProof_lifted (os : Os) (started : os.Started) (H : Type) (enc : TypeId × Value -> H) :
  ReturnsInHanded {} Try.checked os 9 .any (Rows.thermalProofSpec.pre6 enc Try.prog Try.f9 Rows.thermalProofRow.domain false) (Rows.thermalProofSpec.post enc Try.prog Try.f9 false true false false) := by
 refine returnsInHanded_of_change (C := Try.checked) (show ownKnob Try.prog.godebug = none by kernel_rfl) started (by kernel_rfl) Try.func9
  (ChangeSpec.witness6 (enc := enc) (C := Try.checked) false ⟨#[], #[.agg #[.slice none 0 0, .slice none 0 0, .slice none 0 0, .slice none 0 0], .int .i64 0, .slice none 0 0, .slice none 0 0], []⟩ 8 (by kernel_rfl) (by kernel_rfl) (by kernel_rfl) (by kernel_rfl)) ?_
 intro W base args ds gs before hval0 hW hcnd _
 have hW0 := hW
 obtain ⟨p, q, hA, hV, rfl, hfz, hnd⟩ := hW0
 refine (Abs.law_calls (enc' := enc) Abs.thermalProof_law (fn := Try.f9) (d := 6) (by kernel_rfl) hA hval0).mono fun e W' hh => ?_
 obtain ⟨he, hb⟩ := hh
 subst he
 exact ⟨_, rfl, Abs.law_post (s := Rows.thermalProofSpec) (f := Try.f9) (by kernel_rfl) rfl (by kernel_rfl) (by kernel_rfl) rfl 4 (by kernel_rfl) (fun ds hl => by
  rcases ds with _ | ⟨d0, _ | ⟨d1, _ | ⟨d2, _ | ⟨d3, _ | ⟨d4, _⟩⟩⟩⟩⟩
  all_goals first | exact ⟨rfl, rfl, rfl⟩ | (exfalso; simp only [List.length_cons, List.length_nil] at hl; omega)) hW hb⟩
theorem thermalProof_holds : Rows.ThermalProofSaid :=
 OpenClaim.holds_of_wide 9 Try.f9 rfl rfl rfl rfl rfl rfl rfl ⟨rfl, rfl, rfl, rfl, rfl⟩ rfl rfl rfl rfl rfl (by kernel_rfl) Try.func9 (by kernel_rfl)
  (of_decide_eq_true (by kernel_rfl)) (by unfold Func.isWrapper; first | (rw [if_pos (by decide +kernel)]; kernel_rfl) | (rw [if_neg (by decide +kernel)]; exact ⟨rfl, rfl⟩))
  (fun os started H enc _ => thermalProof_lifted os started H enc)
end Go.Proofs.Ytdfdjlijghjdaaa
