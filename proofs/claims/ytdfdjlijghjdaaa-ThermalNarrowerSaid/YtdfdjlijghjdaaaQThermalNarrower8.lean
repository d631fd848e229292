/- Law: with wider limits, and narrower loads and beginnings, a plan that was safe is safe, its margin is not less, and the least cost is not greater. -/
import Derived.Test.YtdfdjlijghjdaaaQG16fcf1c6
import Derived.Test.YtdfdjlijghjdaaaRows
set_option linter.unusedSimpArgs false
set_option linter.unusedVariables false
namespace Go.Proofs.Ytdfdjlijghjdaaa
namespace Abs
open Go Go.RowKit
noncomputable def narI : DatL [sysSh, intsSh, .int .u8, .int .u8] -> Anns := fun (s, _, (a : Int), (b : Int), _) => [
 (2097152 + 4, [(9, 48 + 65536, 5), (9, 48 + 65536, 69), (9, 22, 197)], unA),
 (5, [], fun fr hp => ⟨Nat, fun i => ⟨frI [.k 10, .s (.si .i64 (icast i)), .t 195] fr, setB (setB hp 2 (.row 48 2 (.sym i) (fun k => [.si .i64 ((nrX (sysOf s) a b).lim.lo k), .si .i64 ((nrX (sysOf s) a b).lim.hi k)]))) 3 (.row 48 2 (.sym i) (fun k => [.si .i64 ((nrX (sysOf s) a b).st.lo k), .si .i64 ((nrX (sysOf s) a b).st.hi k)]))⟩,
  Nat × Nat, fun i => (i, (sysOf s).lim.len), fun (i, n) => i <= n, fun i => nsub (sysOf s).lim.len i⟩),
 (11, [], fun fr hp => ⟨Nat, fun i => ⟨frI [.k 12, .s (.si .i64 (icast i)), .t 193] fr, setB hp 4 (.row 22 1 (.sym i) (fun k => [.slc (.sym ((nrX (sysOf s) a b).ld k).len) 2 (fun j => [.si .i64 (((nrX (sysOf s) a b).ld k).lo j), .si .i64 (((nrX (sysOf s) a b).ld k).hi j)])]))⟩,
  Nat × Nat, fun i => (i, (sysOf s).nld), fun (i, n) => i <= n, fun i => nsub (sysOf s).nld i⟩),
 (15, [(13, 48, 2)], fun fr hp => ⟨Nat, fun k => ⟨frI [.k 14, .s (.si .i64 (icast k)), .t 191] fr, setB hp 5 (.row 48 2 (.sym k) (fun j => [.si .i64 (((nrX (sysOf s) a b).ld (nat (intOf (getL fr 12)))).lo j), .si .i64 (((nrX (sysOf s) a b).ld (nat (intOf (getL fr 12)))).hi j)]))⟩,
  Nat × Nat, fun k => (k, ((sysOf s).ld (nat (intOf (getL fr 12)))).len), fun (k, n) => k <= n, fun k => nsub (sysOf s).lim.len k⟩),
 (2097152 + 19, [(9, 0, 6), (9, 0, 70), (9, 0, 198), (9, 0, 0)], unA)]
theorem u8_nar {a b : Int} {s : Dat sysSh} {p : Dat intsSh} (hv : ValidL [sysSh, intsSh, .int .u8, .int .u8] (s, p, a, b, ())) : (0 <= a /\ a <= 255) /\ 0 <= b /\ b <= 255 := by
 simp only [ValidL, Valid] at hv
 obtain ⟨_, _, h1, h2, _⟩ := hv
 simp [InR, IntKind.min, IntKind.max, IntKind.signed, IntKind.bits] at h1 h2
 omega
set_option maxRecDepth 100000 in
set_option maxHeartbeats 8000000 in
theorem thermalNarrower_law : LawFn Try.prog 7 [sysSh, intsSh, .int .u8, .int .u8] := by
 refine FnSpec.of SYx0_ok mixed (U := 0) (I := narI) Try.func7 rfl (by kernel_rfl) rfl rfl (by decide +kernel) ?_
 rintro ⟨s, p, (a : Int), (b : Int), ⟨⟩⟩ hv
 obtain ⟨s, rfl⟩ := sys_ex s
 obtain ⟨p, rfl⟩ := vx_ex p
 have hu := u8_nar hv
 clear hv
 unfold FnSat
 conv => arg 2; reduce
 simp [worksS, fewS11, checkS, pplS, safeS, marS, shkS, unA, unitA, encH, encB, ElEq, aliveB, goneB, getB, maxRow, and_assoc]
 obtain ⟨⟨a0, a1⟩, b0, b1⟩ := hu
 refine ⟨fun hf _ => short_max (fewB_iff.1 hf).1, fun hf hpl hc => ?_⟩
 obtain ⟨hm, he, hq⟩ := few_ex hf hc
 obtain ⟨c1, c2, c3, c4, c5, c6, c7, c8, c9, c10, c11⟩ := checkB_iff.1 hc
 have n6 := nearV_iff.1 c6
 have n8 := nearV_iff.1 c8
 refine ⟨⟨0, rfl, rfl, fun j => Nat.zero_le _, rfl, fun j => Nat.zero_le _, Nat.zero_le _⟩, fun g hg => ⟨fun hlt => ?_, fun hge => ⟨⟨0, rfl, rfl, fun j => Nat.zero_le _, Nat.zero_le _⟩, fun i hi => ⟨fun hlt => ⟨⟨0, rfl, rfl, fun j => Nat.zero_le _, Nat.zero_le _⟩, fun k hk => ⟨hlt, fun hlt2 => ?_, fun hge2 => ?_⟩⟩, fun hge2 => ?_⟩⟩⟩⟩
 ·have h6 := n6 g hlt
  have h8 := n8 g (by omega)
  refine ⟨hlt, by omega, by omega, by omega, by omega, by omega, by omega, by omega, by omega, by omega, by omega, by omega, by omega, by omega, b0, b1, by omega, by omega, by omega, g + 1, rfl, rfl, fun j hj => app_one hj (fun _ => rfl) (fun e => ?_), rfl, fun j hj => app_one hj (fun _ => rfl) (fun e => ?_), by omega, by omega⟩
  ·subst e
   rw [nrX_lim, nrB_lo, nrB_hi]; rfl
  ·subst e
   rw [nrX_st, shB_lo, shB_hi]
   unfold shF shG; rfl
 ·obtain ⟨d1, d2⟩ := c10 i hlt
  have d3 := nearV_iff.1 d2 k hlt2
  refine ⟨hlt, hlt2, by omega, by omega, by omega, b0, b1, by omega, by omega, by omega, k + 1, rfl, rfl, fun j hj => app_one hj (fun _ => rfl) (fun e => ?_), by omega, by omega⟩
  subst e
  rw [nrX_ld, shB_lo, shB_hi]
  unfold shF shG; rfl
 ·refine ⟨by omega, by omega, by omega, i + 1, rfl, rfl, fun j hj => app_one hj (fun _ => rfl) (fun e => ?_), by omega, by omega⟩
  subst e
  have : k = ((nrX s a b).ld j).len := by rw [nrX_ld, shB_len]; omega
  rw [this]; rfl
 ·have e1 : g = (nrX s a b).lim.len := by rw [nrX_lim, nrB_len]; omega
  have e2 : g = (nrX s a b).st.len := by rw [nrX_st, shB_len]; omega
  have e3 : i = (nrX s a b).nld := by rw [nrX_nld]; omega
  have e4 : s.nmd = (nrX s a b).nmd := (nrX_nmd s a b).symm
  have e5 : s.md = (nrX s a b).md := (nrX_md s a b).symm
  have eX : sysOf ((g, fun k => ((nrX s a b).lim.lo k, (nrX s a b).lim.hi k, ())), (g, fun k => ((nrX s a b).st.lo k, (nrX s a b).st.hi k, ())), (s.nmd, fun k => ((s.md k).cost, ((s.md k).nsh, fun k_1 => ((s.md k).sh k_1, ())), ((s.md k).nfl, fun k_1 => ((s.md k).ff k_1, (s.md k).ft k_1, (s.md k).fp k_1, ())), ())),
    (i, fun k => ((((nrX s a b).ld k).len, fun k_1 => (((nrX s a b).ld k).lo k_1, ((nrX s a b).ld k).hi k_1, ())), ())), ()) = nrX s a b := by
   have := sysOf_mk (nrX s a b)
   rw [<- e1, <- e2, <- e3, <- e4, <- e5] at this
   exact this
  simp only [eX]
  have hX := nrX_max (a := a) (b := b) hm
  have hE := nrX_plE hc a0 b0 p
  have hpm : p.len <= maxLen := by unfold maxLen; omega
  have hpl2 : ¬plnE s = 0 \/ plnE (nrX s a b) = 0 /\ plnC (nrX s a b) <= plnC s := by
   by_cases h0 : plnE s = 0
   ·exact .inr (nrX_plan a0 b0 he hq h0)
   ·exact .inl h0
  refine ⟨hm, hpm, hX, hpm, fun a b => ⟨a, b⟩, hE.symm, fun h => nrX_safe a0 b0 h, fun _ _ => ⟨fun _ hs => ?_, fun _ => ⟨hm, hX, fun a b => ⟨a, b⟩, hpl2⟩⟩⟩
  have hs' := nrX_safe a0 b0 hs
  have hme := mgE_iff.2 hs
  have hme' := mgE_iff.2 hs'
  have hmg := nrX_mg a0 b0 hs (g := p.len + 1) (Nat.le_refl _)
  have hr : mgR s p = mgV s p (p.len + 1) := by unfold mgR; rw [if_pos hme]
  have hr' : mgR (nrX s a b) p = mgV (nrX s a b) p (p.len + 1) := by unfold mgR; rw [if_pos hme']
  rw [hr, hr']
  exact ⟨hm, hpm, hX, hpm, hme, hme', hmg.1, hmg.2, fun _ _ _ _ => ⟨hm, hX, fun a b => ⟨a, b⟩, hpl2⟩⟩
end Abs
open Go.ChangeShapes Go.WideShapes Go.ChangeAt Go.RowKit
set_option maxRecDepth 100000 in
theorem thermalNarrower_lifted (os : Os) (started : os.Started) (H : Type) (enc : TypeId × Value -> H) :
  ReturnsInHanded {} Try.checked os 7 .any (Rows.thermalNarrowerSpec.pre6 enc Try.prog Try.f7 Rows.thermalNarrowerRow.domain false) (Rows.thermalNarrowerSpec.post enc Try.prog Try.f7 false true false false) := by
 refine returnsInHanded_of_change (C := Try.checked) (show ownKnob Try.prog.godebug = none by kernel_rfl) started (by kernel_rfl) Try.func7
  (ChangeSpec.witness6 (enc := enc) (C := Try.checked) false ⟨#[], #[.agg #[.slice none 0 0, .slice none 0 0, .slice none 0 0, .slice none 0 0], .slice none 0 0, .int .u8 0, .int .u8 0], []⟩ 8 (by kernel_rfl) (by kernel_rfl) (by kernel_rfl) (by kernel_rfl)) ?_
 intro W base args ds gs before hval0 hW hcnd _
 have hW0 := hW
 obtain ⟨p, q, hA, hV, rfl, hfz, hnd⟩ := hW0
 refine (Abs.law_calls (enc' := enc) Abs.thermalNarrower_law (fn := Try.f7) (d := 6) (by kernel_rfl) hA hval0).mono fun e W' hh => ?_
 obtain ⟨he, hb⟩ := hh
 subst he
 exact ⟨_, rfl, Abs.law_post (s := Rows.thermalNarrowerSpec) (f := Try.f7) (by kernel_rfl) rfl (by kernel_rfl) (by kernel_rfl) rfl 4 (by kernel_rfl) (fun ds hl => by
  rcases ds with _ | ⟨d0, _ | ⟨d1, _ | ⟨d2, _ | ⟨d3, _ | ⟨d4, _⟩⟩⟩⟩⟩
  all_goals first | exact ⟨rfl, rfl, rfl⟩ | (exfalso; simp only [List.length_cons, List.length_nil] at hl; omega)) hW hb⟩
theorem thermalNarrower_holds : Rows.ThermalNarrowerSaid :=
 OpenClaim.holds_of_wide 7 Try.f7 rfl rfl rfl rfl rfl rfl rfl ⟨rfl, rfl, rfl, rfl, rfl⟩ rfl rfl rfl rfl rfl (by kernel_rfl) Try.func7 (by kernel_rfl)
  (of_decide_eq_true (by kernel_rfl)) (by unfold Func.isWrapper; first | (rw [if_pos (by decide +kernel)]; kernel_rfl) | (rw [if_neg (by decide +kernel)]; exact ⟨rfl, rfl⟩))
  (fun os started H enc _ => thermalNarrower_lifted os started H enc)
end Go.Proofs.Ytdfdjlijghjdaaa
