/- For every cell within its tolerances, every state in a box and all inputs in an input box, step by step: the voltage and the fill are in their spans, and the next state is in the next box; no condition. -/
import Derived.Test.YthpigoanppehbaaGreatQG658f01af
import Derived.Test.YthpigoanppehbaaGreatRows
set_option linter.unusedSimpArgs false
set_option linter.unusedVariables false
namespace Go.Proofs.YthpigoanppehbaaGreat
namespace Abs
open Go Go.RowKit
noncomputable section
attribute [local irreducible] FnSat
@[irreducible] def hasB (n m : Nat) (lo hi v : Nat → Int) : Bool := decide (n = m) && allN (fun k => decide (lo k ≤ v k) && decide (v k ≤ hi k)) n
theorem hasB_iff {n m : Nat} {lo hi v : Nat → Int} : hasB n m lo hi v = true ↔ n = m ∧ ∀ k, k < n → lo k ≤ v k ∧ v k ≤ hi k := by
  unfold hasB; rw [Bool.and_eq_true, decide_eq_true_eq, allN_iff]; simp
theorem hasB_no {n m : Nat} {lo hi v : Nat → Int} (h : hasB n m lo hi v = true → False) : hasB n m lo hi v = false := by
  cases hb : hasB n m lo hi v with
  | false => rfl
  | true => exact (h hb).elim
def hasvS : Spec [spansSh, intsSh] := ⟨fun (x, y, _) => y.1 ≤ maxLen, fun ((n, f), (m, g), _) => .sb (hasB n m (fun k => (f k).1) (fun k => (f k).2.1) (fun k => (g k).1))⟩
def hasvI : DatL [spansSh, intsSh] → Anns := fun ((n, f), (m, g), _) =>
  [(4, [], fun fr hp => ⟨Nat, fun k => ⟨frI [.k 5, .s (.si .i64 (icast k)), .k 5, .t 28] fr, hp⟩, Nat × (Nat → Int × Int × Unit) × (Nat → Int × Unit), fun k => (k, f, g), fun (k, f, g) => k ≤ m ∧ ∀ j, j < k → (f j).1 ≤ (g j).1 ∧ (g j).1 ≤ (f j).2.1, fun k => nsub m k⟩)]
set_option maxRecDepth 100000 in
theorem hasv_ok : FnSpec Tryz.prog 28 _ hasvS := by
  refine FnSpec.of SUe_ok mixed (U := 0) (I := hasvI) Tryz.func28 rfl (by kernel_rfl) rfl rfl (by decide +kernel) ?_
  rintro ⟨⟨n, f⟩, ⟨m, g⟩, ⟨⟩⟩ (hn : m ≤ maxLen)
  obtain ⟨a, b, rfl⟩ : ∃ a b : Nat → Int, f = fun k => (a k, b k, ()) := ⟨fun k => (f k).1, fun k => (f k).2.1, rfl⟩
  obtain ⟨c, rfl⟩ : ∃ c : Nat → Int, g = fun k => (c k, ()) := ⟨fun k => (g k).1, rfl⟩
  unfold FnSat
  conv => arg 2; reduce
  unfold maxLen at hn
  simp [hasvS, and_assoc]
  refine ⟨fun h => hasB_no fun hs => h (by have := (hasB_iff.1 hs).1; omega), fun h => ⟨⟨0, rfl, by omega, fun j hj => by omega⟩, fun k hk hall => ⟨fun h1 => ⟨by omega, by omega, ?_⟩, fun h1 => ?_⟩⟩⟩
  · refine ⟨fun _ => h1, fun _ => by omega, fun h2 => hasB_no fun hs => ?_, fun h2 h3 => ⟨by omega, by omega, k + 1, by omega, by omega, fun j hj => ?_, by omega⟩⟩
    · have := (hasB_iff.1 hs).2 k (by omega)
      omega
    · by_cases hj' : j < k
      · exact hall j hj'
      · obtain rfl : j = k := by omega
        exact ⟨h2, h3⟩
  · exact hasB_iff.2 ⟨by omega, fun j hj => hall j (by omega)⟩
noncomputable def SLc : Sums := ⟨(28, mkSum _ hasvS) :: (19, mkSum _ aplS) :: SUe.one, SUe.two, SUe.lo, SUe.eqs, SUe.its, SUe.imm⟩
theorem SLc_ok : SumsOK Tryz.prog SLc := ((SUe_ok.cons Tryz.func19 (by kernel_rfl) (by kernel_rfl) apl_ok).cons Tryz.func28 (by kernel_rfl) (by kernel_rfl) hasv_ok)
def conQ (n : Nat) (c : Cel) (lo hi d : Nat → Int) (g : Nat) (s : Sta) (bl bh : Nat → Int) : Prop := g ≤ n ∧ InBox c lo hi d bl bh s
attribute [irreducible] conQ
theorem conQ_iff {n : Nat} {c : Cel} {lo hi d : Nat → Int} {g : Nat} {s : Sta} {bl bh : Nat → Int} : conQ n c lo hi d g s bl bh ↔ g ≤ n ∧ InBox c lo hi d bl bh s := by unfold conQ; exact Iff.rfl
def conI : DatL [celSh, wideSh, .int .u8, pkSh] → Anns := fun (c, ((_, el), _, _, _), (st : Int), (np, ep), _) => [
  (11, [], fun fr hp => ⟨Nat × Sta × (Nat → Int) × (Nat → Int), fun (g, s, bl, bh) => ⟨frI [.k 13, .s (.slc (.sym 5) 2 (fun k => [.si .i64 (bl k), .si .i64 (bh k)])), .s (.si .i64 (icast g)), .t 11, .t 42, .t 136] fr, setB hp 3 (.cells 52 [.si .i64 s.q, .si .i64 s.rx, .si .i64 s.tp, .si .i64 s.th, .si .i64 s.ag])⟩,
    Nat × Cel × (Nat → Int) × (Nat → Int) × (Nat → Int) × (Nat × Sta × (Nat → Int) × (Nat → Int)), fun x => (nat (irem st 21), celOf c, (fun k => (el k).1), (fun k => (el k).2.1), (fun k => chV (el k).1 (el k).2.1 (pkV np (fun j => (ep j).1) k)), x), fun (n, c, lo, hi, d, (g, s, bl, bh)) => conQ n c lo hi d g s bl bh, fun (g, _) => nsub (nat (irem st 21)) g⟩)]
set_option maxRecDepth 100000 in
set_option maxHeartbeats 8000000 in
theorem cellContains_law : LawFn Tryz.prog 4 [celSh, wideSh, .int .u8, pkSh] := by
  refine FnSpec.of SLc_ok mixed (U := 0) (I := conI) Tryz.func4 rfl (by kernel_rfl) rfl rfl (by decide +kernel) ?_
  rintro ⟨c, ⟨⟨n, el⟩, ⟨m, em⟩, ⟨p, en⟩, (a1 : Int), (a2 : Int), (a3 : Int), (a4 : Int), (a5 : Int), (a6 : Int), (a7 : Int), (a8 : Int), (a9 : Int), ⟨⟩⟩, (st : Int), ⟨np, ep⟩, ⟨⟩⟩ hv
  obtain ⟨c, rfl⟩ := cel_ex c
  obtain ⟨lo, hi, rfl⟩ : ∃ lo hi : Nat → Int, el = fun k => (lo k, hi k, ()) := ⟨fun k => (el k).1, fun k => (el k).2.1, rfl⟩
  obtain ⟨bl, bh, rfl⟩ : ∃ bl bh : Nat → Int, em = fun k => (bl k, bh k, ()) := ⟨fun k => (em k).1, fun k => (em k).2.1, rfl⟩
  obtain ⟨il, ih, rfl⟩ : ∃ il ih : Nat → Int, en = fun k => (il k, ih k, ()) := ⟨fun k => (en k).1, fun k => (en k).2.1, rfl⟩
  obtain ⟨pk, rfl⟩ : ∃ pk : Nat → Int, ep = fun k => (pk k, ()) := ⟨fun k => (ep k).1, rfl⟩
  unfold FnSat
  conv => arg 2; reduce
  simp [-Bool.forall_bool, trueS, useS, rstS, chnS, aplS, ofS, cstS, volS, vbS, filS, fbS, stpT, sbS, vecN, hasvS, enc_cel, sel5_st, ElEq, getB, goneB, aliveB, and_assoc]
  intro hu
  obtain ⟨hg, hf, hC, hI⟩ := useB_iff.1 hu
  have hmax := grtB_no hg
  have hC : ChkOK c n lo hi m bl bh := hC
  obtain rfl : n = 7 := hC.n
  obtain rfl : m = 5 := hC.m
  obtain ⟨rfl, I0, I1⟩ := inpB_iff.1 hI
  have I0 : insV (-1048576) (il 0) (ih 0) 1048576 = true := I0
  have I1 : insV 0 (il 1) (ih 1) 400000 = true := I1
  obtain ⟨i0, i1, i2⟩ := insV_iff.1 I0
  obtain ⟨j0, j1, j2⟩ := insV_iff.1 I1
  have hb := hC.bx
  have BS : ∀ k, k < 5 → spanOK (bl k) (bh k) = true := by
    obtain ⟨q0, q1, q2, q3, q4, q5, q6, q7, q8, q9, q10, q11, q12, q13, q14⟩ := hb
    intro k hk
    match k, hk with
    | 0, _ => exact spanOK_iff.2 (by omega)
    | 1, _ => exact spanOK_iff.2 (by omega)
    | 2, _ => exact spanOK_iff.2 (by omega)
    | 3, _ => exact spanOK_iff.2 (by omega)
    | 4, _ => exact spanOK_iff.2 (by omega)
  have IS : ∀ k, k < 2 → spanOK (il k) (ih k) = true := by
    intro k hk
    match k, hk with
    | 0, _ => exact spanOK_iff.2 (by omega)
    | 1, _ => exact spanOK_iff.2 (by omega)
  have hp : pksOK np pk := by
    have h := hv.2.2.2.1
    exact ⟨h.1, fun k hk => by
      have := (h.2 k hk).1
      exact ⟨this.1, this.2⟩⟩
  have hst : 0 ≤ st ∧ st ≤ 255 := by
    have h : InR .u8 st := hv.2.2.1
    unfold InR at h
    simpa [IntKind.min, IntKind.max, IntKind.signed, IntKind.bits] using h
  have D : ∀ k, k < 7 → lo k ≤ chV (lo k) (hi k) (pkV np (fun j => pk j) k) ∧ chV (lo k) (hi k) (pkV np (fun j => pk j) k) ≤ hi k := fun k hk => chV_in (by have := spanOK_iff.1 (hC.le k hk); omega)
  generalize hd : (fun k => chV (lo k) (hi k) (pkV np (fun j => pk j) k)) = d
  have D : ∀ k, k < 7 → lo k ≤ d k ∧ d k ≤ hi k := by subst hd; exact D
  have rc : celB (mvC c d) = true := mv_mid hC.cl hC.ch D
  have hap : apE c 7 d = 0 := apE_0 hC.cel (fun k hk => by
    have := D k hk
    have := spanOK_iff.1 (hC.le k hk)
    exact isQ_iff.2 (by omega)) rc
  have hac : apC c 7 d = mvC c d := apC_0 hap
  have rmax := (celB_iff.1 rc).max
  have of5 : ∀ x, ofV 5 x = x := fun x => by unfold ofV; rw [if_pos rfl]
  have oe5 : ofE 5 = 0 := by unfold ofE; rw [if_pos rfl]
  simp only [hap, hac, of5, oe5]
  have S0 := chV_in (x := pkV (rsN np 7) (fun j => rsP np 7 (fun j => pk j) j) 0) (lo := bl 0) (hi := bh 0) hb.q1
  have S1 := chV_in (x := pkV (rsN np 7) (fun j => rsP np 7 (fun j => pk j) j) 1) (lo := bl 1) (hi := bh 1) hb.x1
  have S2 := chV_in (x := pkV (rsN np 7) (fun j => rsP np 7 (fun j => pk j) j) 2) (lo := bl 2) (hi := bh 2) hb.t1
  have S3 := chV_in (x := pkV (rsN np 7) (fun j => rsP np 7 (fun j => pk j) j) 3) (lo := bl 3) (hi := bh 3) hb.h1
  have S4 := chV_in (x := pkV (rsN np 7) (fun j => rsP np 7 (fun j => pk j) j) 4) (lo := bl 4) (hi := bh 4) hb.a1
  generalize chV (bl 0) (bh 0) _ = s0 at *
  generalize chV (bl 1) (bh 1) _ = s1 at *
  generalize chV (bl 2) (bh 2) _ = s2 at *
  generalize chV (bl 3) (bh 3) _ = s3 at *
  generalize chV (bl 4) (bh 4) _ = s4 at *
  obtain ⟨s, hs⟩ : ∃ s : Sta, s = ⟨s0, s1, s2, s3, s4⟩ := ⟨_, rfl⟩
  have es : staOf (s0, s1, s2, s3, s4, PUnit.unit) = s := by rw [hs]; unfold staOf; rfl
  rw [es]
  refine ⟨by decide, hC.le, hp, hmax, by decide, hp.1, by decide, BS, rs_ok hp (by decide), trivial, trivial, fun _ _ => ⟨rmax, fun h => ⟨rmax, h⟩, fun hcs => ⟨trivial, ⟨0, s, bl, bh, fun _ _ => ⟨rfl, rfl⟩, rfl, ?_, ?_, ?_, ?_, ?_, conQ_iff.2 ⟨by omega, hC, D, fun k hk => ?_, (csE_iff.1 hcs).2⟩⟩, fun g t cl ch hq => ?_⟩⟩⟩
  · rw [hs]; simp
  · rw [hs]; simp
  · rw [hs]; simp
  · rw [hs]; simp
  · rw [hs]; simp
  · obtain ⟨e0, e1, e2, e3, e4⟩ := stV_n s
    rw [hs] at e0 e1 e2 e3 e4 ⊢
    simp only [Sta.q_mk, Sta.rx_mk, Sta.tp_mk, Sta.th_mk, Sta.ag_mk] at e0 e1 e2 e3 e4
    match k, hk with
    | 0, _ => rw [e0]; exact S0
    | 1, _ => rw [e1]; exact S1
    | 2, _ => rw [e2]; exact S2
    | 3, _ => rw [e3]; exact S3
    | 4, _ => rw [e4]; exact S4
  obtain ⟨hgn, hin⟩ := conQ_iff.1 hq
  have hin : InBox c lo hi d cl ch t := hin
  have tm : st.tmod 21 = st % 21 := Int.tmod_eq_emod_of_nonneg hst.1
  refine ⟨by omega, by omega, fun hlt => ?_⟩
  rw [tm] at hlt
  have X0 := chV_in (x := pkV (rsN np (12 + 2 * (g : Int))) (fun j => rsP np (12 + 2 * (g : Int)) (fun j => pk j) j) 0) (lo := il 0) (hi := ih 0) i1
  have X1 := chV_in (x := pkV (rsN np (12 + 2 * (g : Int))) (fun j => rsP np (12 + 2 * (g : Int)) (fun j => pk j) j) 1) (lo := il 1) (hi := ih 1) j1
  generalize chV (il 0) (ih 0) _ = x at *
  generalize chV (il 1) (ih 1) _ = y at *
  have hcs := hin.cs
  have K : chkV c 7 (fun k => lo k) (fun k => hi k) 5 (fun k => cl k) (fun k => ch k) = 0 := chk_iff.2 hin.chk
  have o : orE 0 true 2 = 0 := orE_t rfl rfl
  have cx := curI_iff.2 ⟨(by omega : -1048576 ≤ x), (by omega : x ≤ 1048576)⟩
  have wx : wiE x = 0 := by unfold wiE; rw [if_pos cx]
  have vx : ∀ z, wiV x z = z := fun z => by unfold wiV; rw [if_pos cx]
  have ae : ∀ z, aE (mvC c d) t z = z := fun z => aE_yes hcs
  have av : ∀ z, aV (mvC c d) t z = z := fun z => aV_yes hcs
  simp only [K, I0, o, wx, vx, ae, av, okV_0]
  have v := in_volt hin X0.1 X0.2
  have f := in_fill hin
  have hI2 : inpB 2 (fun k => il k) (fun k => ih k) = true := inpB_iff.2 ⟨rfl, I0, I1⟩
  have E : sbE c 7 (fun k => lo k) (fun k => hi k) 5 (fun k => cl k) (fun k => ch k) 2 (fun k => il k) (fun k => ih k) = 0 ∨ sbE c 7 (fun k => lo k) (fun k => hi k) 5 (fun k => cl k) (fun k => ch k) 2 (fun k => il k) (fun k => ih k) = 4 := by
    cases hq : farB (widV c lo hi 5 cl ch) (il 0) (ih 0) with
    | true => exact .inl (sbE_0 K hI2 hq)
    | false => exact .inr (sbE_4 K hI2 hq)
  have F : stAE (mvC c d) t x y = 0 ∨ stAE (mvC c d) t x y = 4 := by
    have hib : inB x y = true := inB_iff.2 ⟨⟨by omega, by omega⟩, by omega, by omega⟩
    unfold stAE
    rw [ae]
    unfold stpE
    cases ovr (mvC c d) t x <;> simp [hib]
  refine ⟨by omega, by omega, by omega, by omega, hp.1, by omega, by decide, IS, rs_ok hp (by omega), by decide, rmax, by decide, hmax, by decide, by decide, rmax, hmax, by decide, by decide,
    by decide, by decide, by decide, by decide, by decide, by decide, by decide, v.1, v.2, f.1, f.2, fun _ _ _ _ _ => ⟨by decide, by decide, rmax, hmax, by decide, by decide, by decide, fun _ => ⟨fun h1 h2 => ⟨h1, h2⟩, F, E⟩, fun hs0 he0 => ?_⟩⟩
  have n5 : sbN (sbE c 7 (fun k => lo k) (fun k => hi k) 5 (fun k => cl k) (fun k => ch k) 2 (fun k => il k) (fun k => ih k)) = 5 := sbN_5 he0
  have hfar : farB (widV c lo hi 5 cl ch) (il 0) (ih 0) = true := (sbE_iff.1 he0).2.2
  have nx := in_go hin I0 I1 X0.1 X0.2 X1.1 X1.2 hfar hs0
  rw [n5]
  refine ⟨by decide, hasB_iff.2 ⟨rfl, fun k hk => nx.ss k hk⟩, fun _ => ⟨by omega, by omega, rfl, g + 1, stA (mvC c d) t x y, nbL (widV c lo hi 5 cl ch) (il 0) (ih 0) (il 1) (ih 1), nbH (widV c lo hi 5 cl ch) (il 0) (ih 0) (il 1) (ih 1), ?_⟩⟩
  refine ⟨fun j _ => ⟨rfl, rfl⟩, by omega, rfl, rfl, rfl, rfl, rfl, conQ_iff.2 ⟨by omega, nx⟩, by omega⟩
end
end Abs
open Go.ChangeShapes Go.WideShapes Go.ChangeAt Go.RowKit
set_option maxRecDepth 100000 in
theorem cellContains_lifted (os : Os) (started : os.Started) (H : Type) (enc : TypeId × Value → H) :
    ReturnsInHanded {} Tryz.checked os 4 .any (Rows.cellContainsSpec.pre6 enc Tryz.prog Tryz.f4 Rows.cellContainsRow.domain false) (Rows.cellContainsSpec.post enc Tryz.prog Tryz.f4 false true false false) := by
  refine returnsInHanded_of_change (C := Tryz.checked) (show ownKnob Tryz.prog.godebug = none by kernel_rfl) started (by kernel_rfl) Tryz.func4
    (ChangeSpec.witness6 (enc := enc) (C := Tryz.checked) false ⟨#[], #[.agg #[.int .i64 0, .slice none 0 0, .slice none 0 0, .int .i64 0, .slice none 0 0, .slice none 0 0, .int .i64 0, .int .i64 0, .int .i64 0, .int .i64 0, .int .i64 0, .int .i64 0, .slice none 0 0, .slice none 0 0, .int .i64 0, .int .i64 0, .int .i64 0], .agg #[.slice none 0 0, .slice none 0 0, .slice none 0 0, .int .i64 0, .int .i64 0, .int .i64 0, .int .i64 0, .int .i64 0, .int .i64 0, .int .i64 0, .int .i64 0, .int .i64 0], .int .u8 0, .slice none 0 0], []⟩ 8 (by kernel_rfl) (by kernel_rfl) (by kernel_rfl) (by kernel_rfl)) ?_
  intro W base args ds gs before hval0 hW hcnd _
  have hW0 := hW
  obtain ⟨p, q, hA, hV, rfl, hfz, hnd⟩ := hW0
  refine (Abs.law_calls (enc' := enc) Abs.cellContains_law (fn := Tryz.f4) (d := 5) (by kernel_rfl) hA hval0).mono fun e W' hh => ?_
  obtain ⟨he, hb⟩ := hh
  subst he
  exact ⟨_, rfl, Abs.law_post (s := Rows.cellContainsSpec) (f := Tryz.f4) (by kernel_rfl) rfl (by kernel_rfl) (by kernel_rfl) rfl 4 (by kernel_rfl) (fun ds hl => by
    rcases ds with _ | ⟨d0, _ | ⟨d1, _ | ⟨d2, _ | ⟨d3, _ | ⟨d4, _⟩⟩⟩⟩⟩
    all_goals first | exact ⟨rfl, rfl, rfl⟩ | (exfalso; simp only [List.length_cons, List.length_nil] at hl; omega)) hW hb⟩
theorem cellContains_holds : Rows.CellContainsSaid :=
  OpenClaim.holds_of_wide 4 Tryz.f4 rfl rfl rfl rfl rfl rfl rfl ⟨rfl, rfl, rfl, rfl, rfl⟩ rfl rfl rfl rfl rfl (by kernel_rfl) Tryz.func4 (by kernel_rfl)
    (of_decide_eq_true (by kernel_rfl)) (by unfold Func.isWrapper; first | (rw [if_pos (by decide +kernel)]; kernel_rfl) | (rw [if_neg (by decide +kernel)]; exact ⟨rfl, rfl⟩))
    (fun os started H enc _ => cellContains_lifted os started H enc)
end Go.Proofs.YthpigoanppehbaaGreat
