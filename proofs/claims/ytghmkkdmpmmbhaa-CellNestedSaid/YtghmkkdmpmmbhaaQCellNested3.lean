/- Parts of boxes and tolerances lead to parts of the spans and of the next box; no condition. -/
import Derived.Test.YtghmkkdmpmmbhaaQGb92bdd1b
import Derived.Test.YtghmkkdmpmmbhaaRows
set_option linter.unusedSimpArgs false
set_option linter.unusedVariables false
namespace Go.Proofs.Ytghmkkdmpmmbhaa
namespace Abs
open Go Go.RowKit
noncomputable section
attribute [local irreducible] FnSat
set_option maxRecDepth 100000 in
set_option maxHeartbeats 8000000 in
theorem cellNested_law : LawFn Try.prog 11 [celSh, wideSh, pkSh] := by
  refine FnSpec.of SUe_ok mixed (U := 0) (I := fun _ => []) Try.func11 rfl (by kernel_rfl) rfl rfl (by decide +kernel) ?_
  rintro ⟨c, ⟨⟨n, el⟩, ⟨m, em⟩, ⟨p, en⟩, (a1 : Int), (a2 : Int), (a3 : Int), (a4 : Int), (a5 : Int), (a6 : Int), (a7 : Int), (a8 : Int), (a9 : Int), ⟨⟩⟩, ⟨np, ep⟩, ⟨⟩⟩ hv
  obtain ⟨c, rfl⟩ := cel_ex c
  obtain ⟨lo, hi, rfl⟩ : ∃ lo hi : Nat → Int, el = fun k => (lo k, hi k, ()) := ⟨fun k => (el k).1, fun k => (el k).2.1, rfl⟩
  obtain ⟨bl, bh, rfl⟩ : ∃ bl bh : Nat → Int, em = fun k => (bl k, bh k, ()) := ⟨fun k => (em k).1, fun k => (em k).2.1, rfl⟩
  obtain ⟨il, ih, rfl⟩ : ∃ il ih : Nat → Int, en = fun k => (il k, ih k, ()) := ⟨fun k => (en k).1, fun k => (en k).2.1, rfl⟩
  obtain ⟨pk, rfl⟩ : ∃ pk : Nat → Int, ep = fun k => (pk k, ()) := ⟨fun k => (ep k).1, rfl⟩
  unfold FnSat
  conv => arg 2; reduce
  simp [-Bool.forall_bool, trueS, useS, narS, rstS, vbS, fbS, sbS, wtnS, ElEq, getB, goneB, aliveB, and_assoc]
  generalize hlo : naL lo hi n np pk = lo'
  generalize hhi : naH lo hi n np pk = hi'
  generalize hbl : naL bl bh m _ _ = bl'
  generalize hbh : naH bl bh m _ _ = bh'
  generalize hil : naL il ih p _ _ = il'
  generalize hih : naH il ih p _ _ = ih'
  intro hu
  obtain ⟨hg, hf, hC, hI⟩ := useB_iff.1 hu
  have hmax := grtB_no hg
  have hC : ChkOK c n lo hi m bl bh := hC
  obtain rfl : n = 7 := hC.n
  obtain rfl : m = 5 := hC.m
  obtain ⟨rfl, I0, I1⟩ := inpB_iff.1 hI
  have I0 : insV (-1048576) (il 0) (ih 0) 1048576 = true := I0
  have I1 : insV 0 (il 1) (ih 1) 400000 = true := I1
  obtain ⟨i0, i1, i2⟩ := insV_iff.1 I0
  obtain ⟨j0, j1, j2⟩ := insV_iff.1 I1
  have hb := hC.bx
  have B : ∀ k, k < 5 → bl k ≤ bh k := by
    obtain ⟨q0, q1, q2, q3, q4, q5, q6, q7, q8, q9, q10, q11, q12, q13, q14⟩ := hb
    intro k hk
    match k, hk with
    | 0, _ => exact q1
    | 1, _ => exact q4
    | 2, _ => exact q7
    | 3, _ => exact q10
    | 4, _ => exact q13
  have BS : ∀ k, k < 5 → spanOK (bl k) (bh k) = true := by
    obtain ⟨q0, q1, q2, q3, q4, q5, q6, q7, q8, q9, q10, q11, q12, q13, q14⟩ := hb
    intro k hk
    match k, hk with
    | 0, _ => exact spanOK_iff.2 (by omega)
    | 1, _ => exact spanOK_iff.2 (by omega)
    | 2, _ => exact spanOK_iff.2 (by omega)
    | 3, _ => exact spanOK_iff.2 (by omega)
    | 4, _ => exact spanOK_iff.2 (by omega)
  have IS : ∀ k, k < 2 → spanOK (il k) (ih k) = true := by
    intro k hk
    match k, hk with
    | 0, _ => exact spanOK_iff.2 (by omega)
    | 1, _ => exact spanOK_iff.2 (by omega)
  have hp : pksOK np pk := by
    have h := hv.2.2.1
    exact ⟨h.1, fun k hk => by
      have := (h.2 k hk).1
      exact ⟨this.1, this.2⟩⟩
  have P : Part lo hi lo' hi' bl bh bl' bh' := by
    subst hlo hhi hbl hbh
    refine ⟨fun k hk => na_in ?_, fun k hk => na_in (B k hk)⟩
    have := spanOK_iff.1 (hC.le k hk)
    omega
  have Q0 : il 0 ≤ il' 0 ∧ il' 0 ≤ ih' 0 ∧ ih' 0 ≤ ih 0 := by subst hil hih; exact na_in i1
  have Q1 : il 1 ≤ il' 1 ∧ il' 1 ≤ ih' 1 ∧ ih' 1 ≤ ih 1 := by subst hil hih; exact na_in j1
  have hC' := part_chk P hC
  have S := part_sub P hC
  have W := wid_of hC
  have W' := wid_of hC'
  have K : chkV c 7 (fun k => lo k) (fun k => hi k) 5 (fun k => bl k) (fun k => bh k) = 0 := chk_iff.2 hC
  have K' : chkV c 7 (fun k => lo' k) (fun k => hi' k) 5 (fun k => bl' k) (fun k => bh' k) = 0 := chk_iff.2 hC'
  have I0' : insV (-1048576) (il' 0) (ih' 0) 1048576 = true := insV_iff.2 (by omega)
  have I1' : insV 0 (il' 1) (ih' 1) 400000 = true := insV_iff.2 (by omega)
  have hI' : inpB 2 (fun k => il' k) (fun k => ih' k) = true := inpB_iff.2 ⟨rfl, I0', I1'⟩
  have hI2 : inpB 2 (fun k => il k) (fun k => ih k) = true := inpB_iff.2 ⟨rfl, I0, I1⟩
  have o : orE 0 true 2 = 0 := orE_t rfl rfl
  have v := wv_sub S W' W Q0.1 Q0.2.1 Q0.2.2
  have nb := fun k hk => nb_sub S W' W Q0.1 Q0.2.1 Q0.2.2 I0 Q1.1 Q1.2.2 k hk
  have E : sbE c 7 (fun k => lo k) (fun k => hi k) 5 (fun k => bl k) (fun k => bh k) 2 (fun k => il k) (fun k => ih k) = 0 ∨ sbE c 7 (fun k => lo k) (fun k => hi k) 5 (fun k => bl k) (fun k => bh k) 2 (fun k => il k) (fun k => ih k) = 4 := by
    cases hq : farB (widV c lo hi 5 bl bh) (il 0) (ih 0) with
    | true => exact .inl (sbE_0 K hI2 hq)
    | false => exact .inr (sbE_4 K hI2 hq)
  have E2 : sbE c 7 (fun k => lo k) (fun k => hi k) 5 (fun k => bl k) (fun k => bh k) 2 (fun k => il k) (fun k => ih k) = 0 → sbE c 7 (fun k => lo' k) (fun k => hi' k) 5 (fun k => bl' k) (fun k => bh' k) 2 (fun k => il' k) (fun k => ih' k) = 0 := fun h => by
    obtain ⟨f1, f2⟩ := farB_iff.1 (sbE_iff.1 h).2.2
    have n3 := (nb 3 (by decide)).2
    have n4 := (nb 4 (by decide)).2
    rw [(nb_3 _ _ _ _ _).2, (nb_3 _ _ _ _ _).2] at n3
    rw [(nb_4 _ _ _ _ _).2, (nb_4 _ _ _ _ _).2] at n4
    have f1 : nbTH (widV c lo hi 5 bl bh) (il 0) (ih 0) ≤ 1099511627776 := f1
    have f2 : nbAH (widV c lo hi 5 bl bh) ≤ 1099511627776 := f2
    exact sbE_0 K' hI' (farB_iff.2 ⟨Int.le_trans n3 f1, Int.le_trans n4 f2⟩)
  simp only [K, K', I0, I0', o, okV_0]
  refine ⟨by decide, hC.le, hp, hp.1, by decide, BS, rs_ok hp (by decide), hp.1, by decide, IS, rs_ok hp (by decide), by decide, hmax, by decide, by decide, by decide, hmax, by decide, by decide, hmax, by decide, by decide, hmax, by decide, by decide,
    by decide, by decide, by decide, by decide, by decide, by decide, by decide, v.1, v.2, S.fl, S.fh, fun _ _ _ _ _ => ⟨hmax, by decide, by decide, by decide, hmax, by decide, by decide, by decide, ?_⟩⟩
  refine ⟨fun h => E.resolve_left h, fun h => ?_⟩
  have h2 := E2 h
  have n5 : sbN 0 = 5 := sbN_5 rfl
  rw [h, h2, n5]
  refine ⟨fun _ => by decide, rfl, witB_iff.2 ⟨rfl, fun k hk => ?_⟩⟩
  exact nb k hk
end
end Abs
open Go.ChangeShapes Go.WideShapes Go.ChangeAt Go.RowKit
set_option maxRecDepth 100000 in
theorem cellNested_lifted (os : Os) (started : os.Started) (H : Type) (enc : TypeId × Value → H) :
    ReturnsInHanded {} Try.checked os 11 .any (Rows.cellNestedSpec.pre6 enc Try.prog Try.f11 Rows.cellNestedRow.domain false) (Rows.cellNestedSpec.post enc Try.prog Try.f11 false true false false) := by
  refine returnsInHanded_of_change (C := Try.checked) (show ownKnob Try.prog.godebug = none by kernel_rfl) started (by kernel_rfl) Try.func11
    (ChangeSpec.witness6 (enc := enc) (C := Try.checked) false ⟨#[], #[.agg #[.int .i64 0, .slice none 0 0, .slice none 0 0, .int .i64 0, .slice none 0 0, .slice none 0 0, .int .i64 0, .int .i64 0, .int .i64 0, .int .i64 0, .int .i64 0, .int .i64 0, .slice none 0 0, .slice none 0 0, .int .i64 0, .int .i64 0, .int .i64 0], .agg #[.slice none 0 0, .slice none 0 0, .slice none 0 0, .int .i64 0, .int .i64 0, .int .i64 0, .int .i64 0, .int .i64 0, .int .i64 0, .int .i64 0, .int .i64 0, .int .i64 0], .slice none 0 0], []⟩ 8 (by kernel_rfl) (by kernel_rfl) (by kernel_rfl) (by kernel_rfl)) ?_
  intro W base args ds gs before hval0 hW hcnd _
  have hW0 := hW
  obtain ⟨p, q, hA, hV, rfl, hfz, hnd⟩ := hW0
  refine (Abs.law_calls (enc' := enc) Abs.cellNested_law (fn := Try.f11) (d := 5) (by kernel_rfl) hA hval0).mono fun e W' hh => ?_
  obtain ⟨he, hb⟩ := hh
  subst he
  exact ⟨_, rfl, Abs.law_post (s := Rows.cellNestedSpec) (f := Try.f11) (by kernel_rfl) rfl (by kernel_rfl) (by kernel_rfl) rfl 3 (by kernel_rfl) (fun ds hl => by
    rcases ds with _ | ⟨d0, _ | ⟨d1, _ | ⟨d2, _ | ⟨d3, _⟩⟩⟩⟩
    all_goals first | exact ⟨rfl, rfl, rfl⟩ | (exfalso; simp only [List.length_cons, List.length_nil] at hl; omega)) hW hb⟩
theorem cellNested_holds : Rows.CellNestedSaid :=
  OpenClaim.holds_of_wide 11 Try.f11 rfl rfl rfl rfl rfl rfl rfl ⟨rfl, rfl, rfl, rfl, rfl⟩ rfl rfl rfl rfl rfl (by kernel_rfl) Try.func11 (by kernel_rfl)
    (of_decide_eq_true (by kernel_rfl)) (by unfold Func.isWrapper; first | (rw [if_pos (by decide +kernel)]; kernel_rfl) | (rw [if_neg (by decide +kernel)]; exact ⟨rfl, rfl⟩))
    (fun os started H enc _ => cellNested_lifted os started H enc)
end Go.Proofs.Ytghmkkdmpmmbhaa
