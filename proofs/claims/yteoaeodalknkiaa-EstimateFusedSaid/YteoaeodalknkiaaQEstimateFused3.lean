/- If at most f of the spans do not contain a number, the fused span contains it; with none it is the meeting of all; with one liar more it is not smaller; no condition. -/
import Derived.Test.YteoaeodalknkiaaQG4eb1a87b
import Derived.Test.YteoaeodalknkiaaRows
set_option linter.unusedSimpArgs false
set_option linter.unusedVariables false
namespace Go.Proofs.Yteoaeodalknkiaa
namespace Abs
open Go Go.RowKit
noncomputable section
attribute [local irreducible] FnSat
@[irreducible] def thB (n : Nat) (lo hi : Nat → Int) : Nat → Bool
  | 0 => false
  | k + 1 => decide (fuE n lo hi (k : Int) = 0)
@[irreducible] def lsL (n : Nat) (lo hi : Nat → Int) : Nat → Int
  | 0 => 0
  | k + 1 => fuV (fuE n lo hi (k : Int)) (fuL n lo hi (k : Int))
@[irreducible] def lsH (n : Nat) (lo hi : Nat → Int) : Nat → Int
  | 0 => 0
  | k + 1 => fuV (fuE n lo hi (k : Int)) (fuH n lo hi (k : Int))
theorem th_0 (n : Nat) (lo hi : Nat → Int) : thB n lo hi 0 = false ∧ lsL n lo hi 0 = 0 ∧ lsH n lo hi 0 = 0 := by unfold thB lsL lsH; exact ⟨rfl, rfl, rfl⟩
theorem th_s (n : Nat) (lo hi : Nat → Int) (k : Nat) : thB n lo hi (k + 1) = decide (fuE n lo hi (k : Int) = 0) ∧ lsL n lo hi (k + 1) = fuV (fuE n lo hi (k : Int)) (fuL n lo hi (k : Int)) ∧ lsH n lo hi (k + 1) = fuV (fuE n lo hi (k : Int)) (fuH n lo hi (k : Int)) := by unfold thB lsL lsH; exact ⟨rfl, rfl, rfl⟩
theorem sp_iff {a b : Int} : spanOK a b = true ↔ -1099511627776 ≤ a ∧ a ≤ b ∧ b ≤ 1099511627776 := by unfold spanOK isQ isIn; simp; omega
def fdI : DatL [spansSh, .int .i64] → Anns := fun ((n, el), _, _) => [
  (6, [], fun fr hp => ⟨Nat, fun g => ⟨frI [.k 6, .s (.sb (mtA (fun k => (el k).1) (fun k => (el k).2.1) g)), .s (.si .i64 (icast g)), .t 127] fr, setB hp 0 (.cells 62 [.si .i64 (mtL (fun k => (el k).1) (fun k => (el k).2.1) g), .si .i64 (mtH (fun k => (el k).1) (fun k => (el k).2.1) g)])⟩,
    Nat × Nat, fun g => (n, g), fun (n, g) => g ≤ n ∧ ∀ k, k < g → badSpan (el k).1 (el k).2.1 = false, fun g => nsub n g⟩),
  (20, [], fun fr hp => ⟨Nat, fun g => ⟨frI [.k 13, .s (.sb (thB n (fun k => (el k).1) (fun k => (el k).2.1) g)), .s (.si .i64 (icast g)), .t 120] fr, setB hp 1 (.cells 62 [.si .i64 (lsL n (fun k => (el k).1) (fun k => (el k).2.1) g), .si .i64 (lsH n (fun k => (el k).1) (fun k => (el k).2.1) g)])⟩,
    Nat × Nat, fun g => (n, g), fun (n, g) => g ≤ n, fun g => nsub n g⟩)]
set_option maxRecDepth 100000 in
set_option maxHeartbeats 8000000 in
theorem estimateFused_law : LawFn Try.prog 6 [spansSh, .int .i64] := by
  refine FnSpec.of SFx_ok mixed (U := 0) (I := fdI) Try.func6 rfl (by kernel_rfl) rfl rfl (by decide +kernel) ?_
  rintro ⟨⟨n, el⟩, (x : Int), ⟨⟩⟩ hv
  obtain ⟨lo, hi, rfl⟩ : ∃ lo hi : Nat → Int, el = fun k => (lo k, hi k, ()) := ⟨fun k => (el k).1, fun k => (el k).2.1, rfl⟩
  unfold FnSat
  conv => arg 2; reduce
  simp [-Bool.forall_bool, tru3, fusS, liaS, meeS, iniS2, havS, rvaS, CanL, okSh, CanSh, and_assoc]
  have el' : (fun k => lo k) = lo := rfl
  have eh' : (fun k => hi k) = hi := rfl
  rw [el', eh']
  refine fun n1 n16 x0 x1 => ⟨by omega, ⟨0, mt_0.1, rfl, mt_0.2.1.symm, mt_0.2.2.symm, by omega, fun k hk => by omega⟩, fun g hg hall => ⟨fun hlt => ⟨hlt, fun hok => ?_⟩, fun hge => ?_⟩⟩
  · have hv : ∀ k, k < g + 1 → -1099511627776 ≤ lo k ∧ lo k ≤ hi k ∧ hi k ≤ 1099511627776 := fun k hk => by
      by_cases e : k = g
      · subst e; exact sp_iff.1 hok
      · exact sp_iff.1 (bad_f.1 (hall k (by omega)))
    have hm : mtA lo hi g = true → meeE (mtL lo hi g) (mtH lo hi g) (lo g) (hi g) = if max (mtL lo hi g) (lo g) ≤ min (mtH lo hi g) (hi g) then 0 else 5 := fun ha => by
      have h1 := ((mt_spec (hv 0 (by omega)).2.1 g fun k hk => (hv k (by omega)).2.1).1 ha).1
      obtain ⟨⟨k, hk, e⟩, q, hq, e'⟩ := mt_in (lo := lo) (hi := hi) g
      have hk := hv k (by omega)
      have hq := hv q (by omega)
      unfold meeE
      rw [if_pos ⟨sp_iff.2 ⟨by omega, h1, by omega⟩, hok⟩]
    have hb : ∀ k, k < g + 1 → badSpan (lo k) (hi k) = false := fun k hk => bad_f.2 (sp_iff.2 (hv k hk))
    refine ⟨hlt, fun ha he => ?_, fun hno => ?_⟩
    · have h2 : max (mtL lo hi g) (lo g) ≤ min (mtH lo hi g) (hi g) := by
        rw [hm ha] at he
        by_cases h : max (mtL lo hi g) (lo g) ≤ min (mtH lo hi g) (hi g)
        · exact h
        · rw [if_neg h] at he; omega
      have st := mt_yes ha h2
      refine ⟨by omega, by omega, g + 1, by rw [ha, he, st.1]; rfl, by omega, ?_, ?_, by omega, hb, by omega⟩
      · unfold meeL; rw [if_pos he, st.2.1]
      · unfold meeH; rw [if_pos he, st.2.2]
    · have h2 : ¬(mtA lo hi g = true ∧ max (mtL lo hi g) (lo g) ≤ min (mtH lo hi g) (hi g)) := fun h => hno h.1 (by rw [hm h.1, if_pos h.2])
      have st := mt_no h2
      refine ⟨by omega, by omega, g + 1, ?_, by omega, st.2.1.symm, st.2.2.symm, by omega, hb, by omega⟩
      rw [st.1]
      cases ha : mtA lo hi g with
      | false => rfl
      | true => simp [hno ha]
  obtain rfl : g = n := by omega
  have hv : ∀ k, k < g → -1099511627776 ≤ lo k ∧ lo k ≤ hi k ∧ hi k ≤ 1099511627776 := fun k hk => sp_iff.1 (bad_f.1 (hall k hk))
  have h0 : fsE g (badN g fun k => (lo k, hi k, ())) = 0 := fsE_iff.2 ⟨by omega, by omega, badN_f.2 hall⟩
  have hli : liE g lo hi x = 0 := by
    unfold liE
    rw [if_pos h0, if_pos (by simp [isQ]; omega)]
  have hln : liN g lo hi x = cntF (misP lo hi x) g := by unfold liN; rw [if_pos hli]
  have hE : ∀ f : Int, 0 ≤ f → f < g → fuE g lo hi f = if fuOK g lo hi f = true then 0 else 5 := fun f f0 f1 => by
    unfold fuE
    rw [if_pos h0, if_pos ⟨f0, f1⟩]
  have hsp : ∀ f : Int, f < g → fuOK g lo hi f = true → spanOK (fuL g lo hi f) (fuH g lo hi f) = true := fun f f1 h => by
    obtain ⟨⟨k, hk, _, e⟩, ⟨j, hj, _, e'⟩, hle⟩ := fu_ends f1 h
    have := hv k hk
    have := hv j hj
    exact sp_iff.2 ⟨by omega, hle, by omega⟩
  refine ⟨by omega, hli, fun _ => ⟨⟨0, (th_0 g lo hi).1, rfl, (th_0 g lo hi).2.1.symm, (th_0 g lo hi).2.2.symm, by omega⟩, fun f hf hlt => ?_⟩⟩
  have hEf := hE (f : Int) (by omega) (by omega)
  have h5 : ¬fuE g lo hi (f : Int) = 0 → fuE g lo hi (f : Int) = 5 := fun h => by
    cases ho : fuOK g lo hi (f : Int) with
    | true => rw [hEf, ho] at h; simp at h
    | false => rw [hEf, ho]; rfl
  refine ⟨by omega, fun a b c => ⟨a, b, c⟩, fun a b => ⟨a, b⟩, fun h => ?_, h5, fun hth => ?_, fun _ _ => ⟨fun hl => ?_, fun _ => ⟨fun a b c => ⟨a, b, c⟩, fun a b => ⟨a, b⟩, fun hz => ?_, fun _ => ?_⟩⟩⟩
  · by_cases h' : fuE g lo hi (f : Int) = 0
    · exact .inl h'
    · exact .inr (h h')
  · cases f with
    | zero => rw [(th_0 g lo hi).1] at hth; cases hth
    | succ k =>
      obtain ⟨t1, t2, t3⟩ := th_s g lo hi k
      rw [t1] at hth
      have hk0 : fuE g lo hi (k : Int) = 0 := of_decide_eq_true hth
      have hok : fuOK g lo hi (k : Int) = true := by
        cases ho : fuOK g lo hi (k : Int) with
        | true => rfl
        | false => rw [hE (k : Int) (by omega) (by omega), ho] at hk0; simp at hk0
      have hmo := fu_more (n := g) (lo := lo) (hi := hi) (f := (k : Int)) (by omega) hok
      have ec : ((k + 1 : Nat) : Int) = (k : Int) + 1 := by omega
      rw [ec] at hEf ⊢
      have e0 : fuE g lo hi ((k : Int) + 1) = 0 := by rw [hEf, hmo.1]; rfl
      refine ⟨e0, ?_⟩
      rw [t2, t3, fuV_0 hk0, fuV_0 hk0, fuV_0 e0, fuV_0 e0]
      unfold iniB
      rw [hsp _ (by omega) hok, hsp _ (by omega) hmo.1]
      simp
      omega
  · rw [hln] at hl
    have hms := mis_sup (lo := lo) (hi := hi) (x := x) g
    have hen : enou g lo hi (f : Int) x = true := enou_iff.2 (by omega)
    have hh := fu_has (by omega) hen
    have e0 : fuE g lo hi (f : Int) = 0 := by rw [hEf, hh.1]; rfl
    rw [fuV_0 e0, fuV_0 e0]
    unfold havB
    rw [hsp _ (by omega) hh.1, hit_iff.2 hh.2]; rfl
  · subst hz
    have hme := fu_meet (n := g) (lo := lo) (hi := hi) (by omega) fun k hk => (hv k hk).2.1
    have ec : ((0 : Nat) : Int) = 0 := rfl
    rw [ec] at hEf ⊢
    rw [hme.1] at hEf
    refine ⟨?_, fun ha => ?_⟩
    · rw [hEf]; cases mtA lo hi g <;> rfl
    · rw [ha, if_pos rfl] at hEf
      rw [fuV_0 hEf, fuV_0 hEf]
      exact hme.2 ha
  · obtain ⟨t1, t2, t3⟩ := th_s g lo hi f
    refine ⟨by omega, by omega, f + 1, ?_, by omega, t2.symm, t3.symm, by omega, by omega⟩
    rw [t1, Bool.eq_iff_iff]; simp
end
end Abs
open Go.ChangeShapes Go.WideShapes Go.ChangeAt Go.RowKit
set_option maxRecDepth 100000 in
theorem estimateFused_lifted (os : Os) (started : os.Started) (H : Type) (enc : TypeId × Value → H) :
    ReturnsInHanded {} Try.checked os 6 .any (Rows.estimateFusedSpec.pre6 enc Try.prog Try.f6 Rows.estimateFusedRow.domain false) (Rows.estimateFusedSpec.post enc Try.prog Try.f6 false true false false) := by
  refine returnsInHanded_of_change (C := Try.checked) (show ownKnob Try.prog.godebug = none by kernel_rfl) started (by kernel_rfl) Try.func6
    (ChangeSpec.witness6 (enc := enc) (C := Try.checked) false ⟨#[], #[.slice none 0 0, .int .i64 0], []⟩ 8 (by kernel_rfl) (by kernel_rfl) (by kernel_rfl) (by kernel_rfl)) ?_
  intro W base args ds gs before hval0 hW hcnd _
  have hW0 := hW
  obtain ⟨p, q, hA, hV, rfl, hfz, hnd⟩ := hW0
  refine (Abs.law_calls (enc' := enc) Abs.estimateFused_law (fn := Try.f6) (d := 3) (by kernel_rfl) hA hval0).mono fun e W' hh => ?_
  obtain ⟨he, hb⟩ := hh
  subst he
  exact ⟨_, rfl, Abs.law_post (s := Rows.estimateFusedSpec) (f := Try.f6) (by kernel_rfl) rfl (by kernel_rfl) (by kernel_rfl) rfl 2 (by kernel_rfl) (fun ds hl => by
    rcases ds with _ | ⟨d0, _ | ⟨d1, _ | ⟨d2, _⟩⟩⟩
    all_goals first | exact ⟨rfl, rfl, rfl⟩ | (exfalso; simp only [List.length_cons, List.length_nil] at hl; omega)) hW hb⟩
theorem estimateFused_holds : Rows.EstimateFusedSaid :=
  OpenClaim.holds_of_wide 6 Try.f6 rfl rfl rfl rfl rfl rfl rfl ⟨rfl, rfl, rfl, rfl, rfl⟩ rfl rfl rfl rfl rfl (by kernel_rfl) Try.func6 (by kernel_rfl)
    (of_decide_eq_true (by kernel_rfl)) (by unfold Func.isWrapper; first | (rw [if_pos (by decide +kernel)]; kernel_rfl) | (rw [if_neg (by decide +kernel)]; exact ⟨rfl, rfl⟩))
    (fun os started H enc _ => estimateFused_lifted os started H enc)
end Go.Proofs.Yteoaeodalknkiaa
