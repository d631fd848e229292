/- No band is narrower than the one that is returned and can be reached in the ticks, for all levels (at most 16, made of any numbers), ticks up to 255 and bands; no condition. -/
import Derived.Test.YtdhbbdljiidgiaaQGe9db916c
import Derived.Test.YtdhbbdljiidgiaaRows
set_option linter.unusedSimpArgs false
set_option linter.unusedVariables false
namespace Go.Proofs.Ytdhbbdljiidgiaa
namespace Abs
open Go Go.RowKit
attribute [local irreducible] FnSat
theorem zero_exc {n : Nat} {c : Nat -> Int} {t : Int} (h : ∀ k, k < n -> 0 <= c k /\ c k <= 100) (t0 : 0 <= t) {a b : Nat} (hab : a <= b) (hb : b < n) : excN c 0 100 a b <= endsN n a b * t :=
 brings_exc (F := fun _ => 0) ⟨rfl, rfl, fun _ _ => by omega, fun i hi => by have := h i hi; omega⟩ t0 hab hb
structure NarW (n : Nat) (c : Nat -> Int) (t : Int) (w l : Nat) : Prop where
 L : nwL n c t = l
 H : nwH n c t = (l : Int) + w
 b : l + w <= 100
 s : slB n c l ((l : Int) + w) t = true
 no : ∀ w' l', w' < w -> l' + w' <= 100 -> slB n c l' ((l' : Int) + w') t = false
theorem narW {n : Nat} {c : Nat -> Int} {t : Int} (hn : 0 < n) (h : ∀ k, k < n -> 0 <= c k /\ c k <= 100) (t0 : 0 <= t) (t1 : t <= 1600) : ∃ w l, NarW n c t w l := by
 have hT : nwT t = t := by rw [nwT_eq]; omega
 have hq : ∀ w l, nwQ n c t w l = slB n c l ((l : Int) + w) t := fun w l => by rw [nwQ_eq, hT]
 have h100 : nwP n c t 100 = true := by
  unfold nwP
  refine anyN_iff.2 ⟨0, by omega, ?_⟩
  rw [hq]
  exact slB_of (by omega) t0 hn fun a b hab hb => by simpa using zero_exc h t0 hab hb
 have hW : nwW n c t < 101 := by
  have hle := firstN_le (nwP n c t) 101
  rw [<- nwW_eq] at hle
  rcases Nat.lt_or_ge (nwW n c t) 101 with hh | hh
  ·exact hh
  ·have := firstN_not (nwP n c t) 101 100 (by rw [<- nwW_eq]; omega)
   rw [h100] at this; cases this
 have hP := firstN_is (nwP n c t) 101 (by rw [<- nwW_eq]; exact hW)
 rw [<- nwW_eq] at hP
 have hF : nwF n c t (nwW n c t) < 101 - nwW n c t := by
  unfold nwP at hP
  obtain ⟨k, hk, hp⟩ := anyN_iff.1 hP
  rw [nwF_eq]
  have hle := firstN_le (nwQ n c t (nwW n c t)) (101 - nwW n c t)
  rcases Nat.lt_or_ge (firstN (nwQ n c t (nwW n c t)) (101 - nwW n c t)) (101 - nwW n c t) with hh | hh
  ·exact hh
  ·have := firstN_not (nwQ n c t (nwW n c t)) (101 - nwW n c t) k (by omega)
   rw [hp] at this; cases this
 have hS := firstN_is (nwQ n c t (nwW n c t)) (101 - nwW n c t) (by rw [<- nwF_eq]; exact hF)
 rw [<- nwF_eq, hq] at hS
 refine ⟨nwW n c t, nwF n c t (nwW n c t), ?_, ?_, by omega, hS, fun w' l' hw hl => ?_⟩
 ·unfold nwL; rw [if_pos hW]
 ·unfold nwH; rw [if_pos hW]
 ·have hp := firstN_not (nwP n c t) 101 w' (by rw [<- nwW_eq]; exact hw)
  unfold nwP at hp
  have := anyN_false.1 hp l' (by omega)
  rwa [hq] at this
set_option maxRecDepth 100000 in
theorem packNarrow_law : LawFn Try.prog 5 [.slice 1 [.int .u8], .int .u8, .int .u8, .int .u8] := by
 refine FnSpec.of SJ1_ok mixed (U := 0) (I := fun _ => []) Try.func5 rfl (by kernel_rfl) rfl rfl (by decide +kernel) ?_
 rintro ⟨⟨q, l'⟩, (t : Int), (o : Int), (w : Int), ⟨⟩⟩ hv
 obtain ⟨l, rfl⟩ : ∃ l : Nat -> Int, l' = fun k => (l k, ()) := ⟨fun k => (l' k).1, rfl⟩
 unfold FnSat
 conv => arg 2; reduce
 simp [truS, smlS, nwS, qckS, ElEq, getB, goneB, aliveB, and_assoc]
 have e1 : (fun k => l k) = l := rfl
 simp only [e1]
 have u8 : ∀ x : Int, InR .u8 x -> 0 <= x /\ x <= 255 := fun x h => by
  unfold InR at h
  simpa [IntKind.min, IntKind.max, IntKind.signed, IntKind.bits] using h
 have hl : ∀ k, k < q -> 0 <= l k /\ l k <= 255 := fun k hk => u8 _ (hv.1.2 k hk).1
 have ht := u8 t hv.2.1
 have ho := u8 o hv.2.2.1
 have hw := u8 w hv.2.2.2.1
 have hqm : q <= maxLen := hv.1.1
 have hn := smN_in (q := q) (many := 16) (by omega)
 have hc : ∀ k, 0 <= smC l o 100 k /\ smC l o 100 k <= 100 := fun k => smC_in (by omega) k
 have e2 : (fun k => smC l o 100 k) = smC l o 100 := rfl
 simp only [e2]
 generalize smN q 16 = n at *
 generalize smC l o 100 = c at *
 have hlv : lvE n c = 0 := lvE_0.2 ⟨by omega, by omega, fun k _ => hc k⟩
 have hne : nwE n c t = 0 := nwE_ok hlv ht.1
 obtain ⟨w0, l0, N⟩ := narW (n := n) (c := c) (t := t) (by omega) (fun k _ => hc k) ht.1 (by omega)
 have hfew : ∀ a b : Int, 0 <= a -> a <= b -> b <= 100 -> bdE n c a b = 0 := fun a b h1 h2 h3 => bdE_0.2 ⟨hlv, h1, h2, h3⟩
 have hsq := (slB_q (n := n) (c := c) (lo := l0) (hi := (l0 : Int) + w0) (t := t) (by omega) ht.1 (by omega)).1 N.s
 have hb := N.b
 have hf0 : fewE n c l0 ((l0 : Int) + w0) = 0 := fewE_ok (hfew _ _ (by omega) (by omega) (by omega)) hsq.1
 rw [hne, N.L, N.H, okI_0 rfl, okI_0 rfl, hf0, okI_0 rfl]
 have ew : (l0 : Int) + w0 - l0 = w0 := by omega
 rw [ew]
 refine ⟨hqm, ho.1, ho.2, hl, by omega, by omega, fun _ _ => by omega, rfl, rfl, hsq.2, fun _ _ _ => ⟨by omega, by omega, fun hw0 => ?_⟩⟩
 have hW := Int.emod_nonneg w (show (w0 : Int) ≠ 0 from hw0)
 have hW2 := Int.emod_lt_of_pos w (show (0 : Int) < w0 by omega)
 rw [tmod_e hw.1]
 generalize w % (w0 : Int) = W at *
 have hO := Int.emod_nonneg o (show (101 : Int) - W ≠ 0 by omega)
 have hO2 := Int.emod_lt_of_pos o (show (0 : Int) < 101 - W by omega)
 rw [tmod_e ho.1]
 generalize o % (101 - W) = O at *
 obtain ⟨x, rfl⟩ := Int.eq_ofNat_of_zero_le hW
 obtain ⟨y, rfl⟩ := Int.eq_ofNat_of_zero_le hO
 have hno := N.no x y (by omega) (by omega)
 have hbd := hfew (y : Int) ((y : Int) + x) (by omega) (by omega) (by omega)
 have hq2 := slB_q (n := n) (c := c) (lo := y) (hi := (y : Int) + x) (t := t) (by omega) ht.1 (by omega)
 refine ⟨by omega, by omega, by omega, by omega, hw0, by omega, by omega, by omega, by omega, by omega, by omega, by omega, fun _ _ => by omega, fun a b => ⟨a, b⟩, ?_⟩
 by_cases hp : posB n c (y : Int) ((y : Int) + x) = true
 ·have hf := fewE_ok hbd hp
  refine .inr ⟨hf, ?_⟩
  rw [okI_0 hf]
  apply Int.lt_of_not_ge
  intro hle
  rw [hq2.2 ⟨hp, hle⟩] at hno; cases hno
 ·exact .inl (fewE_18 hbd (by simpa using hp))
end Abs
open Go.ChangeShapes Go.WideShapes Go.ChangeAt Go.RowKit
set_option maxRecDepth 100000 in
theorem packNarrow_lifted (os : Os) (started : os.Started) (H : Type) (enc : TypeId × Value -> H) :
  ReturnsInHanded {} Try.checked os 5 .any (Rows.packNarrowSpec.pre6 enc Try.prog Try.f5 Rows.packNarrowRow.domain false) (Rows.packNarrowSpec.post enc Try.prog Try.f5 false true false false) := by
 refine returnsInHanded_of_change (C := Try.checked) (show ownKnob Try.prog.godebug = none by kernel_rfl) started (by kernel_rfl) Try.func5
  (ChangeSpec.witness6 (enc := enc) (C := Try.checked) false ⟨#[], #[.slice none 0 0, .int .u8 0, .int .u8 0, .int .u8 0], []⟩ 8 (by kernel_rfl) (by kernel_rfl) (by kernel_rfl) (by kernel_rfl)) ?_
 intro W base args ds gs before hval0 hW hcnd _
 have hW0 := hW
 obtain ⟨p, q, hA, hV, rfl, hfz, hnd⟩ := hW0
 refine (Abs.law_calls (enc' := enc) Abs.packNarrow_law (fn := Try.f5) (d := 2) (by kernel_rfl) hA hval0).mono fun e W' hh => ?_
 obtain ⟨he, hb⟩ := hh
 subst he
 exact ⟨_, rfl, Abs.law_post (s := Rows.packNarrowSpec) (f := Try.f5) (by kernel_rfl) rfl (by kernel_rfl) (by kernel_rfl) rfl 4 (by kernel_rfl) (fun ds hl => by
  rcases ds with _ | ⟨d0, _ | ⟨d1, _ | ⟨d2, _ | ⟨d3, _ | ⟨d4, _⟩⟩⟩⟩⟩
  all_goals first | exact ⟨rfl, rfl, rfl⟩ | (exfalso; simp only [List.length_cons, List.length_nil] at hl; omega)) hW hb⟩
theorem packNarrow_holds : Rows.PackNarrowSaid :=
 OpenClaim.holds_of_wide 5 Try.f5 rfl rfl rfl rfl rfl rfl rfl ⟨rfl, rfl, rfl, rfl, rfl⟩ rfl rfl rfl rfl rfl (by kernel_rfl) Try.func5 (by kernel_rfl)
  (of_decide_eq_true (by kernel_rfl)) (by unfold Func.isWrapper; first | (rw [if_pos (by decide +kernel)]; kernel_rfl) | (rw [if_neg (by decide +kernel)]; exact ⟨rfl, rfl⟩))
  (fun os started H enc _ => packNarrow_lifted os started H enc)
end Go.Proofs.Ytdhbbdljiidgiaa
