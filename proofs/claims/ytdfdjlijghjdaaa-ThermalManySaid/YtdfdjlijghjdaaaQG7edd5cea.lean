/- A part of the proof: no statement of its own. -/
import Derived.Test.YtdfdjlijghjdaaaQG54a39de3
set_option linter.unusedSimpArgs false
set_option linter.unusedVariables false
namespace Go.Proofs.Ytdfdjlijghjdaaa
namespace Abs
open Go Go.RowKit
@[irreducible] def wyP (s : Sys) (y : Nd) (k : Nat) : Bool := decide (y.slot < s.nld) && wyB s y k
theorem wyP_iff {s : Sys} {y : Nd} {k : Nat} : wyP s y k = true ↔ y.slot < s.nld /\ wyB s y k = true := by unfold wyP; simp
@[irreducible] def posW (s : Sys) (y : Nd) (j : Nat) : Nat := if j < wyN s y then wyM s y j else s.nmd
theorem posW_lt {s : Sys} {y : Nd} {j : Nat} (h : j < wyN s y) : posW s y j = wyM s y j := by unfold posW; rw [if_pos h]
theorem posW_end {s : Sys} {y : Nd} {j : Nat} (h : wyN s y <= j) : posW s y j = s.nmd := by unfold posW; rw [if_neg (by omega)]
theorem still {α : Type} {F : Nat -> α} {p : Nat -> Bool} {a n : Nat} (h : ∀ k, k < n -> p k = false -> F (k + 1) = F k) : ∀ {b : Nat}, a <= b -> b <= n -> (∀ k, a <= k -> k < b -> p k = false) -> F b = F a
 | 0, hab, _, _ => by obtain rfl : a = 0 := by omega
                      rfl
 | b + 1, hab, hb, hp => by
   rcases Nat.lt_or_ge a (b + 1) with h1 | h1
   ·rw [h b (by omega) (hp b (by omega) (by omega))]
    exact still h (by omega) (by omega) fun k h2 h3 => hp k h2 (by omega)
   ·obtain rfl : a = b + 1 := by omega
    rfl
theorem wyN_cnt {s : Sys} {y : Nd} (h : y.slot < s.nld) : wyN s y = cntP (wyB s y) s.nmd := by unfold wyN; rw [if_pos h]
theorem wyM_cnt {s : Sys} {y : Nd} {j : Nat} (h : j < wyN s y) : cntP (wyB s y) (wyM s y j) = j := by
 have hs := (wyM_spec h).1
 rw [wyN_cnt hs] at h
 unfold wyM
 exact (selN_spec h).2.2
theorem no_between {s : Sys} {y : Nd} {a j : Nat} (hs : y.slot < s.nld) (ha : cntP (wyB s y) a = j) {k : Nat} (h1 : a <= k) (h2 : k < posW s y j) : wyB s y k = false := by
 cases hb : wyB s y k with
 | false => rfl
 | true =>
   have hk := cntP_mono (p := wyB s y) h1
   by_cases hj : j < wyN s y
   ·rw [posW_lt hj] at h2
    have := cntP_mono (p := wyB s y) (show k + 1 <= wyM s y j by omega)
    rw [cntP_yes hb, wyM_cnt hj] at this
    omega
   ·rw [posW_end (by omega)] at h2
    have := cntP_mono (p := wyB s y) (show k + 1 <= s.nmd by omega)
    rw [cntP_yes hb, <- wyN_cnt hs] at this
    omega
theorem posW_le {s : Sys} {y : Nd} (j : Nat) : posW s y j <= s.nmd := by
 by_cases hj : j < wyN s y
 ·rw [posW_lt hj]; have := (wyM_spec hj).2.1; omega
 ·rw [posW_end (by omega)]; exact Nat.le_refl _
theorem pos_zero {α : Type} {F : Nat -> α} {s : Sys} {y : Nd} (h : ∀ k, k < s.nmd -> wyP s y k = false -> F (k + 1) = F k) : F (posW s y 0) = F 0 := by
 refine still (p := wyP s y) h (Nat.zero_le _) (posW_le 0) fun k _ h2 => ?_
 unfold wyP
 by_cases hs : y.slot < s.nld
 ·rw [no_between hs (cntP_zero _) (Nat.zero_le _) h2]; simp
 ·simp [hs]
theorem pos_succ {α : Type} {F : Nat -> α} {s : Sys} {y : Nd} {j : Nat} (h : ∀ k, k < s.nmd -> wyP s y k = false -> F (k + 1) = F k) (hj : j < wyN s y) : F (posW s y (j + 1)) = F (wyM s y j + 1) := by
 have hw := wyM_spec hj
 have hc : cntP (wyB s y) (wyM s y j + 1) = j + 1 := by rw [cntP_yes hw.2.2, wyM_cnt hj]
 refine still (p := wyP s y) h ?_ (posW_le _) fun k h1 h2 => ?_
 ·by_cases hj' : j + 1 < wyN s y
  ·rw [posW_lt hj']
   rcases Nat.lt_or_ge (wyM s y j) (wyM s y (j + 1)) with h1 | h1
   ·exact h1
   ·have := cntP_mono (p := wyB s y) h1
    rw [wyM_cnt hj, wyM_cnt hj'] at this; omega
  ·rw [posW_end (by omega)]; exact hw.2.1
 ·unfold wyP
  rw [no_between hw.1 hc h1 h2]; simp
@[irreducible] def nxD (s : Sys) (y : Nd) (k : Nat) : Nd := ⟨y.slot + 1, adV s y.slot k y.box, 0⟩
@[simp] theorem nxD_slot (s : Sys) (y : Nd) (k : Nat) : (nxD s y k).slot = y.slot + 1 := by unfold nxD; simp
@[simp] theorem nxD_box (s : Sys) (y : Nd) (k : Nat) : (nxD s y k).box = adV s y.slot k y.box := by unfold nxD; simp
@[simp] theorem nxD_val (s : Sys) (y : Nd) (k : Nat) : (nxD s y k).val = 0 := by unfold nxD; simp
abbrev Gs := Nat × (Nat -> Nd)
@[irreducible] def adG (P : Gs) (x : Nd) : Gs := (adN P.2 P.1 x, adE P.2 P.1 x)
theorem adG_1 (P : Gs) (x : Nd) : (adG P x).1 = adN P.2 P.1 x := by unfold adG; rfl
theorem adG_2 (P : Gs) (x : Nd) : (adG P x).2 = adE P.2 P.1 x := by unfold adG; rfl
def fkG (s : Sys) (y : Nd) (P : Gs) : Nat -> Gs
 | 0 => P
 | k + 1 => if wyP s y k = true then adG (fkG s y P k) (nxD s y k) else fkG s y P k
theorem fkG_zero (s : Sys) (y : Nd) (P : Gs) : fkG s y P 0 = P := rfl
theorem fkG_no {s : Sys} {y : Nd} {P : Gs} {k : Nat} (h : wyP s y k = false) : fkG s y P (k + 1) = fkG s y P k := by rw [fkG, h]; simp
theorem fkG_yes {s : Sys} {y : Nd} {P : Gs} {k : Nat} (h : wyP s y k = true) : fkG s y P (k + 1) = adG (fkG s y P k) (nxD s y k) := by rw [fkG, if_pos h]
attribute [irreducible] fkG
def exG (s : Sys) : Nat -> Gs
 | 0 => (1, fun _ => ⟨0, s.st, 0⟩)
 | i + 1 => fkG s ((exG s i).2 i) (exG s i) s.nmd
theorem exG_zero (s : Sys) : exG s 0 = (1, fun _ => ⟨0, s.st, 0⟩) := rfl
theorem exG_succ (s : Sys) (i : Nat) : exG s (i + 1) = fkG s ((exG s i).2 i) (exG s i) s.nmd := rfl
attribute [irreducible] exG
@[irreducible] def exN (s : Sys) : Nat := firstN (fun i => decide ((exG s i).1 <= i) || decide (5000 < (exG s i).1)) 5001
def mnF (p : Nat -> Bool) (c v : Nat -> Int) : Nat -> Int
 | 0 => 1125899906842624
 | k + 1 => if p k = true /\ v k < 1125899906842624 then min (mnF p c v k) (c k + v k) else mnF p c v k
theorem mnF_zero (p : Nat -> Bool) (c v : Nat -> Int) : mnF p c v 0 = 1125899906842624 := rfl
theorem mnF_succ (p : Nat -> Bool) (c v : Nat -> Int) (k : Nat) : mnF p c v (k + 1) = if p k = true /\ v k < 1125899906842624 then min (mnF p c v k) (c k + v k) else mnF p c v k := rfl
attribute [irreducible] mnF
def vlD (s : Sys) : Nat -> Nd -> Int
 | 0, _ => 0
 | m + 1, y => mnF (wyP s y) (fun k => (s.md k).cost) (fun k => vlD s m (nxD s y k)) s.nmd
theorem vlD_zero (s : Sys) (y : Nd) : vlD s 0 y = 0 := rfl
theorem vlD_succ (s : Sys) (m : Nat) (y : Nd) : vlD s (m + 1) y = mnF (wyP s y) (fun k => (s.md k).cost) (fun k => vlD s m (nxD s y k)) s.nmd := rfl
attribute [irreducible] vlD
theorem mnF_bnd {p : Nat -> Bool} {c v : Nat -> Int} {n : Nat} (h : ∀ k, k < n -> p k = true -> 0 <= c k /\ 0 <= v k) : ∀ {k : Nat}, k <= n -> 0 <= mnF p c v k /\ mnF p c v k <= 1125899906842624
 | 0, _ => by rw [mnF_zero]; omega
 | k + 1, hk => by
   have ih := mnF_bnd h (k := k) (by omega)
   rw [mnF_succ]
   split
   ·rename_i hp
    have := h k (by omega) hp.1
    omega
   ·exact ih
theorem vlD_bnd {s : Sys} (hc : checkB s = true) : ∀ {m : Nat} {y : Nd}, 0 <= vlD s m y /\ vlD s m y <= 1125899906842624
 | 0, y => by rw [vlD_zero]; omega
 | m + 1, y => by
   rw [vlD_succ]
   refine mnF_bnd (n := s.nmd) (fun k hk _ => ⟨?_, (vlD_bnd hc).1⟩) (Nat.le_refl _)
   exact (modeB_iff.1 ((checkB_iff.1 hc).2.2.2.2.2.2.2.2.2.2 k hk)).1
@[irreducible] def vlN (s : Sys) (y : Nd) : Int := vlD s ((s.nld : Int) - y.slot).toNat y
theorem vlN_end {s : Sys} {y : Nd} (h : y.slot = s.nld) : vlN s y = 0 := by
 unfold vlN
 rw [h, show ((s.nld : Int) - s.nld).toNat = 0 by omega, vlD_zero]
theorem vlN_step {s : Sys} {y : Nd} (h : y.slot < s.nld) : vlN s y = mnF (wyP s y) (fun k => (s.md k).cost) (fun k => vlN s (nxD s y k)) s.nmd := by
 unfold vlN
 rw [show ((s.nld : Int) - y.slot).toNat = ((s.nld : Int) - (y.slot + 1)).toNat + 1 by omega, vlD_succ]
 simp only [nxD_slot]
theorem vlN_bnd {s : Sys} (hc : checkB s = true) (y : Nd) : 0 <= vlN s y /\ vlN s y <= 1125899906842624 := by unfold vlN; exact vlD_bnd hc
theorem nxV_congr {m : Mo} {n : Nat} (h : modeB m (n : Int) = true) (hn : n <= 3) {t t' w : Nat -> Int} (ht : ∀ k, k < n -> t k = t' k) {i : Nat} (hi : i < n) : nxV m t w i = nxV m t' w i := by
 have h1 := nxV_mono h hn (t := t) (t' := t') (w := w) (w' := w) (fun k hk => by have := ht k hk; omega) (fun k _ => Int.le_refl _) hi
 have h2 := nxV_mono h hn (t := t') (t' := t) (w := w) (w' := w) (fun k hk => by have := ht k hk; omega) (fun k _ => Int.le_refl _) hi
 omega
theorem adV_congr {s : Sys} {y y' : Nd} {k : Nat} (hc : checkB s = true) (hk : k < s.nmd) (hs : y.slot = y'.slot) (hl : y.box.len = s.lim.len) (hb : eqBx y.box y'.box = true) : eqBx (adV s y.slot k y.box) (adV s y'.slot k y'.box) = true := by
 have c := checkB_iff.1 hc
 have hmd := c.2.2.2.2.2.2.2.2.2.2 k hk
 obtain ⟨h1, h2⟩ := eqBx_iff.1 hb
 refine eqBx_iff.2 ⟨by rw [adV_len, adV_len]; exact h1, fun j hj => ?_⟩
 rw [adV_len] at hj
 rw [adV_lo, adV_lo, adV_hi, adV_hi, hs]
 rw [show ((k : Int)).toNat = k by omega]
 exact ⟨nxV_congr hmd c.2.1 (fun i hi => (h2 i (by omega)).1) (by omega), nxV_congr hmd c.2.1 (fun i hi => (h2 i (by omega)).2) (by omega)⟩
theorem inV_congr {l b b' : Bx} (h : eqBx b b' = true) : inV l b = inV l b' := by
 obtain ⟨h1, h2⟩ := eqBx_iff.1 h
 rw [Bool.eq_iff_iff, inV_iff, inV_iff]
 constructor
 ·intro hh k hk
  have a := hh k (by omega)
  have b := h2 k (by omega)
  omega
 ·intro hh k hk
  have a := hh k (by omega)
  have b := h2 k (by omega)
  omega
theorem wyP_congr {s : Sys} {y y' : Nd} {k : Nat} (hc : checkB s = true) (hk : k < s.nmd) (hs : y.slot = y'.slot) (hl : y.box.len = s.lim.len) (hb : eqBx y.box y'.box = true) : wyP s y k = wyP s y' k := by
 unfold wyP wyB
 rw [inV_congr (adV_congr hc hk hs hl hb), hs]
theorem mnF_congr {p p' : Nat -> Bool} {c v v' : Nat -> Int} {n : Nat} (h : ∀ k, k < n -> p k = p' k /\ v k = v' k) : ∀ {k : Nat}, k <= n -> mnF p c v k = mnF p' c v' k
 | 0, _ => by rw [mnF_zero, mnF_zero]
 | k + 1, hk => by
   have := h k (by omega)
   rw [mnF_succ, mnF_succ, mnF_congr h (k := k) (by omega), this.1, this.2]
theorem vlD_congr {s : Sys} (hc : checkB s = true) : ∀ {m : Nat} {y y' : Nd}, y.slot = y'.slot -> y.box.len = s.lim.len -> eqBx y.box y'.box = true -> vlD s m y = vlD s m y'
 | 0, y, y', _, _, _ => by rw [vlD_zero, vlD_zero]
 | m + 1, y, y', hs, hl, hb => by
   rw [vlD_succ, vlD_succ]
   refine mnF_congr (n := s.nmd) (fun k hk => ⟨wyP_congr hc hk hs hl hb, ?_⟩) (Nat.le_refl _)
   exact vlD_congr hc (by simp [hs]) (by simp [hl]) (by simpa using adV_congr hc hk hs hl hb)
theorem vlN_congr {s : Sys} (hc : checkB s = true) {y y' : Nd} (hs : y.slot = y'.slot) (hl : y.box.len = s.lim.len) (hb : eqBx y.box y'.box = true) : vlN s y = vlN s y' := by
 unfold vlN
 rw [hs]; exact vlD_congr hc hs hl hb
@[irreducible] def erV (y : Nd) : Nd := ⟨y.slot, y.box, 0⟩
@[simp] theorem erV_slot (y : Nd) : (erV y).slot = y.slot := by unfold erV; simp
@[simp] theorem erV_box (y : Nd) : (erV y).box = y.box := by unfold erV; simp
theorem wyB_er (s : Sys) (y : Nd) : wyB s (erV y) = wyB s y := by funext k; unfold wyB; simp
theorem wyP_er (s : Sys) (y : Nd) : wyP s (erV y) = wyP s y := by funext k; unfold wyP; simp [wyB_er]
theorem wyN_er (s : Sys) (y : Nd) : wyN s (erV y) = wyN s y := by unfold wyN; simp [wyB_er]
theorem wyM_er (s : Sys) (y : Nd) : wyM s (erV y) = wyM s y := by funext k; unfold wyM; simp [wyB_er]
theorem posW_er (s : Sys) (y : Nd) : posW s (erV y) = posW s y := by funext k; unfold posW; simp [wyN_er, wyM_er]
theorem nxD_er (s : Sys) (y : Nd) : nxD s (erV y) = nxD s y := by funext k; unfold nxD; simp
theorem kyE_er (y : Nd) (s : Int) (b : Bx) : kyE (erV y) s b = kyE y s b := by unfold kyE; simp
theorem fdN_er (nd : Nat -> Nd) (s : Int) (b : Bx) (n : Nat) : fdN (fun k => erV (nd k)) s b n = fdN nd s b n := by unfold fdN; simp only [kyE_er]
theorem vlD_er (s : Sys) : ∀ (m : Nat) (y : Nd), vlD s m (erV y) = vlD s m y
 | 0, y => by rw [vlD_zero, vlD_zero]
 | m + 1, y => by rw [vlD_succ, vlD_succ, wyP_er, nxD_er]
theorem vlN_er (s : Sys) (y : Nd) : vlN s (erV y) = vlN s y := by unfold vlN; rw [vlD_er]; simp
def knR (s : Sys) (nd : Nat -> Nd) (n : Nat) : Nat -> (Nat -> Bool) -> Nat -> Nat -> Bool
 | 0, kn, _ => kn
 | m + 1, kn, i => if kn i = true \/ (nd i).slot = s.nld then kn else Nat.rec (motive := fun _ => Nat -> Bool) (fun k => kn k || decide (k = i)) (fun k F => if wyP s (nd i) k = true then knR s nd n m F (fdN nd ((nd i).slot + 1) (adV s (nd i).slot k (nd i).box) n) else F) s.nmd
@[irreducible] def knF (s : Sys) (nd : Nat -> Nd) (n m : Nat) (kn : Nat -> Bool) (i : Nat) (k : Nat) : Nat -> Bool :=
 Nat.rec (motive := fun _ => Nat -> Bool) (fun k => kn k || decide (k = i)) (fun k F => if wyP s (nd i) k = true then knR s nd n m F (fdN nd ((nd i).slot + 1) (adV s (nd i).slot k (nd i).box) n) else F) k
theorem knR_zero (s : Sys) (nd : Nat -> Nd) (n : Nat) (kn : Nat -> Bool) (i : Nat) : knR s nd n 0 kn i = kn := rfl
theorem knR_succ (s : Sys) (nd : Nat -> Nd) (n m : Nat) (kn : Nat -> Bool) (i : Nat) : knR s nd n (m + 1) kn i = if kn i = true \/ (nd i).slot = s.nld then kn else knF s nd n m kn i s.nmd := by unfold knF; rfl
theorem knF_zero (s : Sys) (nd : Nat -> Nd) (n m : Nat) (kn : Nat -> Bool) (i : Nat) : knF s nd n m kn i 0 = fun k => kn k || decide (k = i) := by unfold knF; rfl
theorem knF_succ (s : Sys) (nd : Nat -> Nd) (n m : Nat) (kn : Nat -> Bool) (i k : Nat) : knF s nd n m kn i (k + 1) = if wyP s (nd i) k = true then knR s nd n m (knF s nd n m kn i k) (fdN nd ((nd i).slot + 1) (adV s (nd i).slot k (nd i).box) n) else knF s nd n m kn i k := by unfold knF; rfl
attribute [irreducible] knR
theorem knR_mono {s : Sys} {nd : Nat -> Nd} {n : Nat} : ∀ {m : Nat} {kn : Nat -> Bool} {i k : Nat}, kn k = true -> knR s nd n m kn i k = true
 | 0, kn, i, k, h => by rw [knR_zero]; exact h
 | m + 1, kn, i, k, h => by
   rw [knR_succ]
   split
   ·exact h
   ·have key : ∀ q, knF s nd n m kn i q k = true := by
     intro q
     induction q with
     | zero => rw [knF_zero]; simp [h]
     | succ q ih =>
       rw [knF_succ]
       split
       ·exact knR_mono ih
       ·exact ih
    exact key _
theorem knF_mono {s : Sys} {nd : Nat -> Nd} {n m : Nat} {kn : Nat -> Bool} {i k q : Nat} (h : kn k = true) : knF s nd n m kn i q k = true := by
 induction q with
 | zero => rw [knF_zero]; simp [h]
 | succ q ih =>
   rw [knF_succ]
   split
   ·exact knR_mono ih
   ·exact ih
theorem knF_self {s : Sys} {nd : Nat -> Nd} {n m : Nat} {kn : Nat -> Bool} {i q : Nat} : knF s nd n m kn i q i = true := by
 induction q with
 | zero => rw [knF_zero]; simp
 | succ q ih =>
   rw [knF_succ]
   split
   ·exact knR_mono ih
   ·exact ih
theorem knR_self {s : Sys} {nd : Nat -> Nd} {n m : Nat} {kn : Nat -> Bool} {i : Nat} (h : (nd i).slot ≠ s.nld) : knR s nd n (m + 1) kn i i = true := by
 rw [knR_succ]
 split
 ·rename_i h1; exact h1.resolve_right h
 ·exact knF_self
theorem knF_no {s : Sys} {nd : Nat -> Nd} {n m : Nat} {kn : Nat -> Bool} {i k : Nat} (h : wyP s (nd i) k = false) : knF s nd n m kn i (k + 1) = knF s nd n m kn i k := by rw [knF_succ, h]; simp
theorem knF_yes {s : Sys} {nd : Nat -> Nd} {n m : Nat} {kn : Nat -> Bool} {i k : Nat} (h : wyP s (nd i) k = true) : knF s nd n m kn i (k + 1) = knR s nd n m (knF s nd n m kn i k) (fdN nd ((nd i).slot + 1) (adV s (nd i).slot k (nd i).box) n) := by rw [knF_succ, if_pos h]
theorem mnF_no {p : Nat -> Bool} {c v : Nat -> Int} {k : Nat} (h : p k = false) : mnF p c v (k + 1) = mnF p c v k := by rw [mnF_succ, h]; simp
end Abs
end Go.Proofs.Ytdfdjlijghjdaaa

namespace Go.Proofs.Ytdfdjlijghjdaaa
namespace Abs
open Go Go.RowKit
noncomputable section
def mkSumT (obs : List OB) (shs : List Sh) (sp : SpecF obs shs) : Summ2 := fun args hp =>
 forceN (addJ [] (refsA_refsLN args)) fun j1 => forceN (addJ j1 (refsH hp j1)) fun j2 => forceN (addJ j2 (refsH hp j2)) fun js =>
 match nodupB js && okR_okRLN (fun i => memN i js) args && okSub js hp js && okHB obs (subH js hp js) && okShLN shs (renA_renLN (posD js) args) with
 | true => decHK obs (subH js hp js) fun o => decKLN shs (renA_renLN (posD js) args) fun x =>
   (match okRN (fun _ => true) (sp.res o x) && okRH (fun _ => true) (sp.after o x) with
   | true => some ⟨appP (canHB obs (subH js hp js)) (appP (canShLN shs (renA_renLN (posD js) args)) [⟨fun z : DatH obs × DatL shs => sp.pre z.1 z.2, (o, x)⟩]),
     renAN (outN js hp.length) (sp.res o x), putH js (outN js hp.length) (sp.after o x) 0 hp ++ newH (outN js hp.length) js.length (sp.after o x), none⟩
   | false => none)
 | false => none
end
theorem mkSumT_ok {P : Program} {f : FuncId} {obs : List OB} {shs : List Sh} {sp : SpecF obs shs} (h : FnSpecF P f obs shs sp) : Summ2OK P f (mkSumT obs shs sp) := by
 intro args hp pre res hp' mv hm hpre
 unfold mkSumT at hm
 simp only [okShLN_eq, decKLN_eq, canShLN_eq, okR_okRLN_eq, okRN_eq, renA_renLN_eq, renAN_eq, refsA_refsLN_eq] at hm
 rw [forceN_eq, forceN_eq, forceN_eq] at hm
 generalize addJ (addJ (addJ [] (refsA.refsL args)) (refsH hp (addJ [] (refsA.refsL args)))) _ = js at hm
 split at hm
 ·rename_i hok
  simp only [Bool.and_eq_true] at hok
  obtain ⟨⟨⟨⟨h1, h2⟩, h3⟩, h4⟩, h5⟩ := hok
  rw [decHK_eq h4, decKL_eq h5] at hm
  split at hm
  ·rename_i h6
   simp only [Bool.and_eq_true] at h6
   injection hm with hm; injection hm with e1 e2 e3 e4
   subst e1 e2 e3 e4
   obtain ⟨h7, h8⟩ := appP_mem hpre
   obtain ⟨h9, h10⟩ := appP_mem h8
   have := h _ _ (h10 _ (List.mem_singleton.2 rfl))
   refine Fn.focus h1 h2 h3 h6.1 h6.2 ?_
   exact (this.weakenH (len_encH h4) fun C w i q => enc_decH h4 h7 i).weaken fun C w vs ha => encL_dec (can_shL h5 h9) ha
  ·cases hm
 ·cases hm
@[simp] theorem ndOf_gen (s : Int) (b : Bx) (v : Int) : ndOf (s, (b.len, fun k => (b.lo k, b.hi k, ())), v, ()) = Nd.mk s b v := by unfold ndOf; simp
@[simp] theorem nd_eta (y : Nd) : Nd.mk y.slot y.box y.val = y := by unfold Nd.slot Nd.box Nd.val; rfl
theorem nd_er (y : Nd) (v : Int) : erV (Nd.mk y.slot y.box v) = erV y := by unfold erV; simp
@[simp] theorem wyM_v (s : Sys) (y : Nd) (v : Int) : wyM s (Nd.mk y.slot y.box v) = wyM s y := by rw [<- wyM_er, nd_er, wyM_er]
@[simp] theorem wyN_v (s : Sys) (y : Nd) (v : Int) : wyN s (Nd.mk y.slot y.box v) = wyN s y := by rw [<- wyN_er, nd_er, wyN_er]
@[simp] theorem wyP_v (s : Sys) (y : Nd) (v : Int) : wyP s (Nd.mk y.slot y.box v) = wyP s y := by rw [<- wyP_er, nd_er, wyP_er]
@[simp] theorem nxD_v (s : Sys) (y : Nd) (v : Int) : nxD s (Nd.mk y.slot y.box v) = nxD s y := by rw [<- nxD_er, nd_er, nxD_er]
@[simp] theorem posW_v (s : Sys) (y : Nd) (v : Int) : posW s (Nd.mk y.slot y.box v) = posW s y := by rw [<- posW_er, nd_er, posW_er]
@[simp] theorem vlN_v (s : Sys) (y : Nd) (v : Int) : vlN s (Nd.mk y.slot y.box v) = vlN s y := by rw [<- vlN_er, nd_er, vlN_er]
theorem WyOK.v {s : Sys} {y : Nd} (h : WyOK s y) (v : Int) : WyOK s (Nd.mk y.slot y.box v) := ⟨h.ch, by simpa using h.sl, by simpa using h.ln, by simpa using h.nr⟩
@[irreducible] def knW (s : Sys) (nd : Nat -> Nd) (kn kn' : Nat -> Bool) (k : Nat) : Nd := if kn' k = true /\ kn k = false then ⟨(nd k).slot, (nd k).box, vlN s (nd k)⟩ else nd k
@[simp] theorem knW_slot (s : Sys) (nd : Nat -> Nd) (kn kn' : Nat -> Bool) (k : Nat) : (knW s nd kn kn' k).slot = (nd k).slot := by unfold knW; split <;> simp
@[simp] theorem knW_box (s : Sys) (nd : Nat -> Nd) (kn kn' : Nat -> Bool) (k : Nat) : (knW s nd kn kn' k).box = (nd k).box := by unfold knW; split <;> simp
@[irreducible] def knU (s : Sys) (nd : Nat -> Nd) (kn kn' : Nat -> Bool) (i : Nat) (v : Int) (k : Nat) : Nd := if k = i then ⟨(nd k).slot, (nd k).box, v⟩ else knW s nd kn kn' k
@[simp] theorem knU_slot (s : Sys) (nd : Nat -> Nd) (kn kn' : Nat -> Bool) (i : Nat) (v : Int) (k : Nat) : (knU s nd kn kn' i v k).slot = (nd k).slot := by unfold knU; split <;> simp
@[simp] theorem knU_box (s : Sys) (nd : Nat -> Nd) (kn kn' : Nat -> Bool) (i : Nat) (v : Int) (k : Nat) : (knU s nd kn kn' i v k).box = (nd k).box := by unfold knU; split <;> simp
structure GrOK (s : Sys) (n : Nat) (nd : Nat -> Nd) : Prop where
 ch : checkB s = true
 mx : SysMax s
 n5 : n <= 6000
 wy : ∀ k, k < n -> WyOK s (nd k) /\ (nd k).slot <= s.nld
 cl : ∀ k, k < n -> ∀ m, m < s.nmd -> wyP s (nd k) m = true -> fdB nd ((nd k).slot + 1) (adV s (nd k).slot m (nd k).box) n = true
structure VaOK (s : Sys) (m n : Nat) (nd : Nat -> Nd) (kn : Nat -> Bool) (i : Int) : Prop where
 gr : GrOK s n nd
 i0 : 0 <= i
 i1 : i < n
 fu : (s.nld : Int) < (nd (nat i)).slot + m
 kv : ∀ k, k < n -> (nd (nat i)).slot <= (nd k).slot -> kn k = true -> (nd k).val = vlN s (nd k)
 ev : ∀ k, k < n -> (nd k).slot = s.nld -> (nd k).val = 0
@[reducible] def valSh : List Sh := [.int .i64, .own 0 0, .own 1 0, .own 2 0, .own 3 0]
@[reducible] def valO : List OB := [.cells 61 [.own 4 0], .cells 97 [.rowr 5], .cells 26 sysCs, .cells 101 [.fn 62 [] [.own 0 0, .own 1 0, .own 2 0, .own 3 0]],
 .cells 64 (grSh 6 7), .row 4 1 [.bool], .row 31 3 ndCells, .tab 7 kyCells]
@[reducible] def syL (s : Sys) : List AV := [.slc (.sym s.lim.len) 2 (fun k => [.si .i64 (s.lim.lo k), .si .i64 (s.lim.hi k)]), .slc (.sym s.st.len) 2 (fun k => [.si .i64 (s.st.lo k), .si .i64 (s.st.hi k)]),
 .slc (.sym s.nmd) 3 (fun k => [.si .i64 (s.md k).cost, .slc (.sym (s.md k).nsh) 1 (fun j => [.si .i64 ((s.md k).sh j)]), .slc (.sym (s.md k).nfl) 3 (fun j => [.si .i64 ((s.md k).ff j), .si .i64 ((s.md k).ft j), .si .i64 ((s.md k).fp j)])]),
 .slc (.sym s.nld) 1 (fun k => [.slc (.sym (s.ld k).len) 2 (fun j => [.si .i64 ((s.ld k).lo j), .si .i64 ((s.ld k).hi j)])])]
@[reducible] def valH (s : Sys) (n : Nat) (nd : Nat -> Nd) (kn : Nat -> Bool) : Heap := [.cells 61 [.own 4 0], .cells 97 [.row 5], .cells 26 (syL s),
 .cells 101 [.fn (.func 62) [] [.own 0 0, .own 1 0, .own 2 0, .own 3 0]], .cells 64 (grL s 6 7), .row 4 1 (.sym n) (fun k => [.sb (kn k)]), .row 31 3 (.sym n) (fun k => ndL (nd k)), .tab (.sym n) 7 (fun k => ixL (nd k) k)]
def valF (f : Nat) : SpecF valO valSh := ⟨fun (_, _, sb, _, g, (nk, ke), (n, el), (m, te), _) ((i : Int), _) => nk = n /\ m = n /\ (∀ k, k < n -> te k = ixD (ndOf (el k)) k) /\ grOf g = sysOf sb /\ VaOK (sysOf sb) f n (fun k => ndOf (el k)) (fun k => (ke k).1) i,
 fun (_, _, sb, _, _, _, (_, el), _, _) ((i : Int), _) => .si .i64 (vlN (sysOf sb) (ndOf (el (nat i)))),
 fun (_, _, sb, _, _, (_, ke), (n, el), _, _) ((i : Int), _) => valH (sysOf sb) n (knW (sysOf sb) (fun k => ndOf (el k)) (fun k => (ke k).1) (knR (sysOf sb) (fun k => ndOf (el k)) n f (fun k => (ke k).1) (nat i))) (knR (sysOf sb) (fun k => ndOf (el k)) n f (fun k => (ke k).1) (nat i))⟩
def valG (f : Nat) : SpecF valO valSh := ⟨fun (a, b, sb, c, g, kk, (n, el), (m, te), d) x => (te = fun k => ixD (ndOf (el k)) k) /\ (valF f).pre (a, b, sb, c, g, kk, (n, el), (m, te), d) x, (valF f).res, (valF f).after⟩
theorem val_weak {P : Program} {g : FuncId} {f : Nat} (h : FnSpecF P g _ _ (valG f)) : FnSpecF P g _ _ (valF f) := by
 rintro ⟨a, b, sb, c, gr, ⟨nk, ke⟩, ⟨n, el⟩, ⟨m, te⟩, d⟩ x hx
 have hm : m = n := hx.2.1
 have ht : ∀ k, k < n -> te k = ixD (ndOf (el k)) k := hx.2.2.1
 subst hm
 refine (h (a, b, sb, c, gr, (nk, ke), (m, el), (m, fun k => ixD (ndOf (el k)) k), d) x ⟨rfl, hx.1, rfl, fun _ _ => rfl, hx.2.2.2⟩).weakenH rfl fun C w i q hr => ?_
 have key : ∀ q, BRel C w q (.tab (.sym m) 7 (fun k => encL kyCells (te k))) -> BRel C w q (.tab (.sym m) 7 (fun k => encL kyCells (ixD (ndOf (el k)) k))) := fun q hr => by
  cases q with
  | nil => exact hr.elim
  | «at» b c n =>
    obtain ⟨es, ck, vs, h1, h2, h3⟩ := hr
    refine ⟨es, ck, vs, h1, h2, fun k hk => ?_⟩
    have h4 := h3 k hk
    change RelL C w (encL kyCells (te k)) (vs k) /\ okL (encL kyCells (te k)) = true /\ _ at h4
    rw [ht k hk] at h4
    exact h4
 match i with
 | 0 => exact hr
 | 1 => exact hr
 | 2 => exact hr
 | 3 => exact hr
 | 4 => exact hr
 | 5 => exact hr
 | 6 => exact hr
 | 7 => exact key q hr
 | i + 8 => exact hr
noncomputable def valI (f : Nat) : DatH valO -> DatL valSh -> Anns := fun (_, _, sb, _, _, (_, ke), (n, el), _, _) ((i : Int), _) => [
 (7, [], fun fr hp => ⟨Nat, fun j => ⟨frI [.k 8, .t 3, .k 35, .t 34] fr,
     setB (setB hp 5 (.row 4 1 (.sym n) (fun k => [.sb (knF (sysOf sb) (fun k => ndOf (el k)) n f (fun k => (ke k).1) (nat i) (posW (sysOf sb) (ndOf (el (nat i))) j) k)])))
      6 (.row 31 3 (.sym n) (fun k => ndL (knU (sysOf sb) (fun k => ndOf (el k)) (fun k => (ke k).1) (knF (sysOf sb) (fun k => ndOf (el k)) n f (fun k => (ke k).1) (nat i) (posW (sysOf sb) (ndOf (el (nat i))) j)) (nat i)
        (mnF (wyP (sysOf sb) (ndOf (el (nat i)))) (fun k => ((sysOf sb).md k).cost) (fun k => vlN (sysOf sb) (nxD (sysOf sb) (ndOf (el (nat i))) k)) (posW (sysOf sb) (ndOf (el (nat i))) j)) k)))⟩,
  Nat × Nat, fun j => (j, wyN (sysOf sb) (ndOf (el (nat i)))), fun (j, n) => j <= n, fun j => j⟩)]
noncomputable def SYh (f : Nat) : Sums := ⟨SYd2.one, (62, mkSumT _ _ (valF f)) :: SYd2.two, SYd2.lo, SYd2.eqs, SYd2.its, SYd2.imm⟩
theorem SYh_ok {f : Nat} (h : FnSpecF Try.prog 62 _ _ (valF f)) : SumsOK Try.prog (SYh f) := SYd2_ok.addTwo Try.func62 (by kernel_rfl) (by kernel_rfl) (mkSumT_ok h)
end Abs
end Go.Proofs.Ytdfdjlijghjdaaa

namespace Go.Proofs.Ytdfdjlijghjdaaa
namespace Abs
open Go Go.RowKit
theorem fdB_ex {nd : Nat -> Nd} {s : Int} {b : Bx} {n : Nat} : fdB nd s b n = true ↔ ∃ k, k < n /\ kyE (nd k) s b = true := by
 rw [fdB_iff]
 unfold fdN
 constructor
 ·intro h
  exact ⟨_, h, firstN_is (fun k => kyE (nd k) s b) n h⟩
 ·rintro ⟨k, hk, hb⟩
  rcases Nat.lt_or_ge (firstN (fun k => kyE (nd k) s b) n) n with h | h
  ·exact h
  ·have := firstN_not (fun k => kyE (nd k) s b) n k (by omega)
   rw [hb] at this; cases this
theorem kyE_self (x : Nd) : kyE x x.slot x.box = true := by unfold kyE; simp
theorem adG_le (P : Gs) (x : Nd) : P.1 <= (adG P x).1 /\ (adG P x).1 <= P.1 + 1 := by rw [adG_1]; exact adN_le _ _ _
theorem adG_keep {P : Gs} {x : Nd} {k : Nat} (h : k < P.1) : (adG P x).2 k = P.2 k := by rw [adG_2]; exact adE_lt h
theorem adG_all {P : Gs} {x : Nd} {Q : Nd -> Prop} (h : ∀ k, k < P.1 -> Q (P.2 k)) (hx : Q x) : ∀ k, k < (adG P x).1 -> Q ((adG P x).2 k) := fun k hk => by
 by_cases e : k < P.1
 ·rw [adG_keep e]; exact h k e
 ·have := (adG_le P x).2
  obtain rfl : k = P.1 := by omega
  rw [adG_2, adE_at]; exact hx
theorem adG_fd {P : Gs} {x : Nd} {s : Int} {b : Bx} (h : fdB P.2 s b P.1 = true) : fdB (adG P x).2 s b (adG P x).1 = true := by
 obtain ⟨k, hk, hb⟩ := fdB_ex.1 h
 exact fdB_ex.2 ⟨k, by have := (adG_le P x).1; omega, by rw [adG_keep hk]; exact hb⟩
theorem adG_new (P : Gs) (x : Nd) : fdB (adG P x).2 x.slot x.box (adG P x).1 = true := by
 cases hd : fdB P.2 x.slot x.box P.1 with
 | true => exact adG_fd hd
 | false =>
   have h1 : (adG P x).1 = P.1 + 1 := by rw [adG_1]; exact adN_no hd
   exact fdB_ex.2 ⟨P.1, by omega, by rw [adG_2, adE_at]; exact kyE_self x⟩
structure NdOK (s : Sys) (y : Nd) : Prop where
 s0 : 0 <= y.slot
 s1 : y.slot <= s.nld
 ln : y.box.len = s.lim.len
 ins : inV s.lim y.box = true
 v0 : y.val = 0
theorem NdOK.wy {s : Sys} {y : Nd} (hc : checkB s = true) (h : NdOK s y) : WyOK s y := ⟨hc, h.s0, h.ln, near_wide (near_of_in hc h.ln h.ins)⟩
theorem NdOK.next {s : Sys} {y : Nd} {k : Nat} (h : NdOK s y) (hw : wyP s y k = true) : NdOK s (nxD s y k) := by
 obtain ⟨h1, h2⟩ := wyP_iff.1 hw
 unfold wyB at h2
 have := h.s0
 exact ⟨by rw [nxD_slot]; omega, by rw [nxD_slot]; omega, by rw [nxD_box, adV_len]; exact h.ln, by rw [nxD_box]; exact h2, nxD_val _ _ _⟩
theorem fkG_le {s : Sys} {y : Nd} {P : Gs} : ∀ k, P.1 <= (fkG s y P k).1 /\ (fkG s y P k).1 <= P.1 + k
 | 0 => by rw [fkG_zero]; omega
 | k + 1 => by
   have ih := fkG_le (s := s) (y := y) (P := P) k
   cases hw : wyP s y k with
   | false => rw [fkG_no hw]; omega
   | true => rw [fkG_yes hw]; have := adG_le (fkG s y P k) (nxD s y k); omega
theorem fkG_keep {s : Sys} {y : Nd} {P : Gs} {j : Nat} (hj : j < P.1) : ∀ k, (fkG s y P k).2 j = P.2 j
 | 0 => by rw [fkG_zero]
 | k + 1 => by
   cases hw : wyP s y k with
   | false => rw [fkG_no hw]; exact fkG_keep hj k
   | true => rw [fkG_yes hw, adG_keep (by have := (fkG_le (s := s) (y := y) (P := P) k).1; omega)]; exact fkG_keep hj k
theorem fkG_nd {s : Sys} {y : Nd} {P : Gs} (hy : NdOK s y) (h : ∀ k, k < P.1 -> NdOK s (P.2 k)) : ∀ k j, j < (fkG s y P k).1 -> NdOK s ((fkG s y P k).2 j)
 | 0 => by rw [fkG_zero]; exact h
 | k + 1 => by
   cases hw : wyP s y k with
   | false => rw [fkG_no hw]; exact fkG_nd hy h k
   | true => rw [fkG_yes hw]; exact adG_all (fkG_nd hy h k) (hy.next hw)
theorem fkG_fd {s : Sys} {y : Nd} {P : Gs} {sl : Int} {b : Bx} (h : fdB P.2 sl b P.1 = true) : ∀ k, fdB (fkG s y P k).2 sl b (fkG s y P k).1 = true
 | 0 => by rw [fkG_zero]; exact h
 | k + 1 => by
   cases hw : wyP s y k with
   | false => rw [fkG_no hw]; exact fkG_fd h k
   | true => rw [fkG_yes hw]; exact adG_fd (fkG_fd h k)
theorem fkG_cl {s : Sys} {y : Nd} {P : Gs} : ∀ k m, m < k -> wyP s y m = true -> fdB (fkG s y P k).2 (y.slot + 1) (adV s y.slot m y.box) (fkG s y P k).1 = true
 | 0, m, h, _ => by omega
 | k + 1, m, h, hw => by
   by_cases e : m = k
   ·subst e
    rw [fkG_yes hw]
    have := adG_new (fkG s y P m) (nxD s y m)
    rwa [nxD_slot, nxD_box] at this
   ·have ih := fkG_cl (s := s) (y := y) (P := P) k m (by omega) hw
    cases hk : wyP s y k with
    | false => rw [fkG_no hk]; exact ih
    | true => rw [fkG_yes hk]; exact adG_fd ih
structure ExOK (s : Sys) (i : Nat) (P : Gs) : Prop where
 i0 : i <= P.1
 p1 : 1 <= P.1
 st : P.2 0 = ⟨0, s.st, 0⟩
 nd : ∀ k, k < P.1 -> NdOK s (P.2 k)
 cl : ∀ k, k < i -> ∀ m, m < s.nmd -> wyP s (P.2 k) m = true -> fdB P.2 ((P.2 k).slot + 1) (adV s (P.2 k).slot m (P.2 k).box) P.1 = true
theorem exG_ok0 {s : Sys} (hc : checkB s = true) : ExOK s 0 (exG s 0) := by
 have c := checkB_iff.1 hc
 rw [exG_zero]
 refine ⟨Nat.zero_le _, Nat.le_refl _, rfl, fun k _ => ⟨by simp, by simp, by simp [c.2.2.2.2.2.2.1], by simp [c.2.2.2.2.2.2.2.2.1], by simp⟩, fun k hk => by omega⟩
theorem ExOK.next {s : Sys} {i : Nat} {P : Gs} (h : ExOK s i P) (hi : i < P.1) : ExOK s (i + 1) (fkG s (P.2 i) P s.nmd) := by
 have hle := fkG_le (s := s) (y := P.2 i) (P := P) s.nmd
 refine ⟨by omega, by have := h.p1; omega, by rw [fkG_keep (by have := h.p1; omega)]; exact h.st, fkG_nd (h.nd i hi) h.nd s.nmd, fun k hk m hm hw => ?_⟩
 have e : (fkG s (P.2 i) P s.nmd).2 k = P.2 k := fkG_keep (by omega) _
 rw [e] at hw ⊢
 by_cases hki : k = i
 ·subst hki
  exact fkG_cl s.nmd m hm hw
 ·exact fkG_fd (h.cl k (by omega) m hm hw) _
theorem exG_ok {s : Sys} (hc : checkB s = true) : ∀ {i : Nat}, (∀ j, j < i -> j < (exG s j).1) -> ExOK s i (exG s i)
 | 0, _ => exG_ok0 hc
 | i + 1, h => by
   rw [exG_succ]
   exact (exG_ok hc (i := i) fun j hj => h j (by omega)).next (h i (by omega))
theorem exN_at {s : Sys} {i : Nat} (hi : i <= 5001) (h : ∀ j, j < i -> j < (exG s j).1 /\ (exG s j).1 <= 5000) (he : i < 5001 -> (exG s i).1 <= i \/ 5000 < (exG s i).1) : exN s = i := by
 unfold exN
 refine firstN_uniq hi (fun j hj => ?_) (fun hlt => ?_)
 ·have := h j hj
  simp; omega
 ·have := he hlt
  simp; omega
@[irreducible] def exE (s : Sys) : Int := if checkB s = true then (if (exG s (exN s)).1 <= 5000 then 0 else 6) else 2
theorem exE_0 {s : Sys} : exE s = 0 ↔ checkB s = true /\ (exG s (exN s)).1 <= 5000 := by
 unfold exE
 cases checkB s <;> by_cases h : (exG s (exN s)).1 <= 5000 <;> simp [h]
theorem ExOK.gr {s : Sys} {P : Gs} (hc : checkB s = true) (hm : SysMax s) (hn : P.1 <= 5000) (h : ExOK s P.1 P) : GrOK s P.1 P.2 :=
 ⟨hc, hm, by omega, fun k hk => ⟨(h.nd k hk).wy hc, (h.nd k hk).s1⟩, h.cl⟩
def SamN (nd nd' : Nat -> Nd) : Prop := ∀ k, (nd k).slot = (nd' k).slot /\ (nd k).box = (nd' k).box
theorem SamN.er {nd nd' : Nat -> Nd} (h : SamN nd nd') (k : Nat) : erV (nd k) = erV (nd' k) := by unfold erV; rw [(h k).1, (h k).2]
theorem SamN.fdN {nd nd' : Nat -> Nd} (h : SamN nd nd') (s : Int) (b : Bx) (n : Nat) : fdN nd s b n = Abs.fdN nd' s b n := by
 rw [<- fdN_er nd, <- fdN_er nd']
 simp only [h.er]
theorem SamN.fdB {nd nd' : Nat -> Nd} (h : SamN nd nd') (s : Int) (b : Bx) (n : Nat) : fdB nd s b n = Abs.fdB nd' s b n := by unfold Abs.fdB; rw [h.fdN]
theorem SamN.wyP {nd nd' : Nat -> Nd} (h : SamN nd nd') (s : Sys) (k : Nat) : wyP s (nd k) = Abs.wyP s (nd' k) := by rw [<- wyP_er, h.er, wyP_er]
theorem SamN.vlN {nd nd' : Nat -> Nd} (h : SamN nd nd') (s : Sys) (k : Nat) : vlN s (nd k) = Abs.vlN s (nd' k) := by rw [<- vlN_er, h.er, vlN_er]
theorem knR_same {s : Sys} {nd nd' : Nat -> Nd} {n : Nat} (h : SamN nd nd') : ∀ {m : Nat} {kn : Nat -> Bool} {i : Nat}, knR s nd n m kn i = knR s nd' n m kn i
 | 0, kn, i => by rw [knR_zero, knR_zero]
 | m + 1, kn, i => by
   have key : ∀ q, knF s nd n m kn i q = knF s nd' n m kn i q := by
    intro q
    induction q with
    | zero => rw [knF_zero, knF_zero]
    | succ q ih => rw [knF_succ, knF_succ, h.wyP, ih, h.fdN, (h i).1, (h i).2, knR_same h]
   rw [knR_succ, knR_succ, key, (h i).1]
theorem GrOK.same {s : Sys} {n : Nat} {nd nd' : Nat -> Nd} (h : SamN nd nd') (g : GrOK s n nd) : GrOK s n nd' := by
 refine ⟨g.ch, g.mx, g.n5, fun k hk => ?_, fun k hk m hm hw => ?_⟩
 ·obtain ⟨⟨a, b, c, d⟩, e⟩ := g.wy k hk
  rw [(h k).1] at b e
  rw [(h k).2] at c d
  exact ⟨⟨a, b, c, d⟩, e⟩
 ·rw [<- h.wyP] at hw
  have := g.cl k hk m hm hw
  rw [h.fdB, (h k).1, (h k).2] at this
  exact this
theorem knU_self (s : Sys) (nd : Nat -> Nd) (kn kn' : Nat -> Bool) (i : Nat) (v : Int) : (knU s nd kn kn' i v i).val = v := by unfold knU; simp
theorem knU_ne {s : Sys} {nd : Nat -> Nd} {kn kn' : Nat -> Bool} {i k : Nat} {v : Int} (h : k ≠ i) : knU s nd kn kn' i v k = knW s nd kn kn' k := by unfold knU; simp [h]
theorem knW_new {s : Sys} {nd : Nat -> Nd} {kn kn' : Nat -> Bool} {k : Nat} (h1 : kn' k = true) (h2 : kn k = false) : (knW s nd kn kn' k).val = vlN s (nd k) := by unfold knW; simp [h1, h2]
theorem knW_old {s : Sys} {nd : Nat -> Nd} {kn kn' : Nat -> Bool} {k : Nat} (h : kn' k = false \/ kn k = true) : knW s nd kn kn' k = nd k := by
 unfold knW
 rcases h with h | h <;> simp [h]
theorem knU_sam (s : Sys) (nd : Nat -> Nd) (kn kn' : Nat -> Bool) (i : Nat) (v : Int) : SamN (knU s nd kn kn' i v) nd := fun k => ⟨knU_slot _ _ _ _ _ _ _, knU_box _ _ _ _ _ _ _⟩
theorem knU_eta (s : Sys) (nd : Nat -> Nd) (kn kn' : Nat -> Bool) (i : Nat) (v : Int) : (fun k => Nd.mk (nd k).slot (nd k).box (knU s nd kn kn' i v k).val) = knU s nd kn kn' i v := by
 funext k
 have := nd_eta (knU s nd kn kn' i v k)
 rwa [knU_slot, knU_box] at this
end Abs
end Go.Proofs.Ytdfdjlijghjdaaa

namespace Go.Proofs.Ytdfdjlijghjdaaa
namespace Abs
open Go Go.RowKit
set_option maxRecDepth 100000 in
set_option maxHeartbeats 4000000 in
theorem val_step {f : Nat} (h : FnSpecF Try.prog 62 _ _ (valF f)) : FnSpecF Try.prog 62 _ _ (valF (f + 1)) := by
 refine val_weak (FnSpecF.of (SYh_ok h) mixed (U := 0) (I := valI f) Try.func62 rfl (by kernel_rfl) (sp := valG (f + 1)) rfl (by decide +kernel) ?_)
 clear h
 rintro ⟨⟨⟨⟩, ⟨⟩⟩, ⟨⟨⟩, ⟨⟩⟩, sb, v, g, ⟨nk, ke⟩, ⟨n, el⟩, ⟨m, te⟩, ⟨⟩⟩ ⟨(i : Int), ⟨⟩, ⟨⟩, ⟨⟩, ⟨⟩, ⟨⟩⟩ ⟨rfl, rfl, rfl, -, hgs, hV⟩
 obtain ⟨s, rfl⟩ := sys_ex sb
 obtain ⟨s', rfl⟩ := gr_ex g
 obtain ⟨nd, rfl⟩ := nds_ex el
 obtain ⟨⟨⟨⟩, ⟨⟨⟩, ⟨⟩, ⟨⟩, ⟨⟩, ⟨⟩⟩⟩, ⟨⟩⟩ := v
 obtain ⟨kn, rfl⟩ : ∃ kn : Nat -> Bool, ke = fun k => (kn k, ()) := ⟨fun k => (ke k).1, rfl⟩
 simp only [sysOf_D, grOf_D, ndOf_D] at hgs hV ⊢
 subst hgs
 obtain ⟨i, rfl⟩ : ∃ k : Nat, i = icast k := ⟨i.toNat, by rw [icast_eq']; have := hV.i0; omega⟩
 unfold FnSat
 conv => arg 2; reduce
 simp [valF, valG, valI, keyS, wyI, unA, unitA, encH, encB, ElEq, aliveB, goneB, getB, maxRow, IntItems, IntItem, ownIn, ownIn.ownInL, fnEq, and_assoc]
 have en : (fun k => nd k) = nd := rfl
 have ek : (fun k => kn k) = kn := rfl
 rw [en, ek] at hV
 simp only [en, ek, knU_eta]
 obtain ⟨hgr, _, hi, hfu, hkv, hev⟩ := hV
 have hn : nat (icast i) = i := by unfold nat; rw [icast_eq']; omega
 rw [hn] at hfu hkv
 rw [icast_eq'] at hi
 have hi : i < m := by omega
 obtain ⟨hwy, hsl⟩ := hgr.wy i hi
 have hc := hgr.ch
 have c1 := checkB_iff.1 hc
 refine ⟨hi, fun h => ?_, fun h1 h2 => ?_⟩
 ·have hkr : knR s' nd m (f + 1) kn i = kn := by rw [knR_succ, if_pos h]
  refine ⟨?_, fun j _ => by rw [hkr], fun j _ => ?_⟩
  ·rcases h with h | h
   ·exact hkv i hi (Int.le_refl _) h
   ·rw [vlN_end h]; exact hev i hi h
  ·rw [hkr]
   cases hk : kn j with
   | true => rw [knW_old (.inr hk)]
   | false => rw [knW_old (.inl hk)]
 have hs : (nd i).slot < s'.nld := by omega
 have zK : knF s' nd m f kn i (posW s' (nd i) 0) = fun k => kn k || decide (k = i) := by
  rw [pos_zero (F := knF s' nd m f kn i) (fun k _ hw => knF_no hw), knF_zero]
 have zV : mnF (wyP s' (nd i)) (fun k => (s'.md k).cost) (fun k => vlN s' (nxD s' (nd i) k)) (posW s' (nd i) 0) = 1125899906842624 := by
  rw [pos_zero (F := mnF (wyP s' (nd i)) (fun k => (s'.md k).cost) (fun k => vlN s' (nxD s' (nd i) k))) (fun k _ hw => mnF_no hw), mnF_zero]
 refine ⟨hi, hgr.mx, hwy.v _, fun j _ => by rw [zK]; exact Bool.or_comm _ _, fun j _ => ?_, fun g hg => ⟨fun hlt => ?_, fun hge => ?_⟩⟩
 ·rw [zK, zV]
  by_cases e : j = i
  ·subst e; rw [if_pos rfl, knU_self]
  ·rw [if_neg e, knU_ne e]
   cases hk : kn j with
   | true => rw [knW_old (.inr hk)]
   | false => rw [knW_old (.inl (by simp [hk, e]))]
 ·obtain ⟨q1, q2, q3⟩ := wyM_spec hlt
  have hwp : wyP s' (nd i) (wyM s' (nd i) g) = true := wyP_iff.2 ⟨q1, q3⟩
  have hfd := hgr.cl i hi _ q2 hwp
  have ht := fdB_iff.1 hfd
  have ett : (fdV nd ((nd i).slot + 1) (adV s' (nd i).slot (wyM s' (nd i) g) (nd i).box) m).toNat = fdN nd ((nd i).slot + 1) (adV s' (nd i).slot (wyM s' (nd i) g) (nd i).box) m := by rw [fdV_of hfd]; omega
  have ett' : nat (fdV nd ((nd i).slot + 1) (adV s' (nd i).slot (wyM s' (nd i) g) (nd i).box) m) = fdN nd ((nd i).slot + 1) (adV s' (nd i).slot (wyM s' (nd i) g) (nd i).box) m := by unfold nat; exact ett
  have hky : kyE (nd (fdN nd ((nd i).slot + 1) (adV s' (nd i).slot (wyM s' (nd i) g) (nd i).box) m)) ((nd i).slot + 1) (adV s' (nd i).slot (wyM s' (nd i) g) (nd i).box) = true := by
   unfold fdN at ht ⊢
   exact firstN_is (fun k => kyE (nd k) ((nd i).slot + 1) (adV s' (nd i).slot (wyM s' (nd i) g) (nd i).box)) m ht
  have sK : knF s' nd m f kn i (posW s' (nd i) (g + 1)) = knR s' nd m f (knF s' nd m f kn i (posW s' (nd i) g)) (fdN nd ((nd i).slot + 1) (adV s' (nd i).slot (wyM s' (nd i) g) (nd i).box) m) := by
   rw [pos_succ (F := knF s' nd m f kn i) (fun k _ hw => knF_no hw) hlt, knF_yes hwp, posW_lt hlt]
  have sV : mnF (wyP s' (nd i)) (fun k => (s'.md k).cost) (fun k => vlN s' (nxD s' (nd i) k)) (posW s' (nd i) (g + 1)) = if vlN s' (nxD s' (nd i) (wyM s' (nd i) g)) < 1125899906842624 then min (mnF (wyP s' (nd i)) (fun k => (s'.md k).cost) (fun k => vlN s' (nxD s' (nd i) k)) (posW s' (nd i) g)) ((s'.md (wyM s' (nd i) g)).cost + vlN s' (nxD s' (nd i) (wyM s' (nd i) g))) else mnF (wyP s' (nd i)) (fun k => (s'.md k).cost) (fun k => vlN s' (nxD s' (nd i) k)) (posW s' (nd i) g) := by
   rw [pos_succ (F := mnF (wyP s' (nd i)) (fun k => (s'.md k).cost) (fun k => vlN s' (nxD s' (nd i) k))) (fun k _ hw => mnF_no hw) hlt, mnF_succ, posW_lt hlt]
   simp [hwp]
  have hself : knF s' nd m f kn i (posW s' (nd i) g) i = true := knF_self
  have hmono : ∀ k, kn k = true -> knF s' nd m f kn i (posW s' (nd i) g) k = true := fun k h => knF_mono h
  have efd : fdV nd ((nd i).slot + 1) (adV s' (nd i).slot (wyM s' (nd i) g) (nd i).box) m = (fdN nd ((nd i).slot + 1) (adV s' (nd i).slot (wyM s' (nd i) g) (nd i).box) m : Int) := fdV_of hfd
  rw [ett, sK, sV, efd]
  clear ett ett' efd
  generalize fdN nd ((nd i).slot + 1) (adV s' (nd i).slot (wyM s' (nd i) g) (nd i).box) m = t at *
  generalize knF s' nd m f kn i (posW s' (nd i) g) = K at *
  generalize mnF (wyP s' (nd i)) (fun k => (s'.md k).cost) (fun k => vlN s' (nxD s' (nd i) k)) (posW s' (nd i) g) = V at *
  have hsam := knU_sam s' nd kn K i V
  have htw := hgr.wy t ht
  have htb : (nd t).slot = (nd i).slot + 1 /\ eqBx (nd t).box (adV s' (nd i).slot (wyM s' (nd i) g) (nd i).box) = true := by
   rw [kyE_box htw.1.ln (by rw [adV_len]; exact hwy.ln) c1.2.1] at hky
   simpa using hky
  have hvt : vlN s' (nd t) = vlN s' (nxD s' (nd i) (wyM s' (nd i) g)) := vlN_congr hc (by rw [nxD_slot]; exact htb.1) htw.1.ln (by rw [nxD_box]; exact htb.2)
  have hvb := vlN_bnd hc (nd t)
  have q4 := modeB_iff.1 (c1.2.2.2.2.2.2.2.2.2.2 _ q2)
  rw [knR_same hsam, <- hvt]
  have hold : ∀ j, j ≠ i -> (knW s' (knU s' nd kn K i V) K (knR s' nd m f K t) j).val = (knW s' nd kn (knR s' nd m f K t) j).val := fun j e => by
   cases hk' : knR s' nd m f K t j with
   | false =>
     have hK : K j = false := by
      cases hk : K j with
      | false => rfl
      | true => rw [knR_mono hk] at hk'; cases hk'
     rw [knW_old (.inl hk'), knW_old (.inl hk'), knU_ne e, knW_old (.inl hK)]
   | true =>
     cases hk : K j with
     | true =>
       rw [knW_old (.inr hk), knU_ne e]
       cases hkn : kn j with
       | true => rw [knW_old (.inr hkn), knW_old (.inr hkn)]
       | false => rw [knW_new hk hkn, knW_new hk' hkn]
     | false =>
       have hkn : kn j = false := by
        cases hkn : kn j with
        | false => rfl
        | true => rw [hmono j hkn] at hk; cases hk
       rw [knW_new hk' hk, knW_new hk' hkn, hsam.vlN]
  refine ⟨by have := hwy.sl; omega, by omega, by have := hwy.ln; unfold maxLen; omega, ⟨hgr.same fun k => ⟨(hsam k).1.symm, (hsam k).2.symm⟩, ?_, ?_, ?_, fun k hk hsk hK => ?_, fun k hk hsk => ?_⟩, fun hv => ⟨q2, by omega, by omega, fun _ _ => rfl, fun j hj => ?_, by omega⟩, fun hv => ⟨fun _ _ => rfl, fun j hj => ?_, by omega⟩⟩
  ·exact Int.natCast_nonneg _
  ·exact Int.ofNat_lt.2 ht
  ·have hnt : nat (t : Int) = t := by unfold nat; omega
   rw [hnt, knU_slot, htb.1]
   have : ((f + 1 : Nat) : Int) = (f : Int) + 1 := by omega
   omega
  ·have hnt : nat (t : Int) = t := by unfold nat; omega
   rw [hnt, knU_slot, knU_slot, htb.1] at hsk
   have e : k ≠ i := fun e => by subst e; omega
   rw [hsam.vlN, knU_ne e]
   cases hkn : kn k with
   | true => rw [knW_old (.inr hkn)]; exact hkv k hk (by omega) hkn
   | false => exact knW_new hK hkn
  ·rw [knU_slot] at hsk
   have e : k ≠ i := fun e => by subst e; omega
   rw [knU_ne e]
   cases hkn : kn k with
   | true => rw [knW_old (.inr hkn)]; exact hev k hk hsk
   | false =>
     cases hK : K k with
     | true => rw [knW_new hK hkn]; exact vlN_end hsk
     | false => rw [knW_old (.inl hK)]; exact hev k hk hsk
  ·by_cases e : j = i
   ·subst e; rw [if_pos rfl, if_pos hv, knU_self, knW_old (.inr hself), knU_self]
   ·rw [if_neg e, hold j e, knU_ne e]
  ·by_cases e : j = i
   ·subst e; rw [knW_old (.inr hself), knU_self, knU_self, if_neg (by omega)]
   ·rw [hold j e, knU_ne e]
 ·have eg : posW s' (nd i) g = s'.nmd := posW_end hge
  have hkr : knR s' nd m (f + 1) kn i = knF s' nd m f kn i s'.nmd := by rw [knR_succ, if_neg (by rw [h1]; simpa using h2)]
  rw [eg, hkr]
  refine ⟨by rw [knU_self, vlN_step hs], fun j _ => rfl, fun j _ => ?_⟩
  by_cases e : j = i
  ·subst e; rw [knU_self, knW_new knF_self h1, vlN_step hs]
  ·rw [knU_ne e]
theorem val_ok : ∀ f, FnSpecF Try.prog 62 _ _ (valF f)
 | 0 => by
   rintro o x ⟨_, _, _, _, hV⟩
   exfalso
   have h1 := hV.fu
   have h2 := (hV.gr.wy (nat x.1) (by have := hV.i1; have := hV.i0; unfold nat; omega)).2
   omega
 | f + 1 => val_step (val_ok f)
end Abs
end Go.Proofs.Ytdfdjlijghjdaaa

namespace Go.Proofs.Ytdfdjlijghjdaaa
namespace Abs
open Go Go.RowKit
def adW : SpecF adO [.own 0 0, .agg ndCells] := ⟨fun (_, (m, te), (n, el), _) (_, x, _) => n <= 6000 /\ (ndOf x).box.len <= maxLen /\ m = n /\ ∀ k, k < n -> te k = ixD (ndOf (el k)) k, adF.res, adF.after⟩
theorem addW_ok : FnSpecJ Try.prog 32 _ _ adW := by
 rintro ⟨g, ⟨m, te⟩, ⟨n, el⟩, d⟩ x ⟨h1, h2, h3, ht⟩
 have h3 : m = n := h3
 subst h3
 have ht : ∀ k, k < m -> te k = ixD (ndOf (el k)) k := ht
 refine (add_ok (g, (m, fun k => ixD (ndOf (el k)) k), (m, el), d) x ⟨h1, h2, rfl, rfl⟩).weakenH rfl fun C w i q hr => ?_
 have key : ∀ q, BRel C w q (.tab (.sym m) 7 (fun k => encL kyCells (te k))) -> BRel C w q (.tab (.sym m) 7 (fun k => encL kyCells (ixD (ndOf (el k)) k))) := fun q hr => by
  cases q with
  | nil => exact hr.elim
  | «at» b c n =>
    obtain ⟨es, ck, vs, h1, h2, h3⟩ := hr
    refine ⟨es, ck, vs, h1, h2, fun k hk => ?_⟩
    have h4 := h3 k hk
    change RelL C w (encL kyCells (te k)) (vs k) /\ okL (encL kyCells (te k)) = true /\ _ at h4
    rw [ht k hk] at h4
    exact h4
 match i with
 | 0 => exact hr
 | 1 => exact key q hr
 | 2 => exact hr
 | i + 3 => exact hr
def alK (s : Sys) (nd : Nat -> Nd) (n : Nat) : Nat -> Nat -> Bool
 | 0 => fun _ => false
 | i + 1 => knR s nd n 49 (alK s nd n i) i
theorem alK_zero (s : Sys) (nd : Nat -> Nd) (n : Nat) : alK s nd n 0 = fun _ => false := rfl
theorem alK_succ (s : Sys) (nd : Nat -> Nd) (n i : Nat) : alK s nd n (i + 1) = knR s nd n 49 (alK s nd n i) i := rfl
attribute [irreducible] alK
theorem alK_mono {s : Sys} {nd : Nat -> Nd} {n i k : Nat} (h : alK s nd n i k = true) : alK s nd n (i + 1) k = true := by rw [alK_succ]; exact knR_mono h
theorem alK_all {s : Sys} {nd : Nat -> Nd} {n : Nat} : ∀ {i k : Nat}, k < i -> (nd k).slot ≠ s.nld -> alK s nd n i k = true
 | 0, k, h, _ => by omega
 | i + 1, k, h, hs => by
   by_cases e : k = i
   ·subst e; rw [alK_succ]; exact knR_self hs
   ·exact alK_mono (alK_all (by omega) hs)
@[irreducible] def grN (s : Sys) : Nat := (exG s (exN s)).1
@[irreducible] def grV (s : Sys) (k : Nat) : Nd := ⟨((exG s (exN s)).2 k).slot, ((exG s (exN s)).2 k).box, vlN s ((exG s (exN s)).2 k)⟩
@[simp] theorem ndOf_adV (sl : Int) (s : Sys) (x y : Int) (b : Bx) (v : Int) : ndOf (sl, (b.len, fun k => ((adV s x y b).lo k, (adV s x y b).hi k, ())), v, ()) = Nd.mk sl (adV s x y b) v := by
 have := ndOf_gen sl (adV s x y b) v
 rwa [adV_len] at this
theorem nxD_eq (s : Sys) (y : Nd) (k : Nat) : nxD s y k = Nd.mk (y.slot + 1) (adV s y.slot k y.box) 0 := by unfold nxD; rfl
theorem adE_ge {nd : Nat -> Nd} {n : Nat} {x : Nd} {k : Nat} (h : n <= k) : adE nd n x k = x := by unfold adE; rw [if_neg (by omega)]
theorem adN_nil (nd : Nat -> Nd) (x : Nd) : adN nd 0 x = 1 := by
 refine adN_no ?_
 cases h : fdB nd x.slot x.box 0 with
 | false => rfl
 | true => have := fdB_iff.1 h; omega
theorem knW_sam (s : Sys) (nd : Nat -> Nd) (kn kn' : Nat -> Bool) : SamN (knW s nd kn kn') nd := fun k => ⟨knW_slot _ _ _ _ _, knW_box _ _ _ _ _⟩
theorem knW_eta (s : Sys) (nd : Nat -> Nd) (kn kn' : Nat -> Bool) : (fun k => Nd.mk (nd k).slot (nd k).box (knW s nd kn kn' k).val) = knW s nd kn kn' := by
 funext k
 have := nd_eta (knW s nd kn kn' k)
 rwa [knW_slot, knW_box] at this
theorem grV_slot (s : Sys) (k : Nat) : (grV s k).slot = ((exG s (exN s)).2 k).slot := by unfold grV; simp
theorem grV_box (s : Sys) (k : Nat) : (grV s k).box = ((exG s (exN s)).2 k).box := by unfold grV; simp
theorem grV_val (s : Sys) (k : Nat) : (grV s k).val = vlN s ((exG s (exN s)).2 k) := by unfold grV; simp
noncomputable def SYk0 : Sums := ⟨SYd2.one, (62, mkSumT _ _ (valF 49)) :: (32, mkSumJ _ _ adW) :: SYd2.two, SYd2.lo, SYd2.eqs, SYd2.its, SYd2.imm⟩
theorem SYk0_ok : SumsOK Try.prog SYk0 := (SYd2_ok.addTwo Try.func32 (by kernel_rfl) (by kernel_rfl) (mkSumJ_ok addW_ok)).addTwo Try.func62 (by kernel_rfl) (by kernel_rfl) (mkSumT_ok (val_ok 49))
def exN1 : SpecN [sysSh] := ⟨fun (s, _) => SysMax (sysOf s) /\ exE (sysOf s) = 0, fun _ => .tup [.own 2 0, .si .i64 0],
 fun (s, _) => [.dead, .tab (.sym (grN (sysOf s))) 7 (fun k => ixL (grV (sysOf s) k) k), .cells 64 (grL (sysOf s) 4 1), .dead, .row 31 3 (.sym (grN (sysOf s))) (fun k => ndL (grV (sysOf s) k))]⟩
def exS2 : Spec [sysSh] := ⟨fun (s, _) => SysMax (sysOf s) /\ exE (sysOf s) ≠ 0, fun (s, _) => .tup [.v (.pointer none), .si .i64 (exE (sysOf s))]⟩
noncomputable def cellI (hp : Heap) (o : Nat) : Nat := match getB hp o with | .cells _ l => nat (intOf (getL l 0)) | _ => 0
@[irreducible] def gN (P : Gs) : Nat := P.1
@[irreducible] def gD (P : Gs) : Nat -> Nd := P.2
theorem gN_eq (P : Gs) : gN P = P.1 := by unfold gN; rfl
theorem gD_eq (P : Gs) : gD P = P.2 := by unfold gD; rfl
@[reducible] def tabG (P : Gs) : Blk := .tab (.sym (gN P)) 7 (fun k => ixL (gD P k) k)
@[reducible] def rowG (P : Gs) : Blk := .row 31 3 (.sym (gN P)) (fun k => ndL (gD P k))
noncomputable def exI : DatL [sysSh] -> Anns := fun (s, _) => [
 (2097152 + 5, [(20, 31 + 131072, 261)], unA),
 (7, [], fun fr hp => ⟨Nat, fun i => ⟨frI [.k 8, .t 1, .k 18, .t 40] fr, setB (setB (setB hp 5 (.cells 3 [.si .i64 (icast i)])) 1 (tabG (exG (sysOf s) i))) 4 (rowG (exG (sysOf s) i))⟩,
  Nat × Sys, fun i => (i, sysOf s), fun (i, s) => (∀ j, j < i -> j < gN (exG s j)) /\ ∀ j, j <= i -> gN (exG s j) <= 5000, fun i => nsub 5001 i⟩),
 (10, [], fun fr hp => ⟨Nat, fun j => ⟨frI [.k 8, .t 1, .k 18, .t 17, .k 1, .t 15] fr,
   setB (setB hp 1 (tabG (fkG (sysOf s) (gD (exG (sysOf s) (cellI hp 5)) (cellI hp 5)) (exG (sysOf s) (cellI hp 5)) (posW (sysOf s) (gD (exG (sysOf s) (cellI hp 5)) (cellI hp 5)) j))))
    4 (rowG (fkG (sysOf s) (gD (exG (sysOf s) (cellI hp 5)) (cellI hp 5)) (exG (sysOf s) (cellI hp 5)) (posW (sysOf s) (gD (exG (sysOf s) (cellI hp 5)) (cellI hp 5)) j)))⟩,
  Nat × Nat, fun j => (j, wyN (sysOf s) (gD (exG (sysOf s) (cellI hp 5)) (cellI hp 5))), fun (j, n) => j <= n, fun j => j⟩),
 (20, [], fun fr hp => ⟨Nat, fun i => ⟨frI [.k 11, .t 1, .k 67, .s (.si .i64 (icast i)), .t 6] fr,
   setB (setB hp 6 (.row 4 1 (.sym (grN (sysOf s))) (fun k => [.sb (alK (sysOf s) (gD (exG (sysOf s) (exN (sysOf s)))) (grN (sysOf s)) i k)]))) 4 (.row 31 3 (.sym (grN (sysOf s))) (fun k => ndL (knW (sysOf s) (gD (exG (sysOf s) (exN (sysOf s)))) (fun _ => false) (alK (sysOf s) (gD (exG (sysOf s) (exN (sysOf s)))) (grN (sysOf s)) i) k)))⟩,
  Nat × Nat, fun i => (i, grN (sysOf s)), fun (i, n) => i <= n, fun i => nsub (grN (sysOf s)) i⟩)]
set_option maxHeartbeats 4000000 in
set_option maxRecDepth 100000 in
theorem exp_ok : FnSpecN Try.prog 42 _ exN1 := by
 refine FnSpecN.of SYk0_ok mixed (U := 0) (I := exI) Try.func42 rfl (by kernel_rfl) rfl rfl (by decide +kernel) ?_
 rintro ⟨s, ⟨⟩⟩ ⟨hm, he⟩
 obtain ⟨s, rfl⟩ := sys_ex s
 unfold FnSat
 conv => arg 2; reduce
 simp [exN1, checkS, keyS, adF, adW, insS, wyI, valF, cloneBS, unA, unitA, encH, encB, ElEq, aliveB, goneB, getB, maxRow, IntItems, IntItem, ownIn, ownIn.ownInL, fnEq, and_assoc]
 simp only [gN_eq, gD_eq]
 have hm : SysMax s := by rwa [sysOf_D] at hm
 have he : exE s = 0 := by rwa [sysOf_D] at he
 obtain ⟨hc, hn5⟩ := exE_0.1 he
 obtain ⟨p1, p2, p3, p4, p5, p6⟩ := hm
 have hm : SysMax s := ⟨p1, p2, p3, p4, p5, p6⟩
 have c1 := checkB_iff.1 hc
 refine ⟨p1, p2, p3, p4, p5, p6, hc, fun _ => ⟨by omega, p2, ⟨0, ?_⟩, fun g hg1 hg2 => ⟨fun hlt => ?_, fun hge => ?_⟩⟩⟩
 ·rw [exG_zero, adN_nil]
  refine ⟨rfl, fun j _ => ?_, rfl, fun j _ => ?_, rfl, fun j hj => by omega, fun j hj => ?_⟩
  ·rw [adE_ge (Nat.zero_le _)]; exact ⟨rfl, rfl, rfl, rfl, rfl, rfl, rfl⟩
  ·rw [adE_ge (Nat.zero_le _)]; exact ⟨rfl, rfl, rfl, rfl⟩
  ·obtain rfl : j = 0 := by omega
   rw [exG_zero]; show 1 <= 5000; omega
 ·have ok := exG_ok hc hg1
  have hy := ok.nd g hlt
  have h5 := hg2 g (Nat.le_refl _)
  have e0 : fkG s ((exG s g).2 g) (exG s g) (posW s ((exG s g).2 g) 0) = exG s g := by rw [pos_zero (F := fkG s ((exG s g).2 g) (exG s g)) (fun k _ hw => fkG_no hw), fkG_zero]
  rw [e0]
  refine ⟨hlt, hm, hy.wy hc, rfl, fun j _ => ⟨rfl, rfl, rfl, rfl, rfl, rfl, rfl⟩, rfl, fun j _ => ⟨rfl, rfl, rfl, rfl⟩, fun q hq => ⟨fun hql => ?_, fun hqe => ?_⟩⟩
  ·obtain ⟨q1, q2, q3⟩ := wyM_spec hql
   have e1 : fkG s ((exG s g).2 g) (exG s g) (posW s ((exG s g).2 g) (q + 1)) = adG (fkG s ((exG s g).2 g) (exG s g) (posW s ((exG s g).2 g) q)) (nxD s ((exG s g).2 g) (wyM s ((exG s g).2 g) q)) := by
    rw [pos_succ (F := fkG s ((exG s g).2 g) (exG s g)) (fun k _ hw => fkG_no hw) hql, fkG_yes (wyP_iff.2 ⟨q1, q3⟩), posW_lt hql]
   have hle := fkG_le (s := s) (y := (exG s g).2 g) (P := exG s g) (posW s ((exG s g).2 g) q)
   have hpl := posW_le (s := s) (y := (exG s g).2 g) q
   have hkp : (fkG s ((exG s g).2 g) (exG s g) (posW s ((exG s g).2 g) q)).2 g = (exG s g).2 g := fkG_keep hlt _
   rw [hkp, e1, adG_1, adG_2, nxD_eq]
   have h0 := hy.s0
   have h1 := hy.s1
   have h2 := hy.ln
   refine ⟨by omega, by omega, by omega, by omega, by unfold maxLen; omega, rfl, fun j _ => ⟨rfl, rfl, rfl, rfl, rfl, rfl, rfl⟩, rfl, fun j _ => ⟨rfl, rfl, rfl, rfl⟩, by omega⟩
  ·have e1 : fkG s ((exG s g).2 g) (exG s g) (posW s ((exG s g).2 g) q) = exG s (g + 1) := by rw [posW_end hqe, exG_succ]
   rw [e1]
   have hn6 : (exG s (g + 1)).1 <= 5000 := by
    rcases Nat.lt_or_ge 5000 (exG s (g + 1)).1 with h6 | h6
    ·exfalso
     have : exN s = g + 1 := exN_at (by omega) (fun j hj => ⟨by
      by_cases e : j = g
      ·subst e; exact hlt
      ·exact hg1 j (by omega), hg2 j (by omega)⟩) (fun _ => .inr h6)
     rw [this] at hn5; omega
    ·exact h6
   refine ⟨by omega, fun _ => ⟨by omega, by omega, g + 1, rfl, fun j _ => ⟨rfl, rfl, rfl, rfl, rfl, rfl, rfl⟩, rfl, fun j _ => ⟨rfl, rfl, rfl, rfl⟩, by omega, fun j hj => ?_, fun j hj => ?_, by omega⟩⟩
   ·by_cases e : j = g
    ·subst e; exact hlt
    ·exact hg1 j (by omega)
   ·by_cases e : j = g + 1
    ·subst e; exact hn6
    ·exact hg2 j (by omega)
 ·have ok := exG_ok hc hg1
  have h5 := hg2 g (Nat.le_refl _)
  have hgn : g = (exG s g).1 := by have := ok.i0; omega
  have hN : exN s = g := exN_at (by omega) (fun j hj => ⟨hg1 j hj, hg2 j (by omega)⟩) (fun _ => .inl hge)
  have hgr : grN s = g := by unfold grN; rw [hN]; exact hgn.symm
  have hfin : ∀ k, (grV s k).slot = ((exG s g).2 k).slot /\ (grV s k).box = ((exG s g).2 k).box /\ (grV s k).val = vlN s ((exG s g).2 k) := fun k => by rw [grV_slot, grV_box, grV_val, hN]; exact ⟨rfl, rfl, rfl⟩
  rw [hN, hgr, <- hgn]
  simp only [knW_eta]
  have kP : ∀ P : Gs, g = P.1 -> ExOK s g P -> ExOK s P.1 P := fun P h k => h ▸ k
  have kQ : ∀ n, g = n -> GrOK s n (exG s g).2 -> GrOK s g (exG s g).2 := fun n h k => by rw [h] at k ⊢; exact k
  have hG : GrOK s g (exG s g).2 := kQ _ hgn (ExOK.gr hc hm h5 (kP _ hgn ok))
  have hnd : ∀ k, k < g -> NdOK s ((exG s g).2 k) := fun k hk => ok.nd k (by omega)
  generalize (exG s g).2 = nd at *
  have ek : ∀ q, (fun k => alK s nd g q k) = alK s nd g q := fun q => rfl
  simp only [ek, true_and, and_true, implies_true, alK_zero]
  have hkn : ∀ q k, (knW s nd (fun _ => false) (alK s nd g q) k).val = if alK s nd g q k = true then vlN s (nd k) else (nd k).val := fun q k => by
   cases hk : alK s nd g q k with
   | true => rw [knW_new hk rfl, if_pos rfl]
   | false => rw [knW_old (.inl hk)]; simp
  have hv0 : ∀ k, k < g -> (nd k).slot = s.nld -> vlN s (nd k) = (nd k).val := fun k hk h => by rw [vlN_end h, (hnd k hk).v0]
  refine ⟨by omega, ⟨0, rfl, fun j _ => ?_, fun j _ => by rw [alK_zero], by omega⟩, fun i hi => ⟨fun hil => ⟨?_, by omega, by omega, i + 1, by omega, fun j hj => ?_, fun j hj => ?_, by omega, by omega⟩, fun hie => ⟨fun j hj => ?_, fun j hj => ?_⟩⟩⟩
  ·rw [hkn, alK_zero]; simp
  ·have hsam := knW_sam s nd (fun _ => false) (alK s nd g i)
   have hn : nat (i : Int) = i := by unfold nat; omega
   refine ⟨hG.same fun k => ⟨(hsam k).1.symm, (hsam k).2.symm⟩, by omega, by omega, ?_, fun k hk _ hK => ?_, fun k hk hsk => ?_⟩
   ·have := (hnd i hil).s0
    rw [knW_slot, hn]; omega
   ·rw [hsam.vlN, hkn, if_pos hK]
   ·rw [knW_slot] at hsk
    rw [hkn]
    split
    ·exact vlN_end hsk
    ·exact (hnd k hk).v0
  ·have hsam := knW_sam s nd (fun _ => false) (alK s nd g i)
   have hks : knR s (knW s nd (fun _ => false) (alK s nd g i)) g 49 (alK s nd g i) i = alK s nd g (i + 1) := by rw [knR_same hsam, alK_succ]
   rw [hks, hkn]
   cases hK' : alK s nd g (i + 1) j with
   | false =>
     have hK : alK s nd g i j = false := by
      cases h : alK s nd g i j with
      | false => rfl
      | true => rw [alK_mono h] at hK'; cases hK'
     rw [knW_old (.inl hK'), hkn, hK]
   | true =>
     cases hK : alK s nd g i j with
     | true => rw [knW_old (.inr hK), hkn, hK]
     | false => rw [knW_new hK' hK, hsam.vlN]; simp
  ·have hsam := knW_sam s nd (fun _ => false) (alK s nd g i)
   rw [knR_same hsam, alK_succ]
  ·obtain ⟨e1, e2, -⟩ := hfin j
   rw [e1, e2]
   exact ⟨rfl, rfl, rfl, rfl, rfl, rfl, rfl⟩
  ·obtain ⟨e1, e2, e3⟩ := hfin j
   rw [e1, e2, e3, hkn]
   refine ⟨rfl, rfl, rfl, ?_⟩
   split
   ·rfl
   ·rename_i h
    by_cases hs : (nd j).slot = s.nld
    ·exact (hv0 j hj hs).symm
    ·exact absurd (alK_all (by omega) hs) h
end Abs
end Go.Proofs.Ytdfdjlijghjdaaa

namespace Go.Proofs.Ytdfdjlijghjdaaa
namespace Abs
open Go Go.RowKit
theorem exE_2 {s : Sys} (h : checkB s = false) : exE s = 2 := by unfold exE; simp [h]
theorem exE_6 {s : Sys} (h : checkB s = true) (h6 : 5000 < (exG s (exN s)).1) : exE s = 6 := by unfold exE; rw [if_pos h, if_neg (by omega)]
set_option maxHeartbeats 4000000 in
set_option maxRecDepth 100000 in
theorem exe_ok : FnSpec Try.prog 42 _ exS2 := by
 refine FnSpec.of SYk0_ok mixed (U := 0) (I := exI) Try.func42 rfl (by kernel_rfl) rfl rfl (by decide +kernel) ?_
 rintro ⟨s, ⟨⟩⟩ ⟨hm, he⟩
 obtain ⟨s, rfl⟩ := sys_ex s
 unfold FnSat
 conv => arg 2; reduce
 simp [exS2, checkS, keyS, adF, adW, insS, wyI, valF, cloneBS, unA, unitA, encH, encB, ElEq, aliveB, goneB, getB, maxRow, IntItems, IntItem, ownIn, ownIn.ownInL, fnEq, and_assoc]
 simp only [gN_eq, gD_eq]
 have hm : SysMax s := by rwa [sysOf_D] at hm
 have he : exE s ≠ 0 := by rwa [sysOf_D] at he
 obtain ⟨p1, p2, p3, p4, p5, p6⟩ := hm
 have hm : SysMax s := ⟨p1, p2, p3, p4, p5, p6⟩
 refine ⟨p1, p2, p3, p4, p5, p6, fun hc => ?_, fun hc => ?_⟩
 ·rw [exE_2 hc, hc, errA_false]
 have c1 := checkB_iff.1 hc
 refine ⟨by omega, p2, ⟨0, ?_⟩, fun g hg1 hg2 => ⟨fun hlt => ?_, fun hge => ?_⟩⟩
 ·rw [exG_zero, adN_nil]
  refine ⟨rfl, fun j _ => ?_, rfl, fun j _ => ?_, rfl, fun j hj => by omega, fun j hj => ?_⟩
  ·rw [adE_ge (Nat.zero_le _)]; exact ⟨rfl, rfl, rfl, rfl, rfl, rfl, rfl⟩
  ·rw [adE_ge (Nat.zero_le _)]; exact ⟨rfl, rfl, rfl, rfl⟩
  ·obtain rfl : j = 0 := by omega
   rw [exG_zero]; show 1 <= 5000; omega
 ·have ok := exG_ok hc hg1
  have hy := ok.nd g hlt
  have h5 := hg2 g (Nat.le_refl _)
  have e0 : fkG s ((exG s g).2 g) (exG s g) (posW s ((exG s g).2 g) 0) = exG s g := by rw [pos_zero (F := fkG s ((exG s g).2 g) (exG s g)) (fun k _ hw => fkG_no hw), fkG_zero]
  rw [e0]
  refine ⟨hlt, hm, hy.wy hc, rfl, fun j _ => ⟨rfl, rfl, rfl, rfl, rfl, rfl, rfl⟩, rfl, fun j _ => ⟨rfl, rfl, rfl, rfl⟩, fun q hq => ⟨fun hql => ?_, fun hqe => ?_⟩⟩
  ·obtain ⟨q1, q2, q3⟩ := wyM_spec hql
   have e1 : fkG s ((exG s g).2 g) (exG s g) (posW s ((exG s g).2 g) (q + 1)) = adG (fkG s ((exG s g).2 g) (exG s g) (posW s ((exG s g).2 g) q)) (nxD s ((exG s g).2 g) (wyM s ((exG s g).2 g) q)) := by
    rw [pos_succ (F := fkG s ((exG s g).2 g) (exG s g)) (fun k _ hw => fkG_no hw) hql, fkG_yes (wyP_iff.2 ⟨q1, q3⟩), posW_lt hql]
   have hle := fkG_le (s := s) (y := (exG s g).2 g) (P := exG s g) (posW s ((exG s g).2 g) q)
   have hpl := posW_le (s := s) (y := (exG s g).2 g) q
   have hkp : (fkG s ((exG s g).2 g) (exG s g) (posW s ((exG s g).2 g) q)).2 g = (exG s g).2 g := fkG_keep hlt _
   rw [hkp, e1, adG_1, adG_2, nxD_eq]
   have h0 := hy.s0
   have h1 := hy.s1
   have h2 := hy.ln
   refine ⟨by omega, by omega, by omega, by omega, by unfold maxLen; omega, rfl, fun j _ => ⟨rfl, rfl, rfl, rfl, rfl, rfl, rfl⟩, rfl, fun j _ => ⟨rfl, rfl, rfl, rfl⟩, by omega⟩
  ·have e1 : fkG s ((exG s g).2 g) (exG s g) (posW s ((exG s g).2 g) q) = exG s (g + 1) := by rw [posW_end hqe, exG_succ]
   rw [e1]
   have hup : ∀ j, j < g + 1 -> j < (exG s j).1 := fun j hj => by
    by_cases e : j = g
    ·subst e; exact hlt
    ·exact hg1 j (by omega)
   have hgl : (exG s g).1 <= 5000 := hg2 g (Nat.le_refl _)
   refine ⟨fun h6 => ?_, fun h6 => ⟨by omega, by omega, g + 1, rfl, fun j _ => ⟨rfl, rfl, rfl, rfl, rfl, rfl, rfl⟩, rfl, fun j _ => ⟨rfl, rfl, rfl, rfl⟩, by omega, hup, fun j hj => ?_, by omega⟩⟩
   ·have h6 : 5000 < (exG s (g + 1)).1 := by omega
    have hN : exN s = g + 1 := exN_at (by omega) (fun j hj => ⟨hup j hj, hg2 j (by omega)⟩) (fun _ => .inr h6)
    exact (exE_6 hc (by rw [hN]; exact h6)).symm
   ·by_cases e : j = g + 1
    ·subst e; omega
    ·exact hg2 j (by omega)
 ·exfalso
  have h5 := hg2 g (Nat.le_refl _)
  have hN : exN s = g := exN_at (by have ok := exG_ok hc hg1; have := ok.i0; omega) (fun j hj => ⟨hg1 j hj, hg2 j (by omega)⟩) (fun _ => .inl hge)
  exact he (exE_0.2 ⟨hc, by rw [hN]; exact h5⟩)
end Abs
end Go.Proofs.Ytdfdjlijghjdaaa

namespace Go.Proofs.Ytdfdjlijghjdaaa
namespace Abs
open Go Go.RowKit
theorem exE_case (s : Sys) : exE s = 0 \/ exE s = 2 \/ exE s = 6 := by
 unfold exE
 split
 ·split <;> simp
 ·simp
structure GrV (s : Sys) : Prop where
 ch : checkB s = true
 n1 : 1 <= grN s
 n5 : grN s <= 5000
 p0 : (grV s 0).slot = 0
 b0 : (grV s 0).box = s.st
 s0 : ∀ k, k < grN s -> 0 <= (grV s k).slot
 s1 : ∀ k, k < grN s -> (grV s k).slot <= s.nld
 ln : ∀ k, k < grN s -> (grV s k).box.len = s.lim.len
 ins : ∀ k, k < grN s -> inV s.lim (grV s k).box = true
 cl : ∀ k, k < grN s -> ∀ m, m < s.nmd -> wyP s (grV s k) m = true -> fdB (grV s) ((grV s k).slot + 1) (adV s (grV s k).slot m (grV s k).box) (grN s) = true
theorem grV_sam (s : Sys) : SamN (grV s) (exG s (exN s)).2 := fun k => ⟨grV_slot s k, grV_box s k⟩
theorem grV_vl (s : Sys) (k : Nat) : (grV s k).val = vlN s (grV s k) := by rw [grV_val, (grV_sam s).vlN]
theorem exN_lt {s : Sys} {j : Nat} (hj : j < exN s) : j < (exG s j).1 /\ (exG s j).1 <= 5000 := by
 unfold exN at hj
 have := firstN_not _ _ _ hj
 simp at this
 omega
theorem exN_5 (s : Sys) : exN s <= 5001 := by unfold exN; exact firstN_le _ _
theorem exN_is {s : Sys} (h : exN s < 5001) : (exG s (exN s)).1 <= exN s \/ 5000 < (exG s (exN s)).1 := by
 have h0 := h
 unfold exN at h
 have := firstN_is _ _ h
 simp at this
 have e : firstN (fun i => decide ((exG s i).1 <= i) || decide (5000 < (exG s i).1)) 5001 = exN s := by unfold exN; rfl
 rw [e] at this
 exact this
theorem exN_all {s : Sys} (h : exE s = 0) : ExOK s (exG s (exN s)).1 (exG s (exN s)) /\ (exG s (exN s)).1 <= 5000 /\ exN s = (exG s (exN s)).1 := by
 obtain ⟨hc, h5⟩ := exE_0.1 h
 have ok := exG_ok (s := s) hc (i := exN s) fun j hj => (exN_lt hj).1
 have h1 := ok.i0
 have h2 := exN_5 s
 have e : exN s = (exG s (exN s)).1 := by
  rcases Nat.lt_or_ge (exN s) 5001 with h3 | h3
  ·have := exN_is h3; omega
  ·omega
 have key : ∀ P : Gs, ∀ i, i = P.1 -> ExOK s i P -> ExOK s P.1 P := fun P i h k => h ▸ k
 exact ⟨key _ _ e ok, h5, e⟩
theorem grN_eq (s : Sys) : grN s = (exG s (exN s)).1 := by rw [grN]
theorem grV_ok {s : Sys} (h : exE s = 0) : GrV s := by
 have hc := (exE_0.1 h).1
 obtain ⟨ok, h5, -⟩ := exN_all h
 have hn := grN_eq s
 have hs := grV_sam s
 refine ⟨hc, by rw [hn]; exact ok.p1, by omega, ?_, ?_, fun k hk => ?_, fun k hk => ?_, fun k hk => ?_, fun k hk => ?_, fun k hk m hm hw => ?_⟩
 ·rw [(hs 0).1, ok.st]; simp
 ·rw [(hs 0).2, ok.st]; simp
 ·rw [(hs k).1]; exact (ok.nd k (by omega)).s0
 ·rw [(hs k).1]; exact (ok.nd k (by omega)).s1
 ·rw [(hs k).2]; exact (ok.nd k (by omega)).ln
 ·rw [(hs k).2]; exact (ok.nd k (by omega)).ins
 ·rw [hs.wyP] at hw
  rw [hs.fdB, (hs k).1, (hs k).2, hn]
  exact ok.cl k (by omega) m hm hw
theorem GrV.wy {s : Sys} (g : GrV s) {k : Nat} (hk : k < grN s) : WyOK s (grV s k) := ⟨g.ch, g.s0 k hk, g.ln k hk, near_wide (near_of_in g.ch (g.ln k hk) (g.ins k hk))⟩
@[irreducible] def nxI (s : Sys) (a k : Nat) : Nat := fdN (grV s) ((grV s a).slot + 1) (adV s (grV s a).slot k (grV s a).box) (grN s)
theorem nxI_ok {s : Sys} (g : GrV s) {a k : Nat} (ha : a < grN s) (hk : k < s.nmd) (hw : wyP s (grV s a) k = true) :
  nxI s a k < grN s /\ (grV s (nxI s a k)).slot = (grV s a).slot + 1 /\ eqBx (grV s (nxI s a k)).box (adV s (grV s a).slot k (grV s a).box) = true /\ vlN s (grV s (nxI s a k)) = vlN s (nxD s (grV s a) k) := by
 have hfd := g.cl a ha k hk hw
 have ht := fdB_iff.1 hfd
 have hky : kyE (grV s (nxI s a k)) ((grV s a).slot + 1) (adV s (grV s a).slot k (grV s a).box) = true := by
  unfold nxI fdN at *
  exact firstN_is (fun j => kyE (grV s j) ((grV s a).slot + 1) (adV s (grV s a).slot k (grV s a).box)) (grN s) ht
 have hI : nxI s a k < grN s := by unfold nxI; exact ht
 rw [kyE_box (g.ln _ hI) (by rw [adV_len]; exact g.ln a ha) (checkB_iff.1 g.ch).2.1] at hky
 have hb : (grV s (nxI s a k)).slot = (grV s a).slot + 1 /\ eqBx (grV s (nxI s a k)).box (adV s (grV s a).slot k (grV s a).box) = true := by simpa using hky
 exact ⟨hI, hb.1, hb.2, vlN_congr g.ch (by rw [nxD_slot]; exact hb.1) (g.ln _ hI) (by rw [nxD_box]; exact hb.2)⟩
theorem nxI_fdV {s : Sys} (g : GrV s) {a k : Nat} (ha : a < grN s) (hk : k < s.nmd) (hw : wyP s (grV s a) k = true) :
  fdV (grV s) ((grV s a).slot + 1) (adV s (grV s a).slot k (grV s a).box) (grN s) = (nxI s a k : Int) := by
 unfold nxI
 exact fdV_of (g.cl a ha k hk hw)
@[irreducible] def plP (s : Sys) (y : Nd) (k : Nat) : Bool := wyP s y k && decide (vlN s (nxD s y k) < 1125899906842624) && decide ((s.md k).cost + vlN s (nxD s y k) = vlN s y)
theorem plP_iff {s : Sys} {y : Nd} {k : Nat} : plP s y k = true ↔ wyP s y k = true /\ vlN s (nxD s y k) < 1125899906842624 /\ (s.md k).cost + vlN s (nxD s y k) = vlN s y := by unfold plP; simp [and_assoc]
@[irreducible] def plK (s : Sys) (y : Nd) : Nat := firstN (plP s y) s.nmd
theorem mnF_ex {p : Nat -> Bool} {c v : Nat -> Int} : ∀ {n : Nat}, mnF p c v n < 1125899906842624 -> ∃ k, k < n /\ p k = true /\ v k < 1125899906842624 /\ c k + v k = mnF p c v n
 | 0, h => by rw [mnF_zero] at h; omega
 | n + 1, h => by
   rw [mnF_succ] at h ⊢
   split at h
   ·rename_i hp
    rw [if_pos hp]
    rcases Int.lt_or_le (c n + v n) (mnF p c v n) with h1 | h1
    ·exact ⟨n, by omega, hp.1, hp.2, by omega⟩
    ·have h2 : mnF p c v n < 1125899906842624 := by omega
     obtain ⟨k, a, b, c', d⟩ := mnF_ex h2
     exact ⟨k, by omega, b, c', by omega⟩
   ·rename_i hp
    rw [if_neg hp]
    obtain ⟨k, a, b, c', d⟩ := mnF_ex h
    exact ⟨k, by omega, b, c', d⟩
theorem plK_ok {s : Sys} {y : Nd} (h : y.slot < s.nld) (hv : vlN s y < 1125899906842624) : plK s y < s.nmd /\ plP s y (plK s y) = true /\ ∀ j, j < plK s y -> plP s y j = false := by
 have : ∃ k, k < s.nmd /\ plP s y k = true := by
  rw [vlN_step h] at hv
  obtain ⟨k, a, b, c, d⟩ := mnF_ex hv
  exact ⟨k, a, plP_iff.2 ⟨b, c, by rw [vlN_step h]; exact d⟩⟩
 have ha := anyN_iff.2 this
 unfold anyN at ha
 have hlt : firstN (plP s y) s.nmd < s.nmd := by simpa using ha
 unfold plK
 exact ⟨hlt, firstN_is _ _ hlt, fun j hj => firstN_not _ _ j hj⟩
theorem plK_at {s : Sys} {y : Nd} {k : Nat} (hk : k < s.nmd) (h : plP s y k = true) (h0 : ∀ j, j < k -> plP s y j = false) : plK s y = k := by
 unfold plK
 exact firstN_uniq (by omega) h0 fun _ => h
theorem way_of {s : Sys} {y : Nd} {k : Nat} (hk : k < s.nmd) (hw : wyP s y k = true) : cntP (wyB s y) k < wyN s y /\ wyM s y (cntP (wyB s y) k) = k := by
 obtain ⟨h1, h2⟩ := wyP_iff.1 hw
 refine ⟨by rw [wyN_cnt h1]; exact cntP_lt hk h2, ?_⟩
 unfold wyM
 exact selN_at hk h2
theorem way_no {s : Sys} {y : Nd} {p : Nat -> Bool} {j : Nat} (hp : ∀ k, p k = true -> wyP s y k = true) (h : ∀ i, i < j -> p (wyM s y i) = false) {k : Nat} (hk : k < s.nmd) (hc : cntP (wyB s y) k < j) : p k = false := by
 cases hb : p k with
 | false => rfl
 | true =>
   have := (way_of hk (hp k hb)).2
   have h2 := h _ hc
   rw [this, hb] at h2
   exact h2
theorem plP_wy {s : Sys} {y : Nd} (k : Nat) (h : plP s y k = true) : wyP s y k = true := (plP_iff.1 h).1
theorem plK_way {s : Sys} {y : Nd} {j : Nat} (h : ∀ i, i < j -> plP s y (wyM s y i) = false) (hj : j < wyN s y) (hp : plP s y (wyM s y j) = true) : plK s y = wyM s y j := by
 have hw := wyM_spec hj
 refine plK_at hw.2.1 hp fun k hk => ?_
 cases hb : plP s y k with
 | false => rfl
 | true =>
   have hwk := (wyP_iff.1 (plP_wy k hb)).2
   have h1 : cntP (wyB s y) k < cntP (wyB s y) (wyM s y j) := cntP_lt hk hwk
   rw [wyM_cnt hj] at h1
   rw [<- hb]; exact way_no plP_wy h (by omega) h1
theorem plK_none {s : Sys} {y : Nd} (hs : y.slot < s.nld) (hv : vlN s y < 1125899906842624) {j : Nat} (hj : wyN s y <= j) (h : ∀ i, i < j -> plP s y (wyM s y i) = false) : False := by
 obtain ⟨k1, k2, -⟩ := plK_ok hs hv
 have := way_of k1 (plP_wy _ k2)
 have h3 := way_no plP_wy h k1 (by omega)
 rw [k2] at h3; cases h3
def plX (s : Sys) : Nat -> Nat
 | 0 => 0
 | t + 1 => nxI s (plX s t) (plK s (grV s (plX s t)))
theorem plX_zero (s : Sys) : plX s 0 = 0 := rfl
theorem plX_succ (s : Sys) (t : Nat) : plX s (t + 1) = nxI s (plX s t) (plK s (grV s (plX s t))) := rfl
attribute [irreducible] plX
@[irreducible] def plF (s : Sys) (t : Nat) : Nat := plK s (grV s (plX s t))
theorem plF_eq (s : Sys) (t : Nat) : plF s t = plK s (grV s (plX s t)) := by unfold plF; rfl
theorem plX_ok {s : Sys} (g : GrV s) (hv : vlN s (grV s 0) < 1125899906842624) : ∀ {t : Nat}, t <= s.nld -> plX s t < grN s /\ (grV s (plX s t)).slot = t /\ vlN s (grV s (plX s t)) < 1125899906842624
 | 0, _ => by rw [plX_zero]; exact ⟨by have := g.n1; omega, by rw [g.p0]; rfl, hv⟩
 | t + 1, h => by
   obtain ⟨h1, h2, h3⟩ := plX_ok g hv (t := t) (by omega)
   obtain ⟨k1, k2, -⟩ := plK_ok (s := s) (y := grV s (plX s t)) (by omega) h3
   obtain ⟨w1, w2, w3⟩ := plP_iff.1 k2
   obtain ⟨n1, n2, n3, n4⟩ := nxI_ok g h1 k1 w1
   rw [plX_succ]
   exact ⟨n1, by rw [n2, h2]; omega, by rw [n4]; exact w2⟩
@[irreducible] def plV (s : Sys) : Int := vlN s (grV s 0)
theorem plV_eq (s : Sys) : plV s = vlN s (grV s 0) := by rw [plV]
@[irreducible] def plnE (s : Sys) : Int := if exE s = 0 then (if plV s = 1125899906842624 then 18 else 0) else exE s
@[irreducible] def plnC (s : Sys) : Int := if plnE s = 0 then plV s else 0
@[irreducible] def plnN (s : Sys) : Nat := if plnE s = 0 then s.nld else 0
@[irreducible] def nodN (s : Sys) : Nat := if exE s = 0 then grN s else 0
theorem plnE_bad {s : Sys} (h : exE s ≠ 0) : plnE s = exE s := by unfold plnE; rw [if_neg h]
theorem plnE_18 {s : Sys} (h : exE s = 0) (hv : plV s = 1125899906842624) : plnE s = 18 := by unfold plnE; rw [if_pos h, if_pos hv]
theorem plnE_ok {s : Sys} (h : exE s = 0) (hv : plV s ≠ 1125899906842624) : plnE s = 0 := by unfold plnE; rw [if_pos h, if_neg hv]
theorem plnC_ok {s : Sys} (h : plnE s = 0) : plnC s = plV s := by unfold plnC; rw [if_pos h]
theorem plnC_bad {s : Sys} (h : plnE s ≠ 0) : plnC s = 0 := by unfold plnC; rw [if_neg h]
theorem plnN_ok {s : Sys} (h : plnE s = 0) : plnN s = s.nld := by unfold plnN; rw [if_pos h]
theorem plnN_bad {s : Sys} (h : plnE s ≠ 0) : plnN s = 0 := by unfold plnN; rw [if_neg h]
theorem nodN_ok {s : Sys} (h : exE s = 0) : nodN s = grN s := by unfold nodN; rw [if_pos h]
theorem nodN_bad {s : Sys} (h : exE s ≠ 0) : nodN s = 0 := by unfold nodN; rw [if_neg h]
end Abs
end Go.Proofs.Ytdfdjlijghjdaaa

namespace Go.Proofs.Ytdfdjlijghjdaaa
namespace Abs
open Go Go.RowKit
def nodesS : Spec [sysSh] := ⟨fun (s, _) => SysMax (sysOf s), fun (s, _) => .tup [.slc (.sym (nodN (sysOf s))) 3 (fun k => ndL (grV (sysOf s) k)), .si .i64 (exE (sysOf s))]⟩
def nodesS0 : Spec [sysSh] := ⟨fun (s, _) => SysMax (sysOf s) /\ exE (sysOf s) = 0, nodesS.res⟩
def nodesS2 : Spec [sysSh] := ⟨fun (s, _) => SysMax (sysOf s) /\ exE (sysOf s) ≠ 0, nodesS.res⟩
def pplS : Spec [sysSh] := ⟨fun (s, _) => SysMax (sysOf s), fun (s, _) => .tup [.slc (.sym (plnN (sysOf s))) 1 (fun k => [.si .i64 (icast (plF (sysOf s) k))]), .si .i64 (plnC (sysOf s)), .si .i64 (plnE (sysOf s))]⟩
def pplS0 : Spec [sysSh] := ⟨fun (s, _) => SysMax (sysOf s) /\ exE (sysOf s) = 0, pplS.res⟩
def pplS2 : Spec [sysSh] := ⟨fun (s, _) => SysMax (sysOf s) /\ exE (sysOf s) ≠ 0, pplS.res⟩
noncomputable def SYn0 : Sums := ⟨(42, mkSumN _ exN1) :: SYd2.one, SYd2.two, SYd2.lo, SYd2.eqs, SYd2.its, SYd2.imm⟩
theorem SYn0_ok : SumsOK Try.prog SYn0 := (SYd2_ok.add Try.func42 (by kernel_rfl) (by kernel_rfl) (mkSumN_ok exp_ok))
noncomputable def SYn2 : Sums := ⟨(42, mkSum _ exS2) :: SYd2.one, SYd2.two, SYd2.lo, SYd2.eqs, SYd2.its, SYd2.imm⟩
theorem SYn2_ok : SumsOK Try.prog SYn2 := (SYd2_ok.cons Try.func42 (by kernel_rfl) (by kernel_rfl) exe_ok)
set_option maxRecDepth 100000 in
theorem nodes_ok0 : FnSpec Try.prog 24 _ nodesS0 := by
 refine FnSpec.of SYn0_ok mixed (U := 0) (I := fun _ => []) Try.func24 rfl (by kernel_rfl) rfl rfl (by decide +kernel) ?_
 rintro ⟨s, ⟨⟩⟩ ⟨hm, he⟩
 obtain ⟨s, rfl⟩ := sys_ex s
 unfold FnSat
 conv => arg 2; reduce
 simp [nodesS, nodesS0, exN1, ElEq, aliveB, goneB, getB, and_assoc]
 have hm : SysMax s := by rwa [sysOf_D] at hm
 have he : exE s = 0 := by rwa [sysOf_D] at he
 exact ⟨hm, he, (nodN_ok he).symm, he.symm⟩
set_option maxRecDepth 100000 in
theorem nodes_ok2 : FnSpec Try.prog 24 _ nodesS2 := by
 refine FnSpec.of SYn2_ok mixed (U := 0) (I := fun _ => []) Try.func24 rfl (by kernel_rfl) rfl rfl (by decide +kernel) ?_
 rintro ⟨s, ⟨⟩⟩ ⟨hm, he⟩
 obtain ⟨s, rfl⟩ := sys_ex s
 unfold FnSat
 conv => arg 2; reduce
 simp [nodesS, nodesS2, exS2, ElEq, aliveB, goneB, getB, and_assoc]
 have hm : SysMax s := by rwa [sysOf_D] at hm
 have he : exE s ≠ 0 := by rwa [sysOf_D] at he
 exact ⟨hm, he, fun _ => nodN_bad he, he⟩
set_option maxRecDepth 100000 in
theorem plan_ok2 : FnSpec Try.prog 16 _ pplS2 := by
 refine FnSpec.of SYn2_ok mixed (U := 0) (I := fun _ => []) Try.func16 rfl (by kernel_rfl) rfl rfl (by decide +kernel) ?_
 rintro ⟨s, ⟨⟩⟩ ⟨hm, he⟩
 obtain ⟨s, rfl⟩ := sys_ex s
 unfold FnSat
 conv => arg 2; reduce
 simp [pplS, pplS2, exS2, ElEq, aliveB, goneB, getB, and_assoc]
 have hm : SysMax s := by rwa [sysOf_D] at hm
 have he : exE s ≠ 0 := by rwa [sysOf_D] at he
 have e := plnE_bad he
 exact ⟨hm, he, fun _ => ⟨plnN_bad (by rw [e]; exact he), (plnC_bad (by rw [e]; exact he)).symm, e.symm⟩, he⟩
noncomputable def lenB (hp : Heap) (o : Nat) : Nat := match getB hp o with | .row _ _ n _ => n.val | _ => 0
noncomputable def planI : DatL [sysSh] -> Anns := fun (s, _) => [
 (8, [(8, 3, 0)], fun fr hp => ⟨Nat, fun t => ⟨frI [.k 9, .t 77] fr, setB (setB hp 7 (.cells 31 (ndL (grV (sysOf s) (plX (sysOf s) t))))) 9 (.row 3 1 (.sym t) (fun k => [.si .i64 (icast (plF (sysOf s) k))]))⟩,
  Nat × Nat, fun t => (t, (sysOf s).nld), fun (t, n) => t <= n, fun t => nsub (sysOf s).nld t⟩),
 (10, [], fun fr hp => ⟨Nat, fun j => ⟨frI [.k 9, .t 28, .k 1, .t 48] fr, hp⟩,
  Nat × Nat × (Nat -> Bool), fun j => (j, wyN (sysOf s) (grV (sysOf s) (plX (sysOf s) (lenB hp 9))), fun j => plP (sysOf s) (grV (sysOf s) (plX (sysOf s) (lenB hp 9))) (wyM (sysOf s) (grV (sysOf s) (plX (sysOf s) (lenB hp 9))) j)), fun (j, n, p) => j <= n /\ ∀ k, k < j -> p k = false, fun j => j⟩)]
set_option maxHeartbeats 4000000 in
set_option maxRecDepth 100000 in
theorem plan_ok0 : FnSpec Try.prog 16 _ pplS0 := by
 refine FnSpec.of SYn0_ok mixed (U := 0) (I := planI) Try.func16 rfl (by kernel_rfl) rfl rfl (by decide +kernel) ?_
 rintro ⟨s, ⟨⟩⟩ ⟨hm, he⟩
 obtain ⟨s, rfl⟩ := sys_ex s
 unfold FnSat
 conv => arg 2; reduce
 simp [pplS, pplS0, exN1, keyS, wyI, unA, unitA, encH, encB, ElEq, aliveB, goneB, getB, maxRow, IntItems, IntItem, ownIn, ownIn.ownInL, and_assoc]
 have hm : SysMax s := by rwa [sysOf_D] at hm
 have he : exE s = 0 := by rwa [sysOf_D] at he
 have gr := grV_ok he
 have hc := gr.ch
 have c1 := checkB_iff.1 hc
 have n1 := gr.n1
 have e0 : (grV s 0).val = plV s := by rw [grV_vl, plV_eq]
 have vb := fun k => vlN_bnd hc (grV s k)
 rw [e0]
 refine ⟨hm, he, by omega, fun hv => ?_, fun hv => ⟨⟨0, by rw [plX_zero], by rw [plX_zero], fun j _ => by rw [plX_zero]; exact ⟨rfl, rfl⟩, by rw [plX_zero, e0], rfl, fun j => Nat.zero_le _, Nat.zero_le _⟩, fun g hg => ?_⟩⟩
 ·have e := plnE_18 he hv
  exact ⟨plnN_bad (by rw [e]; decide), (plnC_bad (by rw [e]; decide)).symm, e.symm⟩
 have hv' : plV s < 1125899906842624 := by
  have := vb 0
  rw [<- plV_eq] at this
  omega
 obtain ⟨x1, x2, x3⟩ := plX_ok gr (by rw [<- plV_eq]; exact hv') hg
 have hvl := grV_vl s (plX s g)
 have ee := plnE_ok he hv
 refine ⟨fun hlt => ⟨hm, gr.wy x1, fun j hj hp => ⟨fun hlt2 => ?_, fun hge2 => ?_⟩⟩, fun hge => ⟨by omega, ?_, (plnC_ok ee).symm, ee.symm⟩⟩
 ·obtain ⟨q1, q2, q3⟩ := wyM_spec hlt2
  have hwp : wyP s (grV s (plX s g)) (wyM s (grV s (plX s g)) j) = true := wyP_iff.2 ⟨q1, q3⟩
  have hfd := nxI_fdV gr x1 q2 hwp
  obtain ⟨n1, n2, n3, n4⟩ := nxI_ok gr x1 q2 hwp
  have q4 := modeB_iff.1 (c1.2.2.2.2.2.2.2.2.2.2 _ q2)
  have hnv := grV_vl s (nxI s (plX s g) (wyM s (grV s (plX s g)) j))
  have hnb := vb (nxI s (plX s g) (wyM s (grV s (plX s g)) j))
  rw [hfd, Int.toNat_natCast, hnv, hvl, n4]
  rw [n4] at hnb
  have hln := gr.ln _ x1
  have hpl : (vlN s (nxD s (grV s (plX s g)) (wyM s (grV s (plX s g)) j)) < 1125899906842624 /\ (s.md (wyM s (grV s (plX s g)) j)).cost + vlN s (nxD s (grV s (plX s g)) (wyM s (grV s (plX s g)) j)) = vlN s (grV s (plX s g))) ↔ plP s (grV s (plX s g)) (wyM s (grV s (plX s g)) j) = true := by rw [plP_iff, hwp]; simp
  refine ⟨by omega, by omega, by unfold maxLen; omega, by omega, by omega, fun _ => q2, fun _ => by omega, fun a b => ⟨by omega, g + 1, ?_, ?_, fun i _ => ?_, ?_, rfl, fun i hi => ?_, by omega, by omega⟩, fun h => ⟨by omega, fun k hk => ?_⟩⟩
  ·rw [plX_succ, plK_way hp hlt2 (hpl.1 ⟨a, b⟩)]
  ·rw [plX_succ, plK_way hp hlt2 (hpl.1 ⟨a, b⟩)]
  ·rw [plX_succ, plK_way hp hlt2 (hpl.1 ⟨a, b⟩)]; exact ⟨rfl, rfl⟩
  ·rw [plX_succ, plK_way hp hlt2 (hpl.1 ⟨a, b⟩), hnv, n4]
  ·refine app_one hi (fun _ => rfl) (fun e => ?_)
   subst e
   rw [plF_eq, plK_way hp hlt2 (hpl.1 ⟨a, b⟩)]; rfl
  ·by_cases e : k = j
   ·subst e
    cases hb : plP s (grV s (plX s g)) (wyM s (grV s (plX s g)) k) with
    | false => rfl
    | true => have h2 := hpl.2 hb; exact absurd h2.2 (h h2.1)
   ·exact hp k (by omega)
 ·exact (plK_none hlt x3 hge2 hp).elim
 ·rw [plnN_ok ee]; omega
end Abs
end Go.Proofs.Ytdfdjlijghjdaaa

namespace Go.Proofs.Ytdfdjlijghjdaaa
namespace Abs
open Go Go.RowKit
theorem nodes_ok : FnSpec Try.prog 24 _ nodesS := fun x hx => by
 by_cases h : exE (sysOf x.1) = 0
 ·exact nodes_ok0 x ⟨hx, h⟩
 ·exact nodes_ok2 x ⟨hx, h⟩
theorem pplan_ok : FnSpec Try.prog 16 _ pplS := fun x hx => by
 by_cases h : exE (sysOf x.1) = 0
 ·exact plan_ok0 x ⟨hx, h⟩
 ·exact plan_ok2 x ⟨hx, h⟩
def gbF (s : Sys) (y : Nd) : Nat -> Int
 | 0 => -1
 | k + 1 => if wyP s y k = true /\ (gbF s y k < 0 \/ (s.md k).cost < (s.md (gbF s y k).toNat).cost) then (k : Int) else gbF s y k
theorem gbF_zero (s : Sys) (y : Nd) : gbF s y 0 = -1 := rfl
theorem gbF_succ (s : Sys) (y : Nd) (k : Nat) : gbF s y (k + 1) = if wyP s y k = true /\ (gbF s y k < 0 \/ (s.md k).cost < (s.md (gbF s y k).toNat).cost) then (k : Int) else gbF s y k := rfl
attribute [irreducible] gbF
theorem gbF_no {s : Sys} {y : Nd} {k : Nat} (h : wyP s y k = false) : gbF s y (k + 1) = gbF s y k := by rw [gbF_succ, h]; simp
theorem gbF_bnd (s : Sys) (y : Nd) : ∀ k, -1 <= gbF s y k /\ gbF s y k < k /\ (0 <= gbF s y k -> wyP s y (gbF s y k).toNat = true)
 | 0 => by rw [gbF_zero]; exact ⟨by omega, by omega, fun h => by omega⟩
 | k + 1 => by
   have ih := gbF_bnd s y k
   rw [gbF_succ]
   split
   ·rename_i h
    exact ⟨by omega, by omega, fun _ => by rw [Int.toNat_natCast]; exact h.1⟩
   ·exact ⟨ih.1, by omega, ih.2.2⟩
def gdY (s : Sys) : Nat -> Nd
 | 0 => ⟨0, s.st, 0⟩
 | t + 1 => nxD s (gdY s t) (gbF s (gdY s t) s.nmd).toNat
theorem gdY_zero (s : Sys) : gdY s 0 = ⟨0, s.st, 0⟩ := rfl
theorem gdY_succ (s : Sys) (t : Nat) : gdY s (t + 1) = nxD s (gdY s t) (gbF s (gdY s t) s.nmd).toNat := rfl
attribute [irreducible] gdY
@[irreducible] def gdK (s : Sys) (t : Nat) : Int := gbF s (gdY s t) s.nmd
theorem gdK_eq (s : Sys) (t : Nat) : gdK s t = gbF s (gdY s t) s.nmd := by rw [gdK]
def gdC (s : Sys) : Nat -> Int
 | 0 => 0
 | t + 1 => gdC s t + (s.md (gdK s t).toNat).cost
theorem gdC_zero (s : Sys) : gdC s 0 = 0 := rfl
theorem gdC_succ (s : Sys) (t : Nat) : gdC s (t + 1) = gdC s t + (s.md (gdK s t).toNat).cost := rfl
attribute [irreducible] gdC
@[irreducible] def gdT (s : Sys) : Nat := firstN (fun t => decide (gdK s t < 0)) s.nld
theorem gdT_at {s : Sys} {t : Nat} (ht : t <= s.nld) (h : ∀ j, j < t -> 0 <= gdK s j) (h2 : t < s.nld -> gdK s t < 0) : gdT s = t := by
 unfold gdT
 exact firstN_uniq ht (fun j hj => by have := h j hj; simp; omega) (fun hl => by have := h2 hl; simpa using this)
@[irreducible] def gdE (s : Sys) : Int := if checkB s = true then (if gdT s < s.nld then 18 else 0) else 2
@[irreducible] def gdR (s : Sys) : Int := if gdE s = 0 then gdC s s.nld else 0
@[irreducible] def gdN (s : Sys) : Nat := if gdE s = 0 then s.nld else 0
theorem gdE_2 {s : Sys} (h : checkB s = false) : gdE s = 2 := by unfold gdE; simp [h]
theorem gdE_18 {s : Sys} (h : checkB s = true) (ht : gdT s < s.nld) : gdE s = 18 := by unfold gdE; rw [if_pos h, if_pos ht]
theorem gdE_0 {s : Sys} (h : checkB s = true) (ht : gdT s = s.nld) : gdE s = 0 := by unfold gdE; rw [if_pos h, if_neg (by omega)]
theorem gdR_bad {s : Sys} (h : gdE s ≠ 0) : gdR s = 0 := by unfold gdR; rw [if_neg h]
theorem gdR_ok {s : Sys} (h : gdE s = 0) : gdR s = gdC s s.nld := by unfold gdR; rw [if_pos h]
theorem gdN_bad {s : Sys} (h : gdE s ≠ 0) : gdN s = 0 := by unfold gdN; rw [if_neg h]
theorem gdN_ok {s : Sys} (h : gdE s = 0) : gdN s = s.nld := by unfold gdN; rw [if_pos h]
theorem gdY_ok {s : Sys} (hc : checkB s = true) : ∀ {t : Nat}, t <= s.nld -> (∀ j, j < t -> 0 <= gdK s j) -> NdOK s (gdY s t) /\ (gdY s t).slot = t
 | 0, _, _ => by
   have c := checkB_iff.1 hc
   rw [gdY_zero]
   exact ⟨⟨by simp, by simp, by simp [c.2.2.2.2.2.2.1], by simp [c.2.2.2.2.2.2.2.2.1], by simp⟩, by simp⟩
 | t + 1, ht, h => by
   obtain ⟨h1, h2⟩ := gdY_ok hc (t := t) (by omega) fun j hj => h j (by omega)
   have h3 := h t (by omega)
   rw [gdK_eq] at h3
   have hb := gbF_bnd s (gdY s t) s.nmd
   rw [gdY_succ]
   exact ⟨h1.next (hb.2.2 h3), by rw [nxD_slot, h2]; omega⟩
theorem gdC_bnd {s : Sys} (hc : checkB s = true) : ∀ {t : Nat}, t <= s.nld -> (∀ j, j < t -> 0 <= gdK s j) -> 0 <= gdC s t /\ gdC s t <= (t : Int) * 1073741824
 | 0, _, _ => by rw [gdC_zero]; omega
 | t + 1, ht, h => by
   have ih := gdC_bnd hc (t := t) (by omega) fun j hj => h j (by omega)
   have h3 := h t (by omega)
   have hb := gbF_bnd s (gdY s t) s.nmd
   rw [<- gdK_eq] at hb
   have := modeB_iff.1 ((checkB_iff.1 hc).2.2.2.2.2.2.2.2.2.2 (gdK s t).toNat (by omega))
   rw [gdC_succ]
   omega
@[irreducible] def gbL (s : Sys) (y : Nd) (k : Nat) : Nat := if gbF s y k < 0 then 0 else y.box.len
theorem gbL_neg {s : Sys} {y : Nd} {k : Nat} (h : gbF s y k < 0) : gbL s y k = 0 := by unfold gbL; rw [if_pos h]
theorem gbL_pos {s : Sys} {y : Nd} {k : Nat} (h : 0 <= gbF s y k) : gbL s y k = y.box.len := by unfold gbL; rw [if_neg (by omega)]
def grdS : Spec [sysSh] := ⟨fun (s, _) => SysMax (sysOf s), fun (s, _) => .tup [.slc (.sym (gdN (sysOf s))) 1 (fun k => [.si .i64 (gdK (sysOf s) k)]), .si .i64 (gdR (sysOf s)), .si .i64 (gdE (sysOf s))]⟩
noncomputable def grdI : DatL [sysSh] -> Anns := fun (s, _) => [
 (8, [(9, 3, 1)], fun fr hp => ⟨Nat, fun t => ⟨frI [.k 8, .s (.si .i64 (gdC (sysOf s) t)), .k 1, .t 66] fr, setB (setB hp 2 (.cells 31 (ndL (gdY (sysOf s) t)))) 3 (.row 3 1 (.sym t) (fun k => [.si .i64 (gdK (sysOf s) k)]))⟩,
  Nat × Sys, fun t => (t, sysOf s), fun (t, s) => t <= s.nld /\ ∀ j, j < t -> 0 <= gdK s j, fun t => nsub (sysOf s).nld t⟩),
 (11, [], fun fr hp => ⟨Nat, fun j => ⟨frI [.k 12, .t 21, .k 1, .t 42] fr, setB (setB hp 4 (.cells 3 [.si .i64 (gbF (sysOf s) (gdY (sysOf s) (lenB hp 3)) (posW (sysOf s) (gdY (sysOf s) (lenB hp 3)) j))])) 5 (.cells 22 [.slc (.sym (gbL (sysOf s) (gdY (sysOf s) (lenB hp 3)) (posW (sysOf s) (gdY (sysOf s) (lenB hp 3)) j))) 2 (fun k => [.si .i64 ((adV (sysOf s) (gdY (sysOf s) (lenB hp 3)).slot (gbF (sysOf s) (gdY (sysOf s) (lenB hp 3)) (posW (sysOf s) (gdY (sysOf s) (lenB hp 3)) j)) (gdY (sysOf s) (lenB hp 3)).box).lo k),
    .si .i64 ((adV (sysOf s) (gdY (sysOf s) (lenB hp 3)).slot (gbF (sysOf s) (gdY (sysOf s) (lenB hp 3)) (posW (sysOf s) (gdY (sysOf s) (lenB hp 3)) j)) (gdY (sysOf s) (lenB hp 3)).box).hi k)])])⟩,
  Nat × Nat, fun j => (j, wyN (sysOf s) (gdY (sysOf s) (lenB hp 3))), fun (j, n) => j <= n, fun j => j⟩)]
set_option maxHeartbeats 4000000 in
set_option maxRecDepth 100000 in
theorem greedy_ok : FnSpec Try.prog 22 _ grdS := by
 refine FnSpec.of SYd2_ok mixed (U := 0) (I := grdI) Try.func22 rfl (by kernel_rfl) rfl rfl (by decide +kernel) ?_
 rintro ⟨s, ⟨⟩⟩ hm
 obtain ⟨s, rfl⟩ := sys_ex s
 unfold FnSat
 conv => arg 2; reduce
 simp [grdS, checkS, wyI, unA, unitA, encH, encB, ElEq, aliveB, goneB, getB, maxRow, IntItems, IntItem, ownIn, ownIn.ownInL, and_assoc]
 have hm : SysMax s := by have : SysMax (sysOf (sysD s)) := hm; rwa [sysOf_D] at this
 have hm' := hm
 obtain ⟨p1, p2, p3, p4, p5, p6⟩ := hm'
 refine ⟨p1, p2, p3, p4, p5, p6, fun hc => ?_, fun hc => ⟨⟨0, (gdC_zero s).symm, by rw [gdY_zero]; simp, by rw [gdY_zero]; simp, fun j _ => by rw [gdY_zero]; simp, by rw [gdY_zero]; simp, rfl, fun j => Nat.zero_le _, Nat.zero_le _, fun j hj => by omega⟩, fun g hg hall => ?_⟩⟩
 ·have e := gdE_2 hc
  exact ⟨gdN_bad (by rw [e]; decide), (gdR_bad (by rw [e]; decide)).symm, by rw [hc, e, errA_false]⟩
 obtain ⟨hy, hsl⟩ := gdY_ok hc hg hall
 have c1 := checkB_iff.1 hc
 have hgc := gdC_bnd hc hg hall
 have hgk := gdK_eq s g
 have hgy := gdY_succ s g
 rw [<- hgk] at hgy
 have hgcs := gdC_succ s g
 refine ⟨fun hlt => ⟨hm, hy.wy hc, ?_⟩, fun hge => ?_⟩
 ·generalize gdY s g = y at *
  have z : gbF s y (posW s y 0) = -1 := by rw [pos_zero (F := gbF s y) (fun k _ hw => gbF_no hw), gbF_zero]
  have bnd : ∀ k, k <= s.nmd -> -1 <= gbF s y k /\ gbF s y k < s.nmd := fun k hk => by have := gbF_bnd s y k; omega
  refine ⟨z.symm, gbL_neg (by omega), fun j hj => ⟨fun hlt2 => ?_, fun hge2 => ?_⟩⟩
  ·obtain ⟨q1, q2, q3⟩ := wyM_spec hlt2
   have hwp : wyP s y (wyM s y j) = true := wyP_iff.2 ⟨q1, q3⟩
   have hb := bnd (posW s y j) (posW_le j)
   have st : gbF s y (posW s y (j + 1)) = if gbF s y (posW s y j) < 0 \/ (s.md (wyM s y j)).cost < (s.md (gbF s y (posW s y j)).toNat).cost then (wyM s y j : Int) else gbF s y (posW s y j) := by
    rw [pos_succ (F := gbF s y) (fun k _ hw => gbF_no hw) hlt2, gbF_succ, posW_lt hlt2]
    simp [hwp]
   refine ⟨fun _ => q2, fun h => ⟨h, hb.2⟩, fun h => ?_, fun h1 h2 => ?_⟩
   ·rw [if_pos h] at st
    rw [gbL_pos (by omega), st]
    exact ⟨rfl, rfl, fun _ _ => ⟨rfl, rfl⟩, by omega⟩
   ·rw [if_neg (by omega)] at st
    rw [gbL_pos (k := posW s y (j + 1)) (by omega), gbL_pos (k := posW s y j) (by omega), st]
    exact ⟨rfl, rfl, fun _ _ => ⟨rfl, rfl⟩, by omega⟩
  ·have eb : gbF s y (posW s y j) = gdK s g := by rw [posW_end hge2, hgk]
   have hb := bnd s.nmd (Nat.le_refl _)
   rw [<- hgk] at hb
   rw [eb]
   refine ⟨fun h => ?_, fun h => ?_⟩
   ·have e := gdE_18 hc (by rw [gdT_at hg hall fun _ => h]; omega)
    exact ⟨gdN_bad (by rw [e]; decide), (gdR_bad (by rw [e]; decide)).symm, e.symm⟩
   ·have hmd := modeB_iff.1 (c1.2.2.2.2.2.2.2.2.2.2 (gdK s g).toNat (by omega))
    have e1 : gbL s y (posW s y j) = y.box.len := gbL_pos (by omega)
    have e2 : ((gdK s g).toNat : Int) = gdK s g := by omega
    refine ⟨by omega, h, hb.2, by omega, by omega, by omega, by omega, g + 1, hgcs.symm, ?_, ?_, fun i _ => ?_, ?_, rfl, fun i hi => app_one hi (fun _ => rfl) (fun e => by subst e; rfl), by omega, fun i hi => ?_, by omega⟩
    ·rw [hgy, nxD_slot]
    ·rw [e1, hgy, nxD_box, adV_len]
    ·rw [hgy, nxD_box, e2]; exact ⟨rfl, rfl⟩
    ·rw [hgy, nxD_val]
    ·by_cases e : i = g
     ·subst e; exact h
     ·exact hall i (by omega)
 ·have e := gdE_0 hc (by rw [gdT_at hg hall fun h => by omega]; omega)
  have eg : g = s.nld := by omega
  rw [gdN_ok e, gdR_ok e, <- eg]
  exact ⟨rfl, rfl, e.symm⟩
end Abs
end Go.Proofs.Ytdfdjlijghjdaaa

namespace Go.Proofs.Ytdfdjlijghjdaaa
namespace Abs
open Go Go.RowKit
end Abs
end Go.Proofs.Ytdfdjlijghjdaaa

namespace Go.Proofs.Ytdfdjlijghjdaaa
namespace Abs
open Go Go.RowKit
end Abs
end Go.Proofs.Ytdfdjlijghjdaaa

namespace Go.Proofs.Ytdfdjlijghjdaaa
namespace Abs
open Go Go.RowKit
noncomputable def SYr0 : Sums := ⟨SYf0.one, SYf0.two, SYf0.lo, SYf0.eqs, SYf0.its, SYf0.imm⟩
theorem SYr0_ok : SumsOK Try.prog SYr0 := SYf0_ok
end Abs
end Go.Proofs.Ytdfdjlijghjdaaa

namespace Go.Proofs.Ytdfdjlijghjdaaa
namespace Abs
open Go Go.RowKit
noncomputable def SYs0 : Sums := ⟨(24, mkSum _ nodesS) :: (22, mkSum _ grdS) :: (16, mkSum _ pplS) :: SYr0.one, SYr0.two, SYr0.lo, SYr0.eqs, SYr0.its, SYr0.imm⟩
theorem SYs0_ok : SumsOK Try.prog SYs0 := (((SYr0_ok.cons Try.func16 (by kernel_rfl) (by kernel_rfl) pplan_ok).cons Try.func22 (by kernel_rfl) (by kernel_rfl) greedy_ok).cons Try.func24 (by kernel_rfl) (by kernel_rfl) nodes_ok)
end Abs
end Go.Proofs.Ytdfdjlijghjdaaa

namespace Go.Proofs.Ytdfdjlijghjdaaa
namespace Abs
open Go Go.RowKit
end Abs
end Go.Proofs.Ytdfdjlijghjdaaa

namespace Go.Proofs.Ytdfdjlijghjdaaa
namespace Abs
open Go Go.RowKit
end Abs
end Go.Proofs.Ytdfdjlijghjdaaa

namespace Go.Proofs.Ytdfdjlijghjdaaa
namespace Abs
open Go Go.RowKit
noncomputable def SYv0 : Sums := ⟨SYs0.one, SYs0.two, SYs0.lo, SYs0.eqs, SYs0.its, SYs0.imm⟩
theorem SYv0_ok : SumsOK Try.prog SYv0 := SYs0_ok
end Abs
end Go.Proofs.Ytdfdjlijghjdaaa

namespace Go.Proofs.Ytdfdjlijghjdaaa
namespace Abs
open Go Go.RowKit
noncomputable def SYx0 : Sums := ⟨SYv0.one, SYv0.two, SYv0.lo, SYv0.eqs, SYv0.its, SYv0.imm⟩
theorem SYx0_ok : SumsOK Try.prog SYx0 := SYv0_ok
end Abs
end Go.Proofs.Ytdfdjlijghjdaaa

namespace Go.Proofs.Ytdfdjlijghjdaaa
namespace Abs
open Go Go.RowKit
@[irreducible] def p2 (k : Nat) : Int := 2 ^ k
theorem p2_cases {k : Nat} (h : k < 8) : (k = 0 /\ p2 k = 1) \/ (k = 1 /\ p2 k = 2) \/ (k = 2 /\ p2 k = 4) \/ (k = 3 /\ p2 k = 8) \/ (k = 4 /\ p2 k = 16) \/ (k = 5 /\ p2 k = 32) \/ (k = 6 /\ p2 k = 64) \/ (k = 7 /\ p2 k = 128) := by
 have : k = 0 \/ k = 1 \/ k = 2 \/ k = 3 \/ k = 4 \/ k = 5 \/ k = 6 \/ k = 7 := by omega
 unfold p2
 rcases this with rfl | rfl | rfl | rfl | rfl | rfl | rfl | rfl <;> decide
theorem p2_b {k : Nat} (h : k < 8) : 1 <= p2 k /\ p2 k <= 128 := by have := p2_cases h; omega
structure ManOK (S : Sys) (m : Nat) : Prop where
 ll : S.lim.len = 1
 l0 : S.lim.lo 0 = 0
 l1 : S.lim.hi 0 = 10000
 sl : S.st.len = 1
 s0 : S.st.lo 0 = 0
 s1 : S.st.hi 0 = 0
 nm : S.nmd = 8
 mc : ∀ k, (S.md k).cost = (k : Int)
 mn : ∀ k, (S.md k).nsh = 1
 ms : ∀ k, (S.md k).sh 0 = p2 k
 mf : ∀ k, (S.md k).nfl = 0
 nl : S.nld = m
 dl : ∀ k, (S.ld k).len = 1
 d0 : ∀ k, (S.ld k).lo 0 = 0
 d1 : ∀ k, (S.ld k).hi 0 = 0
theorem ManOK.ck {S : Sys} {m : Nat} (h : ManOK S m) (hm : m <= 48) : checkB S = true := by
 have one : ∀ {k n : Nat}, k < n -> n = 1 -> k = 0 := fun h1 h2 => by omega
 refine checkB_iff.2 ⟨by rw [h.ll]; omega, by rw [h.ll]; omega, by rw [h.nm]; omega, by rw [h.nm]; omega, by rw [h.nl]; exact hm, nearV_iff.2 fun k hk => ?_, by rw [h.sl, h.ll], nearV_iff.2 fun k hk => ?_, inV_iff.2 fun k hk => ?_, fun k hk => ⟨by rw [h.dl, h.ll], nearV_iff.2 fun j hj => ?_⟩, fun k hk => modeB_iff.2 ?_⟩
 ·rw [one hk h.ll, h.l0, h.l1]; omega
 ·rw [one hk h.sl, h.s0, h.s1]; omega
 ·rw [one hk h.sl, h.s0, h.s1, h.l0, h.l1]; omega
 ·rw [one hj (h.dl k), h.d0, h.d1]; omega
 ·rw [h.nm] at hk
  have := p2_b hk
  refine ⟨by rw [h.mc]; omega, by rw [h.mc]; omega, by rw [h.mn, h.ll], fun j hj => ?_, fun g hg => ?_⟩
  ·rw [one hj (h.mn k), h.ms]; omega
  ·rw [h.mf] at hg; omega
theorem ManOK.ad {S : Sys} {m : Nat} (h : ManOK S m) (t : Int) (k : Nat) (b : Bx) : (adV S t k b).lo 0 = b.lo 0 + p2 k /\ (adV S t k b).hi 0 = b.hi 0 + p2 k := by
 rw [adV_lo, adV_hi, Int.toNat_natCast, nxV_none (h.mf k), nxV_none (h.mf k), h.ms, h.d0, h.d1]
 omega
theorem ManOK.way {S : Sys} {m : Nat} (h : ManOK S m) {y : Nd} {k : Nat} {x : Int} (hs : y.slot < m) (hl : y.box.len = 1) (h0 : y.box.lo 0 = x) (h1 : y.box.hi 0 = x) (hk : k < 8) (hx : 0 <= x) (hm : x + p2 k <= 10000) : wyP S y k = true := by
 have hp := p2_b hk
 refine wyP_iff.2 ⟨by rw [h.nl]; exact hs, ?_⟩
 unfold wyB
 refine inV_iff.2 fun j hj => ?_
 rw [adV_len, hl] at hj
 obtain rfl : j = 0 := by omega
 obtain ⟨e1, e2⟩ := h.ad y.slot k y.box
 rw [e1, e2, h.l0, h.l1, h0, h1]; omega
def NodeP (S : Sys) (t : Nat) (x : Nat) : Prop := ∃ a, a < grN S /\ (grV S a).slot = t /\ (grV S a).box.lo 0 = x /\ (grV S a).box.hi 0 = x
theorem arS {x c : Nat} {p : Int} (hc : p = c) (hx : x + c <= 10000) : (x : Int) + p <= 10000 := by omega
theorem ManOK.step {S : Sys} {m : Nat} (h : ManOK S m) (he : exE S = 0) {t x k c : Nat} (hn : NodeP S t x) (ht : t < m) (hk : k < 8) (hc : p2 k = c) (hx : x + c <= 10000) : NodeP S (t + 1) (x + c) := by
 have gr := grV_ok he
 obtain ⟨a, h1, h2, h3, h4⟩ := hn
 have hl : (grV S a).box.len = 1 := by rw [gr.ln a h1, h.ll]
 have hw := h.way (y := grV S a) (k := k) (x := x) (by rw [h2]; exact Int.ofNat_lt.2 ht) hl h3 h4 hk (Int.natCast_nonneg _) (arS hc hx)
 obtain ⟨n1, n2, n3, -⟩ := nxI_ok gr h1 (by rw [h.nm]; exact hk) hw
 obtain ⟨e1, e2⟩ := h.ad (grV S a).slot k (grV S a).box
 obtain ⟨b1, b2⟩ := eqBx_iff.1 n3
 have b3 := b2 0 (by rw [gr.ln _ n1, h.ll]; omega)
 refine ⟨_, n1, by rw [n2]; omega, ?_, ?_⟩
 ·rw [b3.1, e1, h3]; omega
 ·rw [b3.2, e2, h4]; omega
theorem p2_at (k : Nat) (h : k < 8) (c : Nat) (hc : (k = 0 /\ c = 1) \/ (k = 1 /\ c = 2) \/ (k = 2 /\ c = 4) \/ (k = 3 /\ c = 8) \/ (k = 4 /\ c = 16) \/ (k = 5 /\ c = 32) \/ (k = 6 /\ c = 64) \/ (k = 7 /\ c = 128)) : p2 k = c := by
 have := p2_cases h; omega
theorem ManOK.zero {S : Sys} {m : Nat} (h : ManOK S m) (he : exE S = 0) : NodeP S 0 0 := by
 have gr := grV_ok he
 exact ⟨0, by have := gr.n1; omega, gr.p0, by rw [gr.b0, h.s0]; rfl, by rw [gr.b0, h.s1]; rfl⟩
theorem ManOK.dbl {S : Sys} {m : Nat} (h : ManOK S m) (he : exE S = 0) {t p q kp kq : Nat} (ht : t < m) (hk : kp < 8) (hp : p2 kp = p) (hkq : kq < 8) (hq : p2 kq = q) (hpq : 2 * q = p) (htq : t <= q) (hA : ∀ x, t <= x -> x < p -> NodeP S t x) : ∀ x, t + 1 <= x -> x < 2 * p -> NodeP S (t + 1) x := fun x h1 h2 => by
 have hpb := p2_b hk
 by_cases c1 : x <= p
 ·have := h.step he (hA (x - 1) (by omega) (by omega)) ht (k := 0) (by omega) (p2_at 0 (by omega) 1 (by omega)) (by omega)
  rwa [show x - 1 + 1 = x by omega] at this
 ·by_cases c2 : p + t <= x
  ·have := h.step he (hA (x - p) (by omega) (by omega)) ht hk hp (by omega)
   rwa [show x - p + p = x by omega] at this
  ·have := h.step he (hA (x - q) (by omega) (by omega)) ht hkq hq (by omega)
   rwa [show x - q + q = x by omega] at this
theorem ManOK.eight {S : Sys} {m : Nat} (h : ManOK S m) (he : exE S = 0) (hm : 40 <= m) : ∀ x, 8 <= x -> x < 256 -> NodeP S 8 x := by
 have a1 : ∀ x, 1 <= x -> x < 2 -> NodeP S 1 x := fun x h1 h2 => by
  have := h.step he (h.zero he) (by omega) (k := 0) (by omega) (p2_at 0 (by omega) 1 (by omega)) (by omega)
  have e : x = 0 + 1 := by omega
  subst e; exact this
 have a2 : ∀ x, 2 <= x -> x < 4 -> NodeP S 2 x := h.dbl he (t := 1) (p := 2) (q := 1) (kp := 1) (kq := 0) (by omega) (by omega) (p2_at 1 (by omega) 2 (by omega)) (by omega) (p2_at 0 (by omega) 1 (by omega)) rfl (by omega) a1
 have a3 : ∀ x, 3 <= x -> x < 8 -> NodeP S 3 x := h.dbl he (t := 2) (p := 4) (q := 2) (kp := 2) (kq := 1) (by omega) (by omega) (p2_at 2 (by omega) 4 (by omega)) (by omega) (p2_at 1 (by omega) 2 (by omega)) rfl (by omega) a2
 have a4 : ∀ x, 4 <= x -> x < 16 -> NodeP S 4 x := h.dbl he (t := 3) (p := 8) (q := 4) (kp := 3) (kq := 2) (by omega) (by omega) (p2_at 3 (by omega) 8 (by omega)) (by omega) (p2_at 2 (by omega) 4 (by omega)) rfl (by omega) a3
 have a5 : ∀ x, 5 <= x -> x < 32 -> NodeP S 5 x := h.dbl he (t := 4) (p := 16) (q := 8) (kp := 4) (kq := 3) (by omega) (by omega) (p2_at 4 (by omega) 16 (by omega)) (by omega) (p2_at 3 (by omega) 8 (by omega)) rfl (by omega) a4
 have a6 : ∀ x, 6 <= x -> x < 64 -> NodeP S 6 x := h.dbl he (t := 5) (p := 32) (q := 16) (kp := 5) (kq := 4) (by omega) (by omega) (p2_at 5 (by omega) 32 (by omega)) (by omega) (p2_at 4 (by omega) 16 (by omega)) rfl (by omega) a5
 have a7 : ∀ x, 7 <= x -> x < 128 -> NodeP S 7 x := h.dbl he (t := 6) (p := 64) (q := 32) (kp := 6) (kq := 5) (by omega) (by omega) (p2_at 6 (by omega) 64 (by omega)) (by omega) (p2_at 5 (by omega) 32 (by omega)) rfl (by omega) a6
 exact h.dbl he (t := 7) (p := 128) (q := 64) (kp := 7) (kq := 6) (by omega) (by omega) (p2_at 7 (by omega) 128 (by omega)) (by omega) (p2_at 6 (by omega) 64 (by omega)) rfl (by omega) a7
theorem ManOK.all {S : Sys} {m : Nat} (h : ManOK S m) (he : exE S = 0) (hm : 40 <= m) : ∀ {d : Nat}, d <= 16 -> ∀ x, 8 + d <= x -> x < 256 + 128 * d -> NodeP S (8 + d) x
 | 0, _, x, h1, h2 => h.eight he hm x (by omega) (by omega)
 | d + 1, hd, x, h1, h2 => by
   have ih := h.all he hm (d := d) (by omega)
   by_cases c1 : x <= 256 + 128 * d
   ·have := h.step he (ih (x - 1) (by omega) (by omega)) (by omega) (k := 0) (by omega) (p2_at 0 (by omega) 1 (by omega)) (by omega)
    rwa [show x - 1 + 1 = x by omega] at this
   ·have := h.step he (ih (x - 128) (by omega) (by omega)) (by omega) (k := 7) (by omega) (p2_at 7 (by omega) 128 (by omega)) (by omega)
    rwa [show x - 128 + 128 = x by omega] at this
theorem pigeon : ∀ (n N : Nat) (f : Nat -> Nat), (∀ i, i < N -> f i < n) -> (∀ i j, i < N -> j < N -> f i = f j -> i = j) -> N <= n
 | 0, N, f, h1, _ => by
   rcases Nat.eq_zero_or_pos N with h | h
   ·omega
   ·have := h1 0 h; omega
 | n + 1, N, f, h1, h2 => by
   rcases Nat.eq_zero_or_pos N with h | h
   ·omega
   ·have := pigeon n (N - 1) (fun i => if f i = n then f (N - 1) else f i) (fun i hi => by
     show (if f i = n then f (N - 1) else f i) < n
     have a := h1 i (by omega)
     have b := h1 (N - 1) (by omega)
     split
     ·rename_i e
      have : f (N - 1) ≠ n := fun e2 => by have := h2 i (N - 1) (by omega) (by omega) (by rw [e, e2]); omega
      omega
     ·omega) (fun i j hi hj e => by
     have e : (if f i = n then f (N - 1) else f i) = (if f j = n then f (N - 1) else f j) := e
     have b := fun i hi e => h2 i (N - 1) hi (by omega) e
     by_cases c1 : f i = n
     ·by_cases c2 : f j = n
      ·exact h2 i j (by omega) (by omega) (by rw [c1, c2])
      ·rw [if_pos c1, if_neg c2] at e
       have := b j (by omega) e.symm; omega
     ·by_cases c2 : f j = n
      ·rw [if_neg c1, if_pos c2] at e
       have := b i (by omega) e; omega
      ·rw [if_neg c1, if_neg c2] at e
       exact h2 i j (by omega) (by omega) e)
    omega
@[irreducible] def tpS (i : Nat) : Nat := if i < 1700 then 20 else if i < 3400 then 21 else 22
@[irreducible] def tpX (i : Nat) : Nat := if i < 1700 then 30 + i else if i < 3400 then 30 + (i - 1700) else 30 + (i - 3400)
theorem tp_inj {i j : Nat} (hi : i < 5100) (hj : j < 5100) (h1 : tpS i = tpS j) (h2 : tpX i = tpX j) : i = j := by
 unfold tpS at h1
 unfold tpX at h2
 by_cases a : i < 1700
 ·rw [if_pos a] at h1 h2
  by_cases b : j < 1700
  ·rw [if_pos b] at h2; omega
  ·rw [if_neg b] at h1; split at h1 <;> omega
 ·rw [if_neg a] at h1 h2
  by_cases c : i < 3400
  ·rw [if_pos c] at h1 h2
   by_cases b : j < 1700
   ·rw [if_pos b] at h1; omega
   ·rw [if_neg b] at h1 h2
    by_cases d : j < 3400
    ·rw [if_pos d] at h2; omega
    ·rw [if_neg d] at h1; omega
  ·rw [if_neg c] at h1 h2
   by_cases b : j < 1700
   ·rw [if_pos b] at h1; omega
   ·rw [if_neg b] at h1 h2
    by_cases d : j < 3400
    ·rw [if_pos d] at h1; omega
    ·rw [if_neg d] at h2; omega
theorem ManOK.six {S : Sys} {m : Nat} (h : ManOK S m) (h1 : 40 <= m) (h2 : m <= 48) : exE S = 6 := by
 have hc := h.ck h2
 rcases exE_case S with he | he | he
 ·exfalso
  have hn : ∀ i, i < 5100 -> NodeP S (tpS i) (tpX i) := fun i hi => by
   unfold tpS tpX
   split
   ·exact h.all he h1 (d := 12) (by omega) _ (by omega) (by omega)
   ·split
    ·exact h.all he h1 (d := 13) (by omega) _ (by omega) (by omega)
    ·exact h.all he h1 (d := 14) (by omega) _ (by omega) (by omega)
  have := pigeon (grN S) 5100 (fun i => if hi : i < 5100 then Classical.choose (hn i hi) else 0) (fun i hi => by
   show (if hi : i < 5100 then Classical.choose (hn i hi) else 0) < grN S
   rw [dif_pos hi]; exact (Classical.choose_spec (hn i hi)).1) (fun i j hi hj e => by
   have e : (if hi : i < 5100 then Classical.choose (hn i hi) else 0) = (if hj : j < 5100 then Classical.choose (hn j hj) else 0) := e
   rw [dif_pos hi, dif_pos hj] at e
   have a := (Classical.choose_spec (hn i hi)).2
   have b := (Classical.choose_spec (hn j hj)).2
   rw [e] at a
   refine tp_inj hi hj ?_ ?_
   ·exact Int.ofNat_inj.1 (a.1.symm.trans b.1)
   ·exact Int.ofNat_inj.1 (a.2.1.symm.trans b.2.1))
  exact absurd (Nat.le_trans this (grV_ok he).n5) (by decide)
 ·unfold exE at he
  rw [if_pos hc] at he
  split at he <;> cases he
 ·exact he
theorem ManOK.gk0 {S : Sys} {m : Nat} (h : ManOK S m) (h2 : m <= 48) {t : Nat} (ht : t < m) (b : (gdY S t).slot = t /\ (gdY S t).box.len = 1 /\ (gdY S t).box.lo 0 = t /\ (gdY S t).box.hi 0 = t) : gdK S t = 0 := by
 obtain ⟨b1, b2, b3, b4⟩ := b
 have hp := p2_at 0 (by omega) 1 (by omega)
 have hw : wyP S (gdY S t) 0 = true := h.way (x := t) (by omega) b2 b3 b4 (by omega) (by omega) (by rw [hp]; omega)
 have key : ∀ k, gbF S (gdY S t) (k + 1) = 0 := by
  intro k
  induction k with
  | zero => rw [gbF_succ, gbF_zero, if_pos ⟨hw, .inl (by omega)⟩]; rfl
  | succ k ih =>
    rw [gbF_succ, ih, if_neg]
    rintro ⟨-, hh⟩
    rw [h.mc, h.mc] at hh
    omega
 rw [gdK_eq, h.nm]
 exact key 7
theorem ManOK.gd {S : Sys} {m : Nat} (h : ManOK S m) (h2 : m <= 48) : ∀ {t : Nat}, t <= m -> ((gdY S t).slot = t /\ (gdY S t).box.len = 1 /\ (gdY S t).box.lo 0 = t /\ (gdY S t).box.hi 0 = t) /\ (t < m -> gdK S t = 0)
 | 0, _ => by
   have b : (gdY S 0).slot = ((0 : Nat) : Int) /\ (gdY S 0).box.len = 1 /\ (gdY S 0).box.lo 0 = ((0 : Nat) : Int) /\ (gdY S 0).box.hi 0 = ((0 : Nat) : Int) := by
    rw [gdY_zero]
    simp [h.sl, h.s0, h.s1]
   exact ⟨b, fun ht => h.gk0 h2 ht b⟩
 | t + 1, ht => by
   obtain ⟨⟨i1, i2, i3, i4⟩, i5⟩ := h.gd h2 (t := t) (by omega)
   have hk := i5 (by omega)
   rw [gdK_eq] at hk
   have b : (gdY S (t + 1)).slot = ((t + 1 : Nat) : Int) /\ (gdY S (t + 1)).box.len = 1 /\ (gdY S (t + 1)).box.lo 0 = ((t + 1 : Nat) : Int) /\ (gdY S (t + 1)).box.hi 0 = ((t + 1 : Nat) : Int) := by
    rw [gdY_succ, hk, nxD_slot, nxD_box, adV_len, show (0 : Int).toNat = 0 from rfl]
    obtain ⟨e1, e2⟩ := h.ad (gdY S t).slot 0 (gdY S t).box
    rw [e1, e2, i1, i3, i4, p2_at 0 (by omega) 1 (by omega)]
    exact ⟨by omega, i2, by omega, by omega⟩
   exact ⟨b, fun ht => h.gk0 h2 ht b⟩
theorem ManOK.gr {S : Sys} {m : Nat} (h : ManOK S m) (h2 : m <= 48) : gdE S = 0 /\ gdR S = 0 /\ gdN S = m := by
 have hc := h.ck h2
 have hz : ∀ t, t < m -> gdK S t = 0 := fun t ht => (h.gd h2 (t := t) (by omega)).2 ht
 have hT : gdT S = S.nld := gdT_at (Nat.le_refl _) (fun j hj => by rw [hz j (by rw [h.nl] at hj; exact hj)]; exact Int.le_refl _) (fun hh => absurd hh (Nat.lt_irrefl _))
 have he := gdE_0 hc hT
 have hC : ∀ t, t <= m -> gdC S t = 0 := by
  intro t
  induction t with
  | zero => intro _; exact gdC_zero S
  | succ t ih =>
    intro ht
    rw [gdC_succ, ih (by omega), hz t (by omega), h.mc]; rfl
 exact ⟨he, by rw [gdR_ok he, h.nl]; exact hC m (Nat.le_refl _), by rw [gdN_ok he, h.nl]⟩
theorem ManOK.mx {S : Sys} {m : Nat} (h : ManOK S m) (h2 : m <= 48) : SysMax S := by
 unfold SysMax maxLen
 rw [h.ll, h.sl, h.nm, h.nl]
 exact ⟨by omega, by omega, by omega, by omega, fun k _ => by rw [h.dl]; omega, fun k _ => by rw [h.mn, h.mf]; omega⟩
end Abs
end Go.Proofs.Ytdfdjlijghjdaaa
