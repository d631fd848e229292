/- A part of the proof: no statement of its own. -/
import Derived.Test.YtdhbbdljiidgiaaQG700a4d79
set_option linter.unusedSimpArgs false
set_option linter.unusedVariables false
namespace Go.Proofs.Ytdhbbdljiidgiaa
namespace Abs
open Go Go.RowKit
theorem bstN_le {c0 f lo : Int} {nx : Nat -> Int} {o : Int} : ∀ {d e : Nat}, e < d -> o = c0 + f - (lo + e) -> -1600 <= o -> o <= 1600 -> bstN c0 f lo nx d <= max o (-o) + nx (o + 1600).toNat
 | 0, e, h, _, _, _ => by omega
 | d + 1, e, h, ho, h1, h2 => by
   by_cases he : e = d
   ·subst he; rw [bstN_in ho h1 h2]; omega
   ·have ih := bstN_le (c0 := c0) (f := f) (lo := lo) (nx := nx) (d := d) (e := e) (by omega) ho h1 h2
    by_cases hc : -1600 <= c0 + f - (lo + d) /\ c0 + f - (lo + d) <= 1600
    ·rw [bstN_in rfl hc.1 hc.2]; omega
    ·rw [bstN_out rfl (by omega)]; exact ih
theorem bstN_at {c0 f lo : Int} {nx : Nat -> Int} : ∀ {d : Nat}, bstN c0 f lo nx d < 1073741824 -> ∃ e, e < d /\ (-1600 <= c0 + f - (lo + e) /\ c0 + f - (lo + e) <= 1600) /\ bstN c0 f lo nx d = max (c0 + f - (lo + e)) (-(c0 + f - (lo + e))) + nx (c0 + f - (lo + e) + 1600).toNat
 | 0, h => by rw [bstN_zero] at h; omega
 | d + 1, h => by
   by_cases hc : -1600 <= c0 + f - (lo + d) /\ c0 + f - (lo + d) <= 1600
   ·have e := bstN_in (nx := nx) (d := d) rfl hc.1 hc.2
    by_cases hm : bstN c0 f lo nx d <= max (c0 + f - (lo + d)) (-(c0 + f - (lo + d))) + nx (c0 + f - (lo + d) + 1600).toNat
    ·have e2 : bstN c0 f lo nx (d + 1) = bstN c0 f lo nx d := by rw [e]; omega
     obtain ⟨x, h1, h2, h3⟩ := bstN_at (c0 := c0) (f := f) (lo := lo) (nx := nx) (d := d) (by omega)
     exact ⟨x, by omega, h2, by rw [e2]; exact h3⟩
    ·exact ⟨d, by omega, hc, by rw [e]; omega⟩
   ·have e := bstN_out (nx := nx) (d := d) rfl (show c0 + f - (lo + d) < -1600 \/ 1600 < c0 + f - (lo + d) by omega)
    rw [e] at h
    obtain ⟨x, h1, h2, h3⟩ := bstN_at (c0 := c0) (f := f) (lo := lo) (nx := nx) (d := d) h
    exact ⟨x, by omega, h2, by rw [e]; exact h3⟩
def movF (F : Nat -> Int) (i : Nat) : Nat -> Int
 | 0 => 0
 | d + 1 => max (F (i + 1)) (-(F (i + 1))) + movF F (i + 1) d
theorem movF_sum {F : Nat -> Int} : ∀ {d i : Nat}, movF F i (d + 1) = movF F i d + max (F (i + d + 1)) (-(F (i + d + 1)))
 | 0, i => by simp [movF]
 | d + 1, i => by
   rw [movF, movF_sum (d := d) (i := i + 1), show movF F i (d + 1) = max (F (i + 1)) (-(F (i + 1))) + movF F (i + 1) d from rfl, show i + 1 + d + 1 = i + (d + 1) + 1 by omega]
   omega
theorem movF_nn {F : Nat -> Int} : ∀ {d i : Nat}, 0 <= movF F i d
 | 0, i => by simp [movF]
 | d + 1, i => by have := movF_nn (F := F) (d := d) (i := i + 1); rw [movF]; omega
theorem tab_endT {n : Nat} {c : Nat -> Int} {lo hi : Int} : tab n c lo hi n 1600 = 0 := by rw [tab_end]; unfold endT; simp
theorem tab_endN {n : Nat} {c : Nat -> Int} {lo hi : Int} {o : Int} (h : o ≠ 0) (h1 : -1600 <= o) (h2 : o <= 1600) : tab n c lo hi n (o + 1600).toNat = 1073741824 := by
 rw [tab_end]; unfold endT; rw [if_pos (by omega), if_neg (by omega)]
theorem tab_le {n : Nat} {c F : Nat -> Int} {lo hi t : Int} (h : Brings n c F lo hi t) (ht : t <= 1600) : ∀ {d i : Nat}, n - i = d -> i <= n -> tab n c lo hi i (F i + 1600).toNat <= movF F i d
 | 0, i, e, hi' => by
   obtain rfl : i = n := by omega
   rw [h.zn, show (0 + 1600 : Int).toNat = 1600 by rfl, tab_endT, movF]; exact Int.le_refl _
 | d + 1, i, e, hi' => by
   have ih := tab_le h ht (d := d) (i := i + 1) (by omega) (by omega)
   have hb := h.b i hi'
   have hb2 := h.b (i + 1) (by omega)
   have hl := h.l i (by omega)
   have ek : (((F i + 1600).toNat : Nat) : Int) - 1600 = F i := by omega
   rw [tab_at (by omega) (by omega), movF, ek]
   have key := bstN_le (c0 := c i) (f := F i) (lo := lo) (nx := tab n c lo hi (i + 1)) (o := F (i + 1)) (d := (hi - lo + 1).toNat) (e := (c i + F i - F (i + 1) - lo).toNat) (by omega) (by omega) (by omega) (by omega)
   omega
structure FPlan (n : Nat) (c : Nat -> Int) (lo hi : Int) (k : Nat) : Prop where
 s : movF (fwN n c lo hi) 0 k + tab n c lo hi k (fwN n c lo hi k + 1600).toNat = tab n c lo hi 0 1600
 l : ∀ i, i < k -> lo <= c i + fwN n c lo hi i - fwN n c lo hi (i + 1) /\ c i + fwN n c lo hi i - fwN n c lo hi (i + 1) <= hi
theorem fPlan {n : Nat} {c : Nat -> Int} {lo hi : Int} (hlh : lo <= hi) (h : tab n c lo hi 0 1600 < 1073741824) : ∀ k : Nat, k + 1 <= n -> FPlan n c lo hi k
 | 0, _ => ⟨by rw [movF, fwN_zero, show (0 + 1600 : Int).toNat = 1600 by rfl]; omega, fun i hi' => by omega⟩
 | k + 1, hk => by
   have ih := fPlan (n := n) (c := c) hlh h k (by omega)
   have hm := movF_nn (F := fwN n c lo hi) (d := k) (i := 0)
   have hF := fwN_in (n := n) (c := c) (lo := lo) (hi := hi) k
   have hs := ih.s
   have ek : (((fwN n c lo hi k + 1600).toNat : Nat) : Int) - 1600 = fwN n c lo hi k := by omega
   have hta := tab_at (n := n) (c := c) (lo := lo) (hi := hi) (i := k) (k := (fwN n c lo hi k + 1600).toNat) (by omega) (by omega)
   rw [ek] at hta
   obtain ⟨e, he, hin, hv⟩ := bstN_at (c0 := c k) (f := fwN n c lo hi k) (lo := lo) (nx := tab n c lo hi (k + 1)) (d := (hi - lo + 1).toNat) (by omega)
   have hw := wid_eq lo hi
   have hfk := fwK_eq n c lo hi k (fwN n c lo hi k)
   have hlt : fwK n c lo hi k (fwN n c lo hi k) < wid lo hi := by
    have hle := firstN_le (fwB n c lo hi k (fwN n c lo hi k)) (wid lo hi)
    rcases Nat.lt_or_ge (fwK n c lo hi k (fwN n c lo hi k)) (wid lo hi) with hh | hh
    ·exact hh
    ·have hno := firstN_not (fwB n c lo hi k (fwN n c lo hi k)) (wid lo hi) ((hi - lo).toNat - e) (by omega)
     have hyes : fwB n c lo hi k (fwN n c lo hi k) ((hi - lo).toNat - e) = true := (fwB_iff (o := c k + fwN n c lo hi k - (lo + e)) (by omega)).2 ⟨hin, by rw [hta, hv]⟩
     rw [hyes] at hno; cases hno
   have hB := firstN_is (fwB n c lo hi k (fwN n c lo hi k)) (wid lo hi) (by omega)
   rw [<- hfk] at hB
   have hS : fwN n c lo hi (k + 1) = c k + fwN n c lo hi k - (hi - fwK n c lo hi k (fwN n c lo hi k)) := by rw [fwN_succ]; exact fwS_at (Nat.le_refl _) hlt hB
   obtain ⟨b1, b2⟩ := (fwB_iff rfl).1 hB
   rw [<- hS] at b1 b2
   refine ⟨?_, fun i hi' => ?_⟩
   ·rw [movF_sum, Nat.zero_add]; omega
   ·by_cases hik : i = k
    ·subst hik; omega
    ·exact ih.l i (by omega)
structure FBest (n : Nat) (c : Nat -> Int) (lo hi : Int) : Prop where
 fit : fitB n c (n - 1) (fwF n c lo hi) lo hi = true
 le : ∀ f, fitB n c (n - 1) f lo hi = true -> movN (fwF n c lo hi) (n - 1) <= movN f (n - 1)
 t : movN (fwF n c lo hi) (n - 1) = tab n c lo hi 0 1600
 z : tab n c lo hi (n - 1) (fwN n c lo hi (n - 1) + 1600).toNat = 0
theorem movN_movF {f : Nat -> Int} {F : Nat -> Int} : ∀ {m : Nat}, (∀ k, k < m -> F (k + 1) = f k) -> movF F 0 m = movN f m
 | 0, _ => by rw [movF, movN_zero]
 | m + 1, h => by
   rw [movF_sum, movN_succ, movN_movF (m := m) fun k hk => h k (by omega), Nat.zero_add, h m (by omega), amt_eq]
theorem brings_b {n : Nat} {c F : Nat -> Int} {lo hi t : Int} (h : Brings n c F lo hi t) (hc : ∀ k, k < n -> 0 <= c k /\ c k <= 100) (l0 : 0 <= lo) (h1 : hi <= 100) : ∀ i : Nat, i <= n -> -(100 * i) <= F i /\ F i <= 100 * (i : Int)
 | 0, _ => by rw [h.z0]; simp
 | i + 1, hi' => by
   have ih := brings_b h hc l0 h1 i (by omega)
   have := h.l i (by omega)
   have := hc i (by omega)
   omega
theorem fBest {n : Nat} {c : Nat -> Int} {lo hi : Int} (h : fewE n c lo hi = 0) : FBest n c lo hi := by
 obtain ⟨⟨l1, l2, l3⟩, b1, b2, b3, hp⟩ := few_split h
 have hany : ∀ f, fitB n c (n - 1) f lo hi = true -> tab n c lo hi 0 1600 <= movN f (n - 1) /\ movN f (n - 1) <= 16 * 1600 := fun f hf => by
  have hB := fit_brings l1 hf
  have hb := brings_b hB l3 b1 b3
  have hB2 : Brings n c (inAt (n - 1) f) lo hi 1600 := ⟨hB.z0, hB.zn, fun i hi' => by have := hb i hi'; omega, hB.l⟩
  have hle := tab_le hB2 (Int.le_refl _) (d := n) (i := 0) rfl (Nat.zero_le _)
  rw [hB.z0, show (0 + 1600 : Int).toNat = 1600 by rfl] at hle
  obtain ⟨m, rfl⟩ : ∃ m, n = m + 1 := ⟨n - 1, by omega⟩
  have hz := hB.zn
  simp only [Nat.add_sub_cancel] at hle hz ⊢
  rw [movF_sum, Nat.zero_add, hz, movN_movF (f := f) fun k hk => by rw [inAt_succ, flAt_in hk]] at hle
  have hm := movN_in (f := f) (M := 1600) (m := m) fun k hk => by
   have := hb (k + 1) (by omega)
   simp only [Nat.add_sub_cancel] at this
   rw [inAt_succ, flAt_in hk] at this; omega
  exact ⟨by omega, by omega⟩
 have P := qPlan h
 have hq := hany _ P.fit
 have hfp := fPlan (n := n) (c := c) b2 (by omega) (n - 1) (by omega)
 have hs := hfp.s
 have hm := movF_nn (F := fwN n c lo hi) (d := n - 1) (i := 0)
 have hF := fwN_in (n := n) (c := c) (lo := lo) (hi := hi) (n - 1)
 have hF0 : ∀ k, fwF n c lo hi k = fwN n c lo hi (k + 1) := fun k => fwF_eq ..
 have ek : (((fwN n c lo hi (n - 1) + 1600).toNat : Nat) : Int) - 1600 = fwN n c lo hi (n - 1) := by omega
 have hta := tab_at (n := n) (c := c) (lo := lo) (hi := hi) (i := n - 1) (k := (fwN n c lo hi (n - 1) + 1600).toNat) (by omega) (by omega)
 rw [ek, show n - 1 + 1 = n by omega] at hta
 obtain ⟨e, he, hin, hv⟩ := bstN_at (c0 := c (n - 1)) (f := fwN n c lo hi (n - 1)) (lo := lo) (nx := tab n c lo hi n) (d := (hi - lo + 1).toNat) (by omega)
 have ho : c (n - 1) + fwN n c lo hi (n - 1) - (lo + e) = 0 := by
  by_cases hz : c (n - 1) + fwN n c lo hi (n - 1) - (lo + e) = 0
  ·exact hz
  ·have := tab_endN (n := n) (c := c) (lo := lo) (hi := hi) hz hin.1 hin.2
   omega
 have hz : tab n c lo hi (n - 1) (fwN n c lo hi (n - 1) + 1600).toNat = 0 := by
  rw [hta, hv, ho, show (0 + 1600 : Int).toNat = 1600 by rfl, tab_endT]; rfl
 have hmov : movN (fwF n c lo hi) (n - 1) = tab n c lo hi 0 1600 := by
  rw [<- movN_movF (F := fwN n c lo hi) (f := fwF n c lo hi) fun k _ => (hF0 k).symm]; omega
 refine ⟨fitB_t.2 fun k hk => ?_, fun f hf => by rw [hmov]; exact (hany f hf).1, hmov, hz⟩
 have hI : inAt (n - 1) (fwF n c lo hi) k = fwN n c lo hi k := by
  cases k with
  | zero => rw [inAt_zero, fwN_zero]
  | succ k => rw [inAt_succ, flAt_in (by omega), hF0]
 rw [bhV_eq, hI]
 by_cases hkn : k < n - 1
 ·rw [flAt_in hkn, hF0]; exact hfp.l k hkn
 ·obtain rfl : k = n - 1 := by omega
  rw [flAt_out (by omega)]
  omega
theorem mul_max {p x lo hi : Int} (h1 : lo <= x) (h2 : x <= hi) : p * x <= max (p * lo) (p * hi) := by
 by_cases hp : 0 <= p
 ·have := Int.mul_le_mul_of_nonneg_left h2 hp; omega
 ·have := Int.mul_le_mul_of_nonpos_left (a := p) (by omega) h1; omega
theorem mul_abs {d F : Int} (h : -1 <= d /\ d <= 1) : d * F <= max F (-F) := by
 rcases (show d = -1 \/ d = 0 \/ d = 1 by omega) with rfl | rfl | rfl <;> omega
theorem weak {n : Nat} {c F p : Nat -> Int} {lo hi t : Int} (h : Brings n c F lo hi t) (hp : ∀ i, i + 1 < n -> -1 <= p (i + 1) - p i /\ p (i + 1) - p i <= 1) : ∀ k : Nat, k + 1 <= n -> pvN c p lo hi (k + 1) <= movF F 0 k + p k * F (k + 1)
 | 0, hk => by
   have hl := h.l 0 (by omega)
   rw [pvN_succ, pvN_zero, pvK_eq, movF]
   have := mul_max (p := p 0) hl.1 hl.2
   rw [h.z0] at this
   have e : p 0 * (c 0 + 0 - F (0 + 1)) = p 0 * c 0 - p 0 * F (0 + 1) := by rw [Int.mul_sub, Int.add_zero]
   rw [e] at this
   omega
 | k + 1, hk => by
   have ih := weak h hp k (by omega)
   have hl := h.l (k + 1) (by omega)
   have hd := hp k (by omega)
   rw [pvN_succ, pvK_eq, movF_sum, Nat.zero_add]
   have h1 := mul_max (p := p (k + 1)) hl.1 hl.2
   have e : p (k + 1) * (c (k + 1) + F (k + 1) - F (k + 1 + 1)) = p (k + 1) * c (k + 1) + p (k + 1) * F (k + 1) - p (k + 1) * F (k + 1 + 1) := by rw [Int.mul_sub, Int.mul_add]
   rw [e] at h1
   have h2 := mul_abs (d := p k - p (k + 1)) (F := F (k + 1)) (by omega)
   rw [Int.sub_mul] at h2
   omega
theorem weak_fit {n : Nat} {c f p : Nat -> Int} {lo hi : Int} (hn : 0 < n) (h : fitB n c (n - 1) f lo hi = true) (hp : ∀ i, i + 1 < n -> -1 <= p (i + 1) - p i /\ p (i + 1) - p i <= 1) : pvN c p lo hi n <= movN f (n - 1) := by
 have hB := fit_brings hn h
 obtain ⟨m, rfl⟩ : ∃ m, n = m + 1 := ⟨n - 1, by omega⟩
 have := weak hB hp m (Nat.le_refl _)
 have hz := hB.zn
 simp only [Nat.add_sub_cancel] at this hz ⊢
 rw [hz, Int.mul_zero, Int.add_zero, movN_movF (f := f) fun k hk => by rw [inAt_succ, flAt_in hk]] at this
 exact this
end Abs
end Go.Proofs.Ytdhbbdljiidgiaa

namespace Go.Proofs.Ytdhbbdljiidgiaa
namespace Abs
open Go Go.RowKit
noncomputable section
@[reducible] def bySh : Sh := .slice 1 [.int .u8]
@[irreducible] def smN (q : Nat) (many : Int) : Nat := if (q : Int) < many - 1 then q + 1 else many.toNat
theorem smN_eq (q : Nat) (many : Int) : smN q many = if (q : Int) < many - 1 then q + 1 else many.toNat := by unfold smN; rfl
@[irreducible] def smC (l : Nat -> Int) (lo most : Int) (k : Nat) : Int := if k = 0 then lo % (most + 1) else l (k - 1) % (most + 1)
theorem smC_0 (l : Nat -> Int) (lo most : Int) : smC l lo most 0 = lo % (most + 1) := by unfold smC; rfl
theorem smC_s (l : Nat -> Int) (lo most : Int) (k : Nat) : smC l lo most (k + 1) = l k % (most + 1) := by unfold smC; rw [if_neg (by omega), Nat.add_sub_cancel]
theorem smC_in {l : Nat -> Int} {lo most : Int} (h : 0 <= most) (k : Nat) : 0 <= smC l lo most k /\ smC l lo most k <= most := by
 unfold smC
 split
 ·exact ⟨Int.emod_nonneg _ (by omega), by have := Int.emod_lt_of_pos lo (show 0 < most + 1 by omega); omega⟩
 ·exact ⟨Int.emod_nonneg _ (by omega), by have := Int.emod_lt_of_pos (l (k - 1)) (show 0 < most + 1 by omega); omega⟩
@[irreducible] def smA (lo most : Int) : Int := (lo / 16) % (most + 1)
theorem smA_eq (lo most : Int) : smA lo most = (lo / 16) % (most + 1) := by unfold smA; rfl
theorem smA_in {lo most : Int} (h : 0 <= most) : 0 <= smA lo most /\ smA lo most <= most := by
 rw [smA_eq]
 exact ⟨Int.emod_nonneg _ (by omega), by have := Int.emod_lt_of_pos (lo / 16) (show 0 < most + 1 by omega); omega⟩
@[irreducible] def smZ (lo most wide : Int) : Int := min most (smA lo most + wide % 3)
theorem smZ_eq (lo most wide : Int) : smZ lo most wide = min most (smA lo most + wide % 3) := by unfold smZ; rfl
def smlS : Spec [bySh, .int .i64, .int .i64, .int .u8, .int .u8] := ⟨fun ((q, l), (many : Int), (most : Int), (lo : Int), (wide : Int), _) => q <= maxLen /\ 1 <= many /\ many <= 16 /\ 0 <= most /\ most <= 100 /\ 0 <= lo /\ lo <= 255 /\ 0 <= wide /\ wide <= 255 /\ ∀ k, k < q -> 0 <= (l k).1 /\ (l k).1 <= 255,
 fun ((q, l), (many : Int), (most : Int), (lo : Int), (wide : Int), _) => .tup [.slc (.sym (smN q many)) 1 (fun k => [.si .i64 (smC (fun k => (l k).1) lo most k)]), .si .i64 (smA lo most), .si .i64 (smZ lo most wide)]⟩
def smlI : DatL [bySh, .int .i64, .int .i64, .int .u8, .int .u8] -> Anns := fun ((q, l), (many : Int), (most : Int), (lo : Int), (wide : Int), _) => [
 (3, [], fun fr hp => ⟨Nat, fun g => ⟨frI [.k 14, .s (.si .i64 (icast g)), .k 6, .t 39] fr, setB hp 0 (.row 3 1 (.sym (nadd g 1)) (fun k => [.si .i64 (smC (fun k => (l k).1) lo most k)]))⟩, Nat × Int × Nat, fun g => (q, many, g), fun (q, (many : Int), g) => g <= q /\ (g : Int) <= many - 1, fun g => nsub 16 g⟩)]
theorem tmod_e {a b : Int} (h : 0 <= a) : a.tmod b = a % b := Int.tmod_eq_emod_of_nonneg h
set_option maxRecDepth 100000 in
theorem sml_ok : FnSpec Try.prog 12 _ smlS := by
 refine FnSpec.of SI5_ok mixed (U := 0) (I := smlI) Try.func12 rfl (by kernel_rfl) rfl rfl (by decide +kernel) ?_
 rintro ⟨⟨q, l'⟩, (many : Int), (most : Int), (lo : Int), (wide : Int), ⟨⟩⟩ ⟨(hq : q <= maxLen), (m1 : 1 <= many), (m2 : many <= 16), (t0 : 0 <= most), (t1 : most <= 100), (o0 : 0 <= lo), (o1 : lo <= 255), (w0 : 0 <= wide), (w1 : wide <= 255), (hl : ∀ k, k < q -> 0 <= (l' k).1 /\ (l' k).1 <= 255)⟩
 obtain ⟨l, rfl⟩ : ∃ l : Nat -> Int, l' = fun k => (l k, ()) := ⟨fun k => (l' k).1, rfl⟩
 have hl : ∀ k, k < q -> 0 <= l k /\ l k <= 255 := hl
 unfold maxLen at hq
 unfold FnSat
 conv => arg 2; reduce
 simp [smlS, ElEq, getB, goneB, aliveB, maxRow, and_assoc]
 have e1 : (fun k => l k) = l := rfl
 simp only [e1]
 have hw : IntKind.u8.wrap (lo.tdiv 16) = lo / 16 := by
  rw [Int.tdiv_eq_ediv_of_nonneg o0]
  first | (rw [IntKind.wrap_u8]; omega) | exact inR_wrap (by constructor <;> simp [IntKind.min, IntKind.max, IntKind.bits] <;> omega) | exact inR_wrap (show (0 : Int) <= lo / 16 /\ lo / 16 <= 255 by omega)
 have hA := smA_in (lo := lo) t0
 have hZ := smZ_eq lo most wide
 have hw3 : wide.tmod 3 = wide % 3 := tmod_e w0
 rw [hw, tmod_e (by omega : 0 <= lo / 16), <- smA_eq, hw3]
 refine ⟨by omega, by omega, by omega, by omega, by omega, ⟨0, rfl, rfl, fun j hj => ?_, by omega, by omega⟩, fun g hg hgm => ⟨fun _ => by omega, fun hlt hlm => ?_, fun hge => ?_⟩⟩
 ·obtain rfl : j = 0 := by omega
  rw [smC_0, tmod_e o0]; rfl
 ·have a := hl g hlt
  refine ⟨hlt, by omega, by omega, by omega, by omega, by omega, by omega, by omega, by omega, g + 1, by omega, rfl, fun j hj => app_one hj (fun _ => rfl) (fun e => by subst e; rw [smC_s, tmod_e a.1]; rfl), by omega, by omega, by omega⟩
 ·refine ⟨by omega, by omega, by omega, by omega, by omega, by omega, by omega, by omega, by omega, ?_, rfl, by omega⟩
  rw [smN_eq]
  by_cases h : g < q
  ·rw [if_neg (by have := hge h; omega)]; have := hge h; omega
  ·obtain rfl : g = q := by omega
   by_cases h2 : (g : Int) < many - 1
   ·rw [if_pos h2]
   ·rw [if_neg h2]; omega
theorem smN_in {q : Nat} {many : Int} (h : 1 <= many) : 1 <= smN q many /\ (smN q many : Int) <= many := by
 rw [smN_eq]; split <;> omega
noncomputable def SJ1 : Sums := ⟨(12, mkSum _ smlS) :: SI5.one, SI5.two, SI5.lo, SI5.eqs, SI5.its, SI5.imm⟩
theorem SJ1_ok : SumsOK Try.prog SJ1 := (SI5_ok.cons Try.func12 (by kernel_rfl) (by kernel_rfl) sml_ok)
end
end Abs
end Go.Proofs.Ytdhbbdljiidgiaa

namespace Go.Proofs.Ytdhbbdljiidgiaa
namespace Abs
open Go Go.RowKit
noncomputable section
def rpvS : Spec [inSh, .int .i64, .int .i64, inSh] := ⟨fun ((n, c), (lo : Int), (hi : Int), (m, p), _) => n <= 16 /\ m = n /\ 0 <= lo /\ lo <= 100 /\ 0 <= hi /\ hi <= 100 /\ (∀ k, k < n -> 0 <= (c k).1 /\ (c k).1 <= 100) /\ ∀ k, k < m -> -16 <= (p k).1 /\ (p k).1 <= 16, fun ((n, c), (lo : Int), (hi : Int), (m, p), _) => .si .i64 (pvN (fun k => (c k).1) (fun k => (p k).1) lo hi n)⟩
def rpvI : DatL [inSh, .int .i64, .int .i64, inSh] -> Anns := fun ((n, c), (lo : Int), (hi : Int), (m, p), _) => [
 (3, [], fun fr hp => ⟨Nat, fun g => ⟨frI [.k 9, .s (.si .i64 (pvN (fun k => (c k).1) (fun k => (p k).1) lo hi g)), .s (.si .i64 (icast g)), .t 32] fr, hp⟩, Nat × Nat, fun g => (n, g), fun (n, g) => g <= n, fun g => nsub n g⟩)]
set_option maxRecDepth 100000 in
theorem rpv_ok : FnSpec Try.prog 33 _ rpvS := by
 refine FnSpec.of SJ1_ok mixed (U := 0) (I := rpvI) Try.func33 rfl (by kernel_rfl) rfl rfl (by decide +kernel) ?_
 rintro ⟨⟨n, c'⟩, (lo : Int), (hi : Int), ⟨m, p'⟩, ⟨⟩⟩ ⟨(h1 : n <= 16), (h2 : m = n), (l0 : 0 <= lo), (l1 : lo <= 100), (u0 : 0 <= hi), (u1 : hi <= 100), (h3 : ∀ k, k < n -> 0 <= (c' k).1 /\ (c' k).1 <= 100), (h4 : ∀ k, k < m -> -16 <= (p' k).1 /\ (p' k).1 <= 16)⟩
 obtain ⟨c, rfl⟩ : ∃ c : Nat -> Int, c' = fun k => (c k, ()) := ⟨fun k => (c' k).1, rfl⟩
 obtain ⟨p, rfl⟩ : ∃ p : Nat -> Int, p' = fun k => (p k, ()) := ⟨fun k => (p' k).1, rfl⟩
 subst h2
 have h3 : ∀ k, k < m -> 0 <= c k /\ c k <= 100 := h3
 have h4 : ∀ k, k < m -> -16 <= p k /\ p k <= 16 := h4
 unfold FnSat
 conv => arg 2; reduce
 simp [rpvS, ElEq, getB, goneB, aliveB, and_assoc]
 have e1 : (fun k => c k) = c := rfl
 have e2 : (fun k => p k) = p := rfl
 simp only [e1, e2]
 refine ⟨⟨0, by simp, rfl, by omega⟩, fun g hg => ⟨fun hlt => ?_, fun hge => by rw [show g = m by omega]⟩⟩
 have a := h4 g hlt
 have b := h3 g hlt
 have m1 := mul_B (X := 16) (Y := 100) a (y := c g) (by omega)
 have m2 := mul_B (X := 16) (Y := 100) a (y := lo) (by omega)
 have m3 := mul_B (X := 16) (Y := 100) a (y := hi) (by omega)
 have d := pvN_in (c := c) (p := p) ⟨l0, l1⟩ ⟨u0, u1⟩ (n := g) fun k hk => ⟨h4 k (by omega), h3 k (by omega)⟩
 have e := pvN_succ c p lo hi g
 rw [pvK_eq] at e
 repeat' refine And.intro ?_ ?_
 all_goals first | omega | exact ⟨g + 1, e.symm, by omega, by omega, by omega⟩
noncomputable def SK1 : Sums := ⟨(33, mkSum _ rpvS) :: SJ1.one, SJ1.two, SJ1.lo, SJ1.eqs, SJ1.its, SJ1.imm⟩
theorem SK1_ok : SumsOK Try.prog SK1 := (SJ1_ok.cons Try.func33 (by kernel_rfl) (by kernel_rfl) rpv_ok)
end
def bpP0 (q : Nat) (pr : Nat -> Int) : Nat -> Int
 | 0 => 0
 | i + 1 => if i + 1 < q then max (-16) (min 16 (bpP0 q pr i + (pr (i + 1)).tmod 2)) else bpP0 q pr i
@[irreducible] def bpP (q : Nat) (pr : Nat -> Int) (i : Nat) : Int := bpP0 q pr i
theorem bpP_0 (q : Nat) (pr : Nat -> Int) : bpP q pr 0 = 0 := by unfold bpP; rfl
theorem bpP_y {q : Nat} {pr : Nat -> Int} {i : Nat} (h : i + 1 < q) : bpP q pr (i + 1) = max (-16) (min 16 (bpP q pr i + (pr (i + 1)).tmod 2)) := by unfold bpP; rw [bpP0, if_pos h]
theorem bpP_n {q : Nat} {pr : Nat -> Int} {i : Nat} (h : ¬ i + 1 < q) : bpP q pr (i + 1) = bpP q pr i := by unfold bpP; rw [bpP0, if_neg h]
theorem tmod2 (x : Int) : -1 <= x.tmod 2 /\ x.tmod 2 <= 1 := by
 have h := Int.tmod_add_tdiv_mul x 2
 have h2 := Int.lt_tmod_of_pos x (show (0 : Int) < 2 by omega)
 have h3 := Int.tmod_lt_of_pos x (show (0 : Int) < 2 by omega)
 omega
theorem bpP_in (q : Nat) (pr : Nat -> Int) : ∀ i : Nat, -16 <= bpP q pr i /\ bpP q pr i <= 16
 | 0 => by rw [bpP_0]; omega
 | i + 1 => by
   by_cases h : i + 1 < q
   ·rw [bpP_y h]; omega
   ·rw [bpP_n h]; exact bpP_in q pr i
theorem bpP_d (q : Nat) (pr : Nat -> Int) (i : Nat) : -1 <= bpP q pr (i + 1) - bpP q pr i /\ bpP q pr (i + 1) - bpP q pr i <= 1 := by
 have := bpP_in q pr i
 by_cases h : i + 1 < q
 ·have := tmod2 (pr (i + 1)); rw [bpP_y h]; omega
 ·rw [bpP_n h]; omega
end Abs
end Go.Proofs.Ytdhbbdljiidgiaa
