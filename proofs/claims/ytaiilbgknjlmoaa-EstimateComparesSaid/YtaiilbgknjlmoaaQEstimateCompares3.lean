/- Part 3 of the proof of EstimateCompares: no statement of its own. -/
import Derived.Test.YtaiilbgknjlmoaaQEstimateCompares2
/- The first place at which something holds; somewhere, everywhere. -/
namespace Go.Proofs.Ytaiilbgknjlmoaa
namespace Abs
open Go

/-- the first k below n with p k, or n -/
def firstN (p : Nat → Bool) : Nat → Nat
  | 0 => 0
  | n + 1 => let f := firstN p n; if f < n then f else if p n then n else n + 1
theorem firstN_zero (p : Nat → Bool) : firstN p 0 = 0 := rfl
theorem firstN_succ (p : Nat → Bool) (n : Nat) : firstN p (n + 1) = if firstN p n < n then firstN p n else if p n then n else n + 1 := rfl
attribute [irreducible] firstN
theorem firstN_le (p : Nat → Bool) : ∀ n, firstN p n ≤ n
  | 0 => by rw [firstN_zero]; omega
  | n + 1 => by
    have := firstN_le p n
    rw [firstN_succ]
    split
    · omega
    · split <;> omega
theorem firstN_not (p : Nat → Bool) : ∀ n k, k < firstN p n → p k = false
  | 0, k, h => by rw [firstN_zero] at h; omega
  | n + 1, k, h => by
    have hle := firstN_le p n
    rw [firstN_succ] at h
    split at h
    · exact firstN_not p n k h
    · by_cases hk : k < n
      · exact firstN_not p n k (by omega)
      · split at h
        · omega
        · obtain rfl : k = n := by omega
          cases hp : p k with
          | false => rfl
          | true => rename_i h1; exact absurd hp h1
theorem firstN_is (p : Nat → Bool) : ∀ n, firstN p n < n → p (firstN p n) = true
  | 0, h => by omega
  | n + 1, h => by
    have hle := firstN_le p n
    rw [firstN_succ] at h ⊢
    split
    · rename_i h1; exact firstN_is p n h1
    · rename_i h1
      rw [if_neg h1] at h
      split
      · rename_i h2; exact h2
      · rename_i h2; rw [if_neg h2] at h; omega
theorem firstN_uniq {p : Nat → Bool} {n k : Nat} (hk : k ≤ n) (h1 : ∀ j, j < k → p j = false) (h2 : k < n → p k = true) : firstN p n = k := by
  have hle := firstN_le p n
  rcases Nat.lt_trichotomy (firstN p n) k with h | h | h
  · have := firstN_is p n (by omega); rw [h1 _ h] at this; cases this
  · exact h
  · have := firstN_not p n k h; rw [h2 (by omega)] at this; cases this
theorem firstN_ge {p : Nat → Bool} {n k : Nat} (hk : k ≤ firstN p n) (h : p k = false) (hn : k < n) : k + 1 ≤ firstN p n := by
  rcases Nat.lt_or_ge k (firstN p n) with h1 | h1
  · omega
  · obtain rfl : k = firstN p n := by omega
    have := firstN_is p n hn
    rw [h] at this; cases this
theorem firstN_at {p : Nat → Bool} {n k : Nat} (hk : k ≤ firstN p n) (h : p k = true) : firstN p n = k := by
  rcases Nat.lt_or_ge k (firstN p n) with h1 | h1
  · have := firstN_not p n k h1; rw [h] at this; cases this
  · omega
/-- somewhere below n -/
@[irreducible] def anyN (p : Nat → Bool) (n : Nat) : Bool := decide (firstN p n < n)
theorem anyN_iff {p : Nat → Bool} {n : Nat} : anyN p n = true ↔ ∃ k, k < n ∧ p k = true := by
  unfold anyN
  simp only [decide_eq_true_eq]
  constructor
  · intro h; exact ⟨_, h, firstN_is p n h⟩
  · rintro ⟨k, hk, hp⟩
    rcases Nat.lt_or_ge (firstN p n) n with h | h
    · exact h
    · have := firstN_not p n k (by omega); rw [hp] at this; cases this
theorem anyN_false {p : Nat → Bool} {n : Nat} : anyN p n = false ↔ ∀ k, k < n → p k = false := by
  constructor
  · intro h k hk
    cases hp : p k with
    | false => rfl
    | true => have := anyN_iff.2 ⟨k, hk, hp⟩; rw [h] at this; cases this
  · intro h
    cases ha : anyN p n with
    | false => rfl
    | true => obtain ⟨k, hk, hp⟩ := anyN_iff.1 ha; rw [h k hk] at hp; cases hp
@[simp] theorem anyN_zero (p : Nat → Bool) : anyN p 0 = false := anyN_false.2 fun k hk => by omega
theorem anyN_succ (p : Nat → Bool) (n : Nat) : anyN p (n + 1) = (anyN p n || p n) := by
  rw [Bool.eq_iff_iff, Bool.or_eq_true, anyN_iff, anyN_iff]
  constructor
  · rintro ⟨k, hk, hp⟩
    by_cases h : k < n
    · exact .inl ⟨k, h, hp⟩
    · obtain rfl : k = n := by omega
      exact .inr hp
  · rintro (⟨k, hk, hp⟩ | hp)
    · exact ⟨k, by omega, hp⟩
    · exact ⟨n, by omega, hp⟩
@[simp] theorem anyN_one (p : Nat → Bool) : anyN p 1 = p 0 := by rw [anyN_succ]; simp
@[simp] theorem anyN_two (p : Nat → Bool) : anyN p 2 = (p 0 || p 1) := by rw [anyN_succ]; simp
theorem anyN_congr {p q : Nat → Bool} {n : Nat} (h : ∀ k, k < n → p k = q k) : anyN p n = anyN q n := by
  rw [Bool.eq_iff_iff, anyN_iff, anyN_iff]
  constructor
  · rintro ⟨k, hk, hp⟩; exact ⟨k, hk, by rw [← h k hk]; exact hp⟩
  · rintro ⟨k, hk, hp⟩; exact ⟨k, hk, by rw [h k hk]; exact hp⟩
/-- everywhere below n -/
@[irreducible] def allN (p : Nat → Bool) (n : Nat) : Bool := !(anyN (fun k => !(p k)) n)
theorem allN_iff {p : Nat → Bool} {n : Nat} : allN p n = true ↔ ∀ k, k < n → p k = true := by
  unfold allN
  rw [Bool.not_eq_true', anyN_false]
  simp
/-- the index that a search answers -/
@[irreducible] def idxN (p : Nat → Bool) (n : Nat) : Int := if firstN p n < n then (firstN p n : Int) else -1
theorem idxN_nonneg {p : Nat → Bool} {n : Nat} : decide (0 ≤ idxN p n) = anyN p n := by
  unfold idxN anyN
  split <;> rename_i h <;> simp [h] <;> omega
end Abs
end Go.Proofs.Ytaiilbgknjlmoaa

/- Spans that are valid. -/
namespace Go.Proofs.Ytaiilbgknjlmoaa
namespace Abs
open Go Go.RowKit
@[reducible] def spanSh : Sh := .agg [.int .i64, .int .i64]
@[reducible] def spansSh : Sh := .slice 2 [.int .i64, .int .i64]
@[irreducible] def spanOK (lo hi : Int) : Bool := isQ lo && isQ hi && decide (lo ≤ hi)
@[irreducible] def badSpan (lo hi : Int) : Bool := !(spanOK lo hi)
def badS : Spec [spanSh] := ⟨fun _ => True, fun ((lo, hi, _), _) => .sb (badSpan lo hi)⟩
set_option maxRecDepth 100000 in
theorem is_ok : FnSpec Try.prog 38 _ isQs := by
  refine FnSpec.of SP_ok mixed (U := 0) (I := fun _ => []) Try.func38 rfl (by kernel_rfl) rfl rfl (by decide +kernel) ?_
  rintro ⟨(x : Int), ⟨⟩⟩ -
  unfold FnSat
  conv => arg 2; reduce
  simp [isQs, isQ]
def SQ0 : Sums := ⟨(38, mkSum _ isQs) :: SP.one, SP.two, SP.lo, SP.eqs⟩
theorem SQ0_ok : SumsOK Try.prog SQ0 := (SP_ok.cons Try.func38 (by kernel_rfl) (by kernel_rfl) is_ok)
set_option maxRecDepth 100000 in
theorem bad_ok : FnSpec Try.prog 37 _ badS := by
  refine FnSpec.of SQ0_ok mixed (U := 0) (I := fun _ => []) Try.func37 rfl (by kernel_rfl) rfl rfl (by decide +kernel) ?_
  rintro ⟨⟨(lo : Int), (hi : Int), ⟨⟩⟩, ⟨⟩⟩ -
  unfold FnSat
  conv => arg 2; reduce
  simp [badS, isQs, badSpan, spanOK]
  cases isQ lo <;> cases isQ hi <;> (rw [Bool.eq_iff_iff]; simp)
def SQ1 : Sums := ⟨(37, mkSum _ badS) :: SQ0.one, SQ0.two, SQ0.lo, SQ0.eqs⟩
theorem SQ1_ok : SumsOK Try.prog SQ1 := (SQ0_ok.cons Try.func37 (by kernel_rfl) (by kernel_rfl) bad_ok)
def anyBadI : Spec [.slice 2 [.int .i64, .int .i64], .fn 37 [] []] := ⟨fun x => x.1.1 ≤ maxLen, fun ((n, el), ((_, c), _)) => .si .i64 (idxN (fun k => badSpan (el k).1 (el k).2.1) n)⟩
noncomputable def anyBadA : DatL [.slice 2 [.int .i64, .int .i64], .fn 37 [] []] → Anns := fun ((n, el), ((_, c), _)) => [(2, [], fun fr hp => ⟨Nat, fun g => ⟨frI [.k 5, .t 1, .k 2, .s (.si .i64 (icast g)), .t 10] fr, hp⟩, Nat, fun g => g, fun g => g ≤ firstN (fun k => badSpan (el k).1 (el k).2.1) n, fun g => nsub n g⟩)]
set_option maxRecDepth 100000 in
theorem anyBadI_ok : FnSpec Try.prog 41 _ anyBadI := by
  refine FnSpec.of SQ1_ok mixed (U := 0) (I := anyBadA) Try.func41 rfl (by kernel_rfl) rfl rfl (by decide +kernel) ?_
  rintro ⟨⟨n, el⟩, ⟨⟨⟩, c⟩, ⟨⟩⟩ hpre
  have hn : n ≤ maxLen := hpre
  unfold FnSat
  conv => arg 2; reduce
  unfold maxLen at hn
  have hle := firstN_le (fun k => badSpan (el k).1 (el k).2.1) n
  simp [anyBadI, badS, and_assoc]
  refine ⟨⟨0, rfl, by omega⟩, fun k hk => ⟨fun h1 => ?_, fun h1 => ?_⟩⟩
  · refine ⟨h1, fun h2 => ?_, fun h2 => ?_⟩
    · rw [idxN, firstN_at hk (by simpa using h2), if_pos h1]; try simp
    · have := firstN_ge hk (by simpa using h2) h1
      refine ⟨by omega, by omega, k + 1, by omega, by omega, by omega⟩
  · rw [idxN, if_neg (by omega)]
def anyBadC : Spec [.slice 2 [.int .i64, .int .i64], .fn 37 [] []] := ⟨fun x => x.1.1 ≤ maxLen, fun ((n, el), ((_, c), _)) => .sb (anyN (fun k => badSpan (el k).1 (el k).2.1) n)⟩
def anyBadS : Sums := ⟨(41, mkSum _ anyBadI) :: SQ1.one, SQ1.two, SQ1.lo, SQ1.eqs⟩
theorem anyBadS_ok : SumsOK Try.prog anyBadS := (SQ1_ok.cons Try.func41 (by kernel_rfl) (by kernel_rfl) anyBadI_ok)
set_option maxRecDepth 100000 in
theorem anyBadC_ok : FnSpec Try.prog 36 _ anyBadC := by
  refine FnSpec.of anyBadS_ok mixed (U := 0) (I := fun _ => []) Try.func36 rfl (by kernel_rfl) rfl rfl (by decide +kernel) ?_
  rintro ⟨⟨n, el⟩, ⟨⟨⟩, c⟩, ⟨⟩⟩ hpre
  unfold FnSat
  conv => arg 2; reduce
  have hpre : anyBadC.pre ((n, el), (((), c), ())) := hpre
  simp [anyBadC, anyBadI, idxN_nonneg] at hpre ⊢
  exact ⟨fun k hk => by trivial, hpre⟩
@[irreducible] def spansOK (el : Nat → Int × Int × Unit) (n : Nat) : Bool := !(anyN (fun k => badSpan (el k).1 (el k).2.1) n)
@[simp] theorem spansOK_one (el : Nat → Int × Int × Unit) : spansOK el 1 = spanOK (el 0).1 (el 0).2.1 := by
  unfold spansOK badSpan; rw [anyN_one]; simp
@[simp] theorem spansOK_two (el : Nat → Int × Int × Unit) : spansOK el 2 = (spanOK (el 0).1 (el 0).2.1 && spanOK (el 1).1 (el 1).2.1) := by
  unfold spansOK badSpan; rw [anyN_two]; simp
theorem spansOK_iff (el : Nat → Int × Int × Unit) (n : Nat) : spansOK el n = true ↔ ∀ k, k < n → spanOK (el k).1 (el k).2.1 = true := by
  unfold spansOK badSpan; rw [Bool.not_eq_true', anyN_false]; simp
def SQ2 : Sums := ⟨(36, mkSum _ anyBadC) :: SQ1.one, SQ1.two, SQ1.lo, SQ1.eqs⟩
theorem SQ2_ok : SumsOK Try.prog SQ2 := (SQ1_ok.cons Try.func36 (by kernel_rfl) (by kernel_rfl) anyBadC_ok)
def validS : Spec [spansSh] := ⟨fun x => x.1.1 ≤ maxLen, fun ((n, el), _) => .sb (spansOK el n)⟩
set_option maxRecDepth 100000 in
theorem valid_ok : FnSpec Try.prog 29 _ validS := by
  refine FnSpec.of SQ2_ok mixed (U := 0) (I := fun _ => []) Try.func29 rfl (by kernel_rfl) rfl rfl (by decide +kernel) ?_
  rintro ⟨⟨n, el⟩, ⟨⟩⟩ (hn : n ≤ maxLen)
  unfold FnSat
  conv => arg 2; reduce
  simp [validS, anyBadC, spansOK, CanEl]
  exact ⟨fun k hk => by trivial, hn⟩
def SQ3 : Sums := ⟨(29, mkSum _ validS) :: SQ2.one, SQ2.two, SQ2.lo, SQ2.eqs⟩
theorem SQ3_ok : SumsOK Try.prog SQ3 := (SQ2_ok.cons Try.func29 (by kernel_rfl) (by kernel_rfl) valid_ok)
@[irreducible] def hasV (lo hi x : Int) : Bool := spanOK lo hi && decide (lo ≤ x) && decide (x ≤ hi)
def hasS : Spec [spanSh, .int .i64] := ⟨fun _ => True, fun ((lo, hi, _), x, _) => .sb (hasV lo hi x)⟩
set_option maxRecDepth 100000 in
theorem has_ok : FnSpec Try.prog 14 _ hasS := by
  refine FnSpec.of SQ3_ok mixed (U := 0) (I := fun _ => []) Try.func14 rfl (by kernel_rfl) rfl rfl (by decide +kernel) ?_
  rintro ⟨⟨(lo : Int), (hi : Int), ⟨⟩⟩, (x : Int), ⟨⟩⟩ -
  unfold FnSat
  conv => arg 2; reduce
  simp [hasS, validS, hasV, CanEl, CanL, CanSh, okSh, maxLen, decL, rowAt, takeL, dropL]
end Abs
end Go.Proofs.Ytaiilbgknjlmoaa

/- A call whose callee turns some of the caller's own objects: its contract over these alone, in numbers of its own. -/
namespace Go.Proofs.Ytaiilbgknjlmoaa
namespace Abs
open Go Go.RowKit

/-- other numbers for one's own objects -/
def renA (f : Nat → Nat) : AV → AV
  | .own i off => .own (f i) off
  | .row i => .row (f i)
  | .agg l => .agg (renL f l)
  | .tup l => .tup (renL f l)
  | .fn g a b => .fn g (renL f a) (renL f b)
  | a => a
where renL (f : Nat → Nat) : List AV → List AV
  | [] => []
  | a :: l => renA f a :: renL f l
/-- all of one's own objects inside are among those of p -/
def okR (p : Nat → Bool) : AV → Bool
  | .own i _ => p i
  | .row i => p i
  | .elt _ _ _ _ => false
  | .lsl _ _ _ => false
  | .gd _ _ => false
  | .agg l => okRL p l
  | .tup l => okRL p l
  | .fn _ a b => okRL p a && okRL p b
  | _ => true
where okRL (p : Nat → Bool) : List AV → Bool
  | [] => true
  | a :: l => okR p a && okRL p l
def renB (f : Nat → Nat) : Blk → Blk
  | .cells t l => .cells t (renA.renL f l)
  | b => b
def okRB (p : Nat → Bool) : Blk → Bool
  | .cells _ l => okR.okRL p l
  | _ => true
def okRH (p : Nat → Bool) : Heap → Bool
  | [] => true
  | b :: l => okRB p b && okRH p l
def posD : List Nat → Nat → Nat
  | [], _ => 0
  | j :: l, i => (match Nat.beq j i with | true => 0 | false => posD l i + 1)
def nodupB : List Nat → Bool
  | [] => true
  | j :: l => !(memN j l) && nodupB l
/-- the objects that are handed over -/
def subH (js : List Nat) (hp : Heap) : List Nat → Heap
  | [] => []
  | j :: l => renB (posD js) (getB hp j) :: subH js hp l
def okSub (js : List Nat) (hp : Heap) : List Nat → Bool
  | [] => true
  | j :: l => okRB (fun i => memN i js) (getB hp j) && okSub js hp l
/-- the callee's numbers in the caller's -/
def outN (js : List Nat) (n : Nat) (k : Nat) : Nat := match js[k]? with | some i => i | none => n + (k - js.length)
def putH (js : List Nat) (f : Nat → Nat) (h1 : Heap) : Nat → Heap → Heap
  | _, [] => []
  | i, b :: l => (match memN i js with | true => renB f (getB h1 (posD js i)) | false => b) :: putH js f h1 (i + 1) l
def newH (f : Nat → Nat) : Nat → Heap → Heap
  | _, [] => []
  | 0, b :: l => renB f b :: newH f 0 l
  | m + 1, _ :: l => newH f m l

section
variable {P : Program} {S : Sums} {C C' C1 : Cx} {w w' : World} {H hp : Heap}

theorem ren_rel {f : Nat → Nat} {p : Nat → Bool} (hρ : ∀ i q, p i = true → C.ρ i = some q → C'.ρ (f i) = some q) (hI : ∀ b, C.I b → C'.I b) {a : AV} {v : Value} (h : Rel C w a v) : okR p a = true → Rel C' w (renA f a) v := by
  refine Rel.rec (C := C) (w := w) (motive_1 := fun a v _ => okR p a = true → Rel C' w (renA f a) v) (motive_2 := fun l vs _ => okR.okRL p l = true → RelL C' w (renA.renL f l) vs)
    ?_ ?_ ?_ ?_ ?_ ?_ ?_ ?_ ?_ ?_ ?_ ?_ ?_ ?_ ?_ ?_ ?_ ?_ ?_ h
  · exact fun v _ => .top v
  · exact fun k a v ho => by simp [okR] at ho
  · exact fun k n _ => .li k n
  · exact fun k n _ => .si k n
  · exact fun b _ => .lb b
  · exact fun b _ => .sb b
  · exact fun x _ => .v x
  · exact fun l vs _ h ho => .agg _ vs (h (by simpa [okR] using ho))
  · exact fun l vs _ h ho => .tup _ vs (h (by simpa [okR] using ho))
  · exact fun i off b c n h ho => .own _ _ _ _ _ (hρ _ _ (by simpa [okR] using ho) h)
  · exact fun i sz k off b c n h hk ho => by simp [okR] at ho
  · exact fun i b c n h ho => .row _ _ _ _ (hρ _ _ (by simpa [okR] using ho) h)
  · exact fun i n sz b c m h ho => by simp [okR] at ho
  · exact fun i h ho => .rown _ (hρ _ _ (by simpa [okR] using ho) h)
  · intro n sz el A cap vs hcap hA hr hl hn _ _
    exact (Rel.slc n sz el A cap vs hcap hA hr hl hn).change hI rfl
  · intro l ad vs hr hI' hc hn _ _
    exact (Rel.xp l ad vs hr hI' hc hn).change hI rfl
  · exact fun g l m vs ws _ _ h h' ho => by
      simp [okR] at ho
      exact .fn _ _ _ vs ws (h ho.1) (h' ho.2)
  · exact fun _ => .nil
  · exact fun a l v vs _ _ h h' ho => by
      simp [okR.okRL] at ho
      exact .cons _ _ v vs (h ho.1) (h' ho.2)
theorem ren_relL {f : Nat → Nat} {p : Nat → Bool} (hρ : ∀ i q, p i = true → C.ρ i = some q → C'.ρ (f i) = some q) (hI : ∀ b, C.I b → C'.I b) : ∀ {l : List AV} {vs : List Value}, RelL C w l vs → okR.okRL p l = true → RelL C' w (renA.renL f l) vs
  | _, _, .nil, _ => .nil
  | _, _, .cons a l v vs h h', ho => by
    simp [okR.okRL] at ho
    exact .cons _ _ _ _ (ren_rel hρ hI h ho.1) (ren_relL hρ hI h' ho.2)
theorem ren_brel {f : Nat → Nat} {p : Nat → Bool} (hρ : ∀ i q, p i = true → C.ρ i = some q → C'.ρ (f i) = some q) (hI : ∀ b, C.I b → C'.I b) {b : Blk} {q : Pl} (h : BRel C w q b) (ho : okRB p b = true) : BRel C' w q (renB f b) := by
  cases b with
  | dead => cases q <;> exact h.elim
  | cells t l =>
    cases q with
    | nil => exact h.elim
    | «at» x cap n =>
      obtain ⟨vs, hr, hh⟩ := h
      exact ⟨vs, ren_relL hρ hI hr ho, hh⟩
  | row e sz m el =>
    cases q with
    | nil => exact h
    | «at» x cap n =>
      obtain ⟨h1, h2, h3, cs, vs, hh, hs, hc⟩ := h
      exact ⟨h1, h2, h3, cs, vs, hh, hs, fun k hk => ⟨(hc k hk).1.change hI (own_ok (hc k hk).2.1), (hc k hk).2⟩⟩

theorem pos_mem : ∀ {js : List Nat} {i : Nat}, memN i js = true → js[posD js i]? = some i
  | [], i, h => by simp [memN] at h
  | j :: l, i, h => by
    unfold memN at h
    unfold posD
    split at h
    · rename_i e; rw [e]; have := Nat.eq_of_beq_eq_true e; subst this; rfl
    · rename_i e; rw [e]; simpa using pos_mem h
theorem mem_get : ∀ {js : List Nat} {k i : Nat}, js[k]? = some i → memN i js = true
  | [], k, i, h => by simp at h
  | j :: l, 0, i, h => by
    simp at h; subst h
    unfold memN; rw [Nat.beq_refl]
  | j :: l, k + 1, i, h => by
    simp at h
    unfold memN
    split
    · rfl
    · exact mem_get h
theorem nodup_inj : ∀ {js : List Nat} {k k' i : Nat}, nodupB js = true → js[k]? = some i → js[k']? = some i → k = k'
  | [], k, k', i, _, h, _ => by simp at h
  | j :: l, 0, 0, i, _, _, _ => rfl
  | j :: l, 0, k' + 1, i, hn, h, h' => by
    simp at h h'; subst h
    simp [nodupB, mem_get h'] at hn
  | j :: l, k + 1, 0, i, hn, h, h' => by
    simp at h h'; subst h'
    simp [nodupB, mem_get h] at hn
  | j :: l, k + 1, k' + 1, i, hn, h, h' => by
    simp at h h'
    simp [nodupB] at hn
    rw [nodup_inj hn.2 h h']
theorem getB_sub (js : List Nat) (hp : Heap) : ∀ (l : List Nat) (k i : Nat), l[k]? = some i → getB (subH js hp l) k = renB (posD js) (getB hp i)
  | [], k, i, h => by simp at h
  | j :: l, 0, i, h => by simp at h; subst h; rfl
  | j :: l, k + 1, i, h => by simp at h; exact getB_sub js hp l k i h
theorem len_sub (js : List Nat) (hp : Heap) : ∀ l : List Nat, (subH js hp l).length = l.length
  | [] => rfl
  | _ :: l => by simp [subH, len_sub js hp l]
theorem ok_sub (js : List Nat) (hp : Heap) : ∀ (l : List Nat) (k i : Nat), okSub js hp l = true → l[k]? = some i → okRB (fun i => memN i js) (getB hp i) = true
  | [], k, i, _, h => by simp at h
  | j :: l, 0, i, ho, h => by simp at h; subst h; simp [okSub] at ho; exact ho.1
  | j :: l, k + 1, i, ho, h => by simp at h; simp [okSub] at ho; exact ok_sub js hp l k i ho.2 h
theorem len_put (js : List Nat) (f : Nat → Nat) (h1 : Heap) : ∀ (i : Nat) (l : Heap), (putH js f h1 i l).length = l.length
  | _, [] => rfl
  | i, _ :: l => by simp [putH, len_put js f h1 (i + 1) l]
theorem getB_put (js : List Nat) (f : Nat → Nat) (h1 : Heap) : ∀ (i k : Nat) (l : Heap), k < l.length → getB (putH js f h1 i l) k = (match memN (i + k) js with | true => renB f (getB h1 (posD js (i + k))) | false => getB l k)
  | i, k, [], h => by simp at h
  | i, 0, b :: l, _ => rfl
  | i, k + 1, b :: l, h => by
    have := getB_put js f h1 (i + 1) k l (by simpa using h)
    rw [show i + 1 + k = i + (k + 1) by omega] at this
    exact this
theorem getB_new (f : Nat → Nat) : ∀ (m k : Nat) (l : Heap), getB (newH f m l) k = renB f (getB l (k + m))
  | m, k, [] => by cases m <;> rfl
  | 0, 0, b :: l => rfl
  | 0, k + 1, b :: l => by have := getB_new f 0 k l; exact this
  | m + 1, k, b :: l => by have := getB_new f m k l; rw [show k + (m + 1) = (k + m) + 1 by omega]; exact this
theorem okRH_get {p : Nat → Bool} : ∀ {l : Heap} {k : Nat}, okRH p l = true → okRB p (getB l k) = true
  | [], _, _ => rfl
  | b :: l, 0, h => by simp [okRH] at h; exact h.1
  | b :: l, k + 1, h => by simp [okRH] at h; exact okRH_get (l := l) h.2

/-- THE CALL, over the objects that it is handed. -/
theorem Fn.focus {f : FuncId} {args : List AV} {js : List Nat} {res : AV} {h1 : Heap} (hnd : nodupB js = true) (hoa : okR.okRL (fun i => memN i js) args = true) (hoh : okSub js hp js = true)
    (hor : okR (fun _ => true) res = true) (ho1 : okRH (fun _ => true) h1 = true)
    (h : Fn P f (renA.renL (posD js) args) (subH js hp js) res h1) :
    Fn P f args hp (renA (outN js hp.length) res) (putH js (outN js hp.length) h1 0 hp ++ newH (outN js hp.length) js.length h1) := by
  intro C w vs hH ha
  have hpos : ∀ i q, memN i js = true → C.ρ i = some q → (⟨fun k => match js[k]? with | some i => C.ρ i | none => none, C.I⟩ : Cx).ρ (posD js i) = some q := fun i q hm hq => by
    simp only [pos_mem hm]; exact hq
  have hC0 : ∀ k q, (⟨fun k => match js[k]? with | some i => C.ρ i | none => none, C.I⟩ : Cx).ρ k = some q → ∃ i, js[k]? = some i ∧ C.ρ i = some q := fun k q hq => by
    simp only at hq
    split at hq
    · rename_i i hi; exact ⟨i, hi, hq⟩
    · cases hq
  have hH0 : HR (⟨fun k => match js[k]? with | some i => C.ρ i | none => none, C.I⟩ : Cx) (subH js hp js) w := by
    refine ⟨fun k q hq => ?_, fun k k' b c n b' c' n' hq hq' hne => ?_, fun k b c n hq => ?_, hH.ilt⟩
    · obtain ⟨i, hi, hq⟩ := hC0 k q hq
      rw [getB_sub js hp js k i hi]
      exact ren_brel hpos (fun _ h => h) (hH.live i q hq) (ok_sub js hp js k i hoh hi)
    · obtain ⟨i, hi, hq⟩ := hC0 _ _ hq
      obtain ⟨i', hi', hq'⟩ := hC0 _ _ hq'
      exact hH.inj i i' _ _ _ _ _ _ hq hq' fun e => hne (by subst e; exact nodup_inj hnd hi hi')
    · obtain ⟨i, hi, hq⟩ := hC0 _ _ hq
      exact hH.fresh _ _ _ _ hq
  refine (h _ w vs hH0 (ren_relL hpos (fun _ h => h) ha hoa)).mono ?_
  rintro e w' ⟨v, C1, he, h2, h3, h4⟩
  rw [len_sub] at h4
  have hlt : ∀ {i : Nat} {p : Pl}, C.ρ i = some p → i < hp.length := fun hi => hH.lt hi
  have hkeep : ∀ b, b < w.heap.size → (∀ i c n, memN i js = true → C.ρ i ≠ some (.at b c n)) → w'.heap[b]? = w.heap[b]? := fun b hb hn => h4.keep b hb fun k b' c n hk hq e => by
    subst e
    obtain ⟨i, hi, hq⟩ := hC0 _ _ hq
    exact hn i c n (mem_get hi) hq
  let C' : Cx := ⟨fun i => if i < hp.length then C.ρ i else C1.ρ (i - hp.length + js.length), C1.I⟩
  have hρ1 : ∀ k i, js[k]? = some i → C1.ρ k = C.ρ i := fun k i hi => by
    rw [h4.rho k (List.getElem?_eq_some_iff.1 hi).1]; simp only [hi]
  have hout : ∀ k q, (fun _ : Nat => true) k = true → C1.ρ k = some q → C'.ρ (outN js hp.length k) = some q := fun k q _ hq => by
    unfold outN
    cases hk : js[k]? with
    | some i =>
      rw [hρ1 k i hk] at hq
      show (if i < hp.length then C.ρ i else _) = _
      rw [if_pos (hlt hq)]; exact hq
    | none =>
      have := List.getElem?_eq_none_iff.1 hk
      show (if hp.length + (k - js.length) < hp.length then _ else C1.ρ (hp.length + (k - js.length) - hp.length + js.length)) = _
      rw [if_neg (by omega), show hp.length + (k - js.length) - hp.length + js.length = k by omega]; exact hq
  have hx : Cext C w C' w' := ⟨fun i p hi => by show (if i < hp.length then _ else _) = _; rw [if_pos (hlt hi)]; exact hi, fun b hb => h4.imm b hb, fun b hb => hkeep b (hH.ilt b hb) fun i c n _ hq => (hH.fresh _ _ _ _ hq).2 hb⟩
  have hold : ∀ {i : Nat} {q : Pl}, i < hp.length → C'.ρ i = some q → C.ρ i = some q := fun hi hq => by
    have hq : (if _ < hp.length then C.ρ _ else C1.ρ _) = some _ := hq
    rwa [if_pos hi] at hq
  have hnew : ∀ {i : Nat} {q : Pl}, ¬ i < hp.length → C'.ρ i = some q → C1.ρ (i - hp.length + js.length) = some q := fun hi hq => by
    have hq : (if _ < hp.length then C.ρ _ else C1.ρ _) = some _ := hq
    rwa [if_neg hi] at hq
  have hlen := len_put js (outN js hp.length) h1 0 hp
  refine ⟨v, C', he, ⟨fun i q hi => ?_, fun i j b c n b' c' n' hi hj hne => ?_, fun i b c n hi => ?_, h2.ilt⟩, ren_rel hout (fun _ h => h) h3 hor, ?_⟩
  · by_cases hin : i < hp.length
    · have hq := hold hin hi
      rw [getB_eq, List.getD_eq_getElem?_getD, List.getElem?_append_left (by omega), ← List.getD_eq_getElem?_getD, ← getB_eq, getB_put _ _ _ _ _ _ hin, Nat.zero_add]
      cases hm : memN i js with
      | true =>
        have hk := pos_mem hm
        have := h2.live (posD js i) q (by rw [hρ1 _ _ hk]; exact hq)
        exact ren_brel hout (fun _ h => h) this (okRH_get ho1)
      | false =>
        refine (hH.live i q hq).mono hx fun b c n e => ?_
        subst e
        refine hkeep b (hH.fresh _ _ _ _ hq).1 fun j c' n' hj hq' => ?_
        have : i ≠ j := fun e => by subst e; rw [hm] at hj; cases hj
        exact hH.inj _ _ _ _ _ _ _ _ hq hq' this rfl
    · have hq := hnew hin hi
      rw [getB_eq, List.getD_eq_getElem?_getD, List.getElem?_append_right (by omega), ← List.getD_eq_getElem?_getD, ← getB_eq, hlen, getB_new]
      exact ren_brel hout (fun _ h => h) (h2.live _ q hq) (okRH_get ho1)
  · by_cases hi' : i < hp.length <;> by_cases hj' : j < hp.length
    · exact hH.inj _ _ _ _ _ _ _ _ (hold hi' hi) (hold hj' hj) hne
    · have h5 := (hH.fresh _ _ _ _ (hold hi' hi)).1
      have h6 := h4.own _ _ _ _ (by omega) (hnew hj' hj)
      omega
    · have h5 := (hH.fresh _ _ _ _ (hold hj' hj)).1
      have h6 := h4.own _ _ _ _ (by omega) (hnew hi' hi)
      omega
    · exact h2.inj _ _ _ _ _ _ _ _ (hnew hi' hi) (hnew hj' hj) (by omega)
  · by_cases hi' : i < hp.length
    · have h5 := hH.fresh _ _ _ _ (hold hi' hi)
      refine ⟨Nat.lt_of_lt_of_le h5.1 h4.size, fun hI => ?_⟩
      rcases h4.imm' b hI with h6 | h6
      · exact h5.2 h6
      · omega
    · exact h2.fresh _ _ _ _ (hnew hi' hi)
  · refine ⟨h4.os, h4.tape, h4.output, h4.size, fun k hk hno => hkeep k hk fun i c n _ hq => ?_, h4.imm, h4.imm', fun i hi => ?_, fun i b c n hi hq => h4.own _ _ _ _ (by omega) (hnew (by omega) hq)⟩
    · exact hno i k c n (hlt hq) hq rfl
    · show (if i < hp.length then _ else _) = _; rw [if_pos hi]
end
end Abs
end Go.Proofs.Ytaiilbgknjlmoaa

/- Contracts of functions that turn objects of the caller's: by data. -/
namespace Go.Proofs.Ytaiilbgknjlmoaa
namespace Abs
open Go Go.RowKit

inductive OB where
  | cells (t : TypeId) (l : List Sh)
  | row (e : TypeId) (sz : Nat) (l : List Sh)
@[reducible] def DatB : OB → Type
  | .cells _ l => DatL l
  | .row _ _ l => Nat × (Nat → DatL l)
@[reducible] def DatH : List OB → Type
  | [] => Unit
  | b :: l => DatB b × DatH l
def encB : (b : OB) → DatB b → Blk
  | .cells t l, x => .cells t (encL l x)
  | .row e sz l, x => .row e sz (.sym x.1) (fun k => encL l (x.2 k))
def encH : (l : List OB) → DatH l → Heap
  | [], _ => []
  | b :: l, x => encB b x.1 :: encH l x.2
def okB : OB → Blk → Bool
  | .cells t l, b => (match b with | .cells t' m => Nat.beq t' t && okShL l m | _ => false)
  | .row e sz l, b => (match b with | .row e' sz' _ _ => Nat.beq e' e && Nat.beq sz' sz && cellShL l | _ => false)
def okHB : List OB → Heap → Bool
  | [], h => (match h with | [] => true | _ => false)
  | b :: l, h => (match h with | c :: h => okB b c && okHB l h | [] => false)
def canB : OB → Blk → List Cd
  | .cells _ l, b => (match b with | .cells _ m => canShL l m | _ => [])
  | .row _ _ l, b => (match b with | .row _ _ n el => [⟨CanEl l, (n.val, el)⟩] | _ => [])
def canHB : List OB → Heap → List Cd
  | [], _ => []
  | b :: l, h => (match h with | c :: h => appP (canB b c) (canHB l h) | [] => [])
def decB : (b : OB) → Blk → DatB b
  | .cells _ l, b => (match b with | .cells _ m => decL l m | _ => decL l [])
  | .row _ _ l, b => (match b with | .row _ _ n el => (n.val, fun k => decL l (el k)) | _ => (0, fun _ => decL l []))
def decH : (l : List OB) → Heap → DatH l
  | [], _ => ()
  | b :: l, h => (match h with | c :: h => (decB b c, decH l h) | [] => (decB b .dead, decH l []))
def decBK {β : Type 1} : (b : OB) → Blk → (DatB b → β) → β
  | .cells _ l, b, f => (match b with | .cells _ m => decKL l m f | _ => f (decL l []))
  | .row _ _ l, b, f => (match b with | .row _ _ n el => (match n with | .lit n => f (n, fun k => decL l (el k)) | .sym n => f (n, fun k => decL l (el k))) | _ => f (0, fun _ => decL l []))
def decHK {β : Type 1} : (l : List OB) → Heap → (DatH l → β) → β
  | [], _, f => f ()
  | b :: l, h, f => (match h with | c :: h => decBK b c fun x => decHK l h fun y => f (x, y) | [] => f (decB b .dead, decH l []))

structure SpecF (obs : List OB) (shs : List Sh) where
  pre : DatH obs → DatL shs → Prop
  res : DatH obs → DatL shs → AV
  after : DatH obs → DatL shs → Heap
def FnSpecF (P : Program) (f : FuncId) (obs : List OB) (shs : List Sh) (sp : SpecF obs shs) : Prop :=
  ∀ o x, sp.pre o x → Fn P f (encL shs x) (encH obs o) (sp.res o x) (sp.after o x)

-- which objects are reached
def refsA : AV → List Nat
  | .own i _ => [i]
  | .row i => [i]
  | .agg l => refsL l
  | .tup l => refsL l
  | .fn _ a b => refsL a ++ refsL b
  | _ => []
where refsL : List AV → List Nat
  | [] => []
  | a :: l => refsA a ++ refsL l
def addJ (js : List Nat) : List Nat → List Nat
  | [] => js
  | i :: l => (match memN i js with | true => addJ js l | false => addJ (js ++ [i]) l)
def refsH (hp : Heap) : List Nat → List Nat
  | [] => []
  | j :: l => (match getB hp j with | .cells _ m => refsA.refsL m | _ => []) ++ refsH hp l
def forceN {β : Type 1} : List Nat → (List Nat → β) → β
  | [], k => k []
  | a :: l, k => forceN l fun l' => k (a :: l')
def mkSumF (obs : List OB) (shs : List Sh) (sp : SpecF obs shs) : Summ2 := fun args hp =>
  forceN (addJ [] (refsA.refsL args)) fun j1 => forceN (addJ j1 (refsH hp j1)) fun js =>
  match nodupB js && okR.okRL (fun i => memN i js) args && okSub js hp js && okHB obs (subH js hp js) && okShL shs (renA.renL (posD js) args) with
  | true => decHK obs (subH js hp js) fun o => decKL shs (renA.renL (posD js) args) fun x =>
    (match okR (fun _ => true) (sp.res o x) && okRH (fun _ => true) (sp.after o x) with
    | true => some ⟨appP (canHB obs (subH js hp js)) (appP (canShL shs (renA.renL (posD js) args)) [⟨fun z : DatH obs × DatL shs => sp.pre z.1 z.2, (o, x)⟩]),
        renA (outN js hp.length) (sp.res o x), putH js (outN js hp.length) (sp.after o x) 0 hp ++ newH (outN js hp.length) js.length (sp.after o x)⟩
    | false => none)
  | false => none

section
variable {P : Program} {S : Sums} {C C' C1 : Cx} {w w' : World} {H hp : Heap}
theorem forceN_eq {β : Type 1} : ∀ (l : List Nat) (k : List Nat → β), forceN l k = k l
  | [], _ => rfl
  | a :: l, k => by unfold forceN; rw [forceN_eq l]
theorem decBK_eq {β : Type 1} {b : OB} {c : Blk} {f : DatB b → β} (h : okB b c = true) : decBK b c f = f (decB b c) := by
  cases b with
  | cells t l =>
    unfold okB at h
    cases c <;> simp only at h <;> first | (cases h; done) | skip
    simp only [Bool.and_eq_true] at h
    unfold decBK decB
    exact decKL_eq h.2
  | row e sz l =>
    cases c <;> unfold okB at h <;> simp only at h <;> first | (cases h; done) | skip
    rename_i n _
    unfold decBK decB
    cases n <;> rfl
theorem decHK_eq {β : Type 1} : ∀ {l : List OB} {h : Heap} {f : DatH l → β}, okHB l h = true → decHK l h f = f (decH l h)
  | [], _, _, _ => rfl
  | b :: l, [], f, h => by cases h
  | b :: l, c :: h, f, ho => by
    unfold okHB at ho
    simp only [Bool.and_eq_true] at ho
    unfold decHK decH
    simp only
    rw [decBK_eq ho.1, decHK_eq ho.2]
theorem enc_decB {b : OB} {c : Blk} (h : okB b c = true) (hc : ∀ p ∈ canB b c, p.ok) {q : Pl} (hr : BRel C w q c) : BRel C w q (encB b (decB b c)) := by
  cases b with
  | cells t l =>
    unfold okB at h
    cases c <;> simp only at h <;> first | (cases h; done) | skip
    simp only [Bool.and_eq_true] at h
    obtain rfl := Nat.eq_of_beq_eq_true h.1
    unfold encB decB
    cases q with
    | nil => exact hr.elim
    | «at» x cap n =>
      obtain ⟨vs, h1, h2⟩ := hr
      exact ⟨vs, encL_dec (can_shL h.2 hc) h1, h2⟩
  | row e sz l =>
    cases c <;> unfold okB at h <;> simp only at h <;> first | (cases h; done) | skip
    rename_i e' sz' n el
    simp only [Bool.and_eq_true] at h
    obtain rfl := Nat.eq_of_beq_eq_true h.1.1
    obtain rfl := Nat.eq_of_beq_eq_true h.1.2
    unfold encB decB
    have hcan : CanEl l (n.val, el) := hc ⟨CanEl l, (n.val, el)⟩ (by unfold canB; exact List.mem_singleton.2 rfl)
    cases q with
    | nil => exact hr
    | «at» x cap m =>
      obtain ⟨h1, h2, h3, cs, vs, hh, hs, hcl⟩ := hr
      exact ⟨h1, h2, h3, cs, vs, hh, hs, fun k hk => ⟨encL_dec (hcan k (by rw [h1]; exact hk)) (hcl k hk).1, enc_okL h.2, (hcl k hk).2.2⟩⟩
theorem enc_decH : ∀ {l : List OB} {h : Heap}, okHB l h = true → (∀ p ∈ canHB l h, p.ok) → ∀ (i : Nat) {q : Pl}, BRel C w q (getB h i) → BRel C w q (getB (encH l (decH l h)) i)
  | [], [], _, _, i, q, hr => by cases q <;> exact hr.elim
  | [], _ :: _, h, _, _, _, _ => by cases h
  | b :: l, [], h, _, _, _, _ => by cases h
  | b :: l, c :: h, ho, hc, i, q, hr => by
    unfold okHB at ho
    simp only [Bool.and_eq_true] at ho
    obtain ⟨h1, h2⟩ := appP_mem (l := canB b c) (m := canHB l h) fun p hp => hc p (by unfold canHB; exact hp)
    cases i with
    | zero => exact enc_decB ho.1 h1 hr
    | succ i => exact enc_decH ho.2 h2 i hr
theorem len_encH : ∀ {l : List OB} {h : Heap}, okHB l h = true → (encH l (decH l h)).length = h.length
  | [], [], _ => rfl
  | [], _ :: _, h => by cases h
  | b :: l, [], h => by cases h
  | b :: l, c :: h, ho => by
    unfold okHB at ho
    simp only [Bool.and_eq_true] at ho
    unfold encH decH
    simp [len_encH ho.2]
theorem Fn.weakenH {f : FuncId} {args : List AV} {H0 : Heap} {r : AV} {H' : Heap} (h : Fn P f args H0 r H') (hl : H0.length = H.length) (hw : ∀ (C : Cx) (w : World) (i : Nat) (q : Pl), BRel C w q (getB H i) → BRel C w q (getB H0 i)) : Fn P f args H r H' :=
  fun C w vs hH ha => (h C w vs ⟨fun i q hi => hw C w i q (hH.live i q hi), hH.inj, hH.fresh, hH.ilt⟩ ha).mono fun e w' ⟨v, C', h1, h2, h3, h4⟩ => ⟨v, C', h1, h2, h3, hl ▸ h4⟩

def Summ2OK (P : Program) (f : FuncId) (s : Summ2) : Prop := ∀ args hp pre res hp', s args hp = some ⟨pre, res, hp'⟩ → (∀ p ∈ pre, p.ok) → Fn P f args hp res hp'
theorem mkSumF_ok {f : FuncId} {obs : List OB} {shs : List Sh} {sp : SpecF obs shs} (h : FnSpecF P f obs shs sp) : Summ2OK P f (mkSumF obs shs sp) := by
  intro args hp pre res hp' hm hpre
  unfold mkSumF at hm
  rw [forceN_eq, forceN_eq] at hm
  generalize addJ (addJ [] (refsA.refsL args)) (refsH hp (addJ [] (refsA.refsL args))) = js at hm
  split at hm
  · rename_i hok
    simp only [Bool.and_eq_true] at hok
    obtain ⟨⟨⟨⟨h1, h2⟩, h3⟩, h4⟩, h5⟩ := hok
    rw [decHK_eq h4, decKL_eq h5] at hm
    split at hm
    · rename_i h6
      simp only [Bool.and_eq_true] at h6
      injection hm with hm; injection hm with e1 e2 e3
      subst e1 e2 e3
      obtain ⟨h7, h8⟩ := appP_mem hpre
      obtain ⟨h9, h10⟩ := appP_mem h8
      have := h _ _ (h10 _ (List.mem_singleton.2 rfl))
      refine Fn.focus h1 h2 h3 h6.1 h6.2 ?_
      exact (this.weakenH (len_encH h4) fun C w i q => enc_decH h4 h7 i).weaken fun C w vs ha => encL_dec (can_shL h5 h9) ha
    · cases hm
  · cases hm
theorem SumsOK.addTwo {one : List (Nat × Summ)} {two : List (Nat × Summ2)} {lo : Nat} {eqs : List (Nat × List (Option IntKind))} (hS : SumsOK P ⟨one, two, lo, eqs⟩) {f : FuncId} {fn : Func} (hf : P.funcs[f]? = some fn) (hn : (fn.name == "runtime.NumGoroutine") = false) (hb : fn.body.isNone = false)
    {s : Summ2} (h : Summ2OK P f s) : SumsOK P ⟨one, (f, s) :: two, lo, eqs⟩ := by
  refine ⟨hS.one, fun g s1 hg => ?_, hS.eqs, hS.bodyOne, fun g s1 hg => ?_⟩
  · simp only [findS] at hg
    split at hg
    · rename_i e
      injection hg with hg; subst hg
      obtain rfl := Nat.eq_of_beq_eq_true e
      exact h
    · exact hS.two g s1 hg
  · simp only [findS] at hg
    split at hg
    · rename_i e
      obtain rfl := Nat.eq_of_beq_eq_true e
      exact ⟨fn, hf, hn, hb⟩
    · exact hS.bodyTwo g s1 hg
theorem SumsOK.setLo {one : List (Nat × Summ)} {two : List (Nat × Summ2)} {lo : Nat} {eqs : List (Nat × List (Option IntKind))} (hS : SumsOK P ⟨one, two, lo, eqs⟩) (n : Nat) : SumsOK P ⟨one, two, n, eqs⟩ :=
  ⟨hS.one, hS.two, hS.eqs, hS.bodyOne, hS.bodyTwo⟩
theorem SumsOK.setEqs {one : List (Nat × Summ)} {two : List (Nat × Summ2)} {lo : Nat} {eqs eqs' : List (Nat × List (Option IntKind))} (hS : SumsOK P ⟨one, two, lo, eqs⟩) (h : ∀ t ks, findS eqs' t = some ks → EqOK P t ks) : SumsOK P ⟨one, two, lo, eqs'⟩ :=
  ⟨hS.one, hS.two, h, hS.bodyOne, hS.bodyTwo⟩
theorem encH_len : ∀ {l : List OB} {x : DatH l}, (encH l x).length = l.length
  | [], _ => rfl
  | b :: l, x => by simp [encH, encH_len]
theorem FnSpecF.of {one : List (Nat × Summ)} {two : List (Nat × Summ2)} {lo : Nat} {eqs : List (Nat × List (Option IntKind))} (hS : SumsOK P ⟨one, two, lo, eqs⟩) (hm : P.follows .mixedOrders = true) {obs : List OB} {shs : List Sh} {U : Nat} {I : DatH obs → DatL shs → Anns} {f : FuncId} {fn : Func} {c : Code} (hf : P.funcs[f]? = some fn) (hb : fn.body = some c) (hok : codeOK c = true) {sp : SpecF obs shs}
    (hany : noAny shs = true) (hn : shs.length ≤ fn.ntmps) (h : ∀ o x, sp.pre o x → FnSat P ⟨one, two, obs.length, eqs⟩ U (I o x) fn (encL shs x) (encH obs o) (sp.res o x) (sp.after o x)) : FnSpecF P f obs shs sp :=
  fun o x hx => Fn.of (hS.setLo obs.length) hm hf hb hok (by rw [encH_len]) (encL_ng hany) (by rw [encL_len]; exact hn) (h o x hx)
end
end Abs
end Go.Proofs.Ytaiilbgknjlmoaa

/- State boxes, vectors, lists that are picked out: plain data. -/
namespace Go.Proofs.Ytaiilbgknjlmoaa
namespace Abs
open Go
@[reducible] def stateSh : Sh := .agg [.int .i64, .int .i64, .int .i64, .int .i64, .int .i64]
@[reducible] def intsSh : Sh := .slice 1 [.int .i64]
@[irreducible] def insV (lo hi a b : Int) : Bool := decide (lo ≤ hi) && decide (a ≤ lo) && decide (hi ≤ b)
theorem insV_iff {lo hi a b : Int} : insV lo hi a b = true ↔ lo ≤ hi ∧ a ≤ lo ∧ hi ≤ b := by unfold insV; simp [and_assoc]
@[irreducible] def boxOK (n : Nat) (el : Nat → Int × Int × Unit) : Bool := decide (n = 5) && insV (el 0).1 (el 0).2.1 0 4294967296 && insV (el 1).1 (el 1).2.1 (-8388608) 8388608 && insV (el 2).1 (el 2).2.1 0 400000 &&
  insV (el 3).1 (el 3).2.1 0 1099511627776 && insV (el 4).1 (el 4).2.1 0 1099511627776
theorem boxOK_iff {n : Nat} {el : Nat → Int × Int × Unit} : boxOK n el = true ↔ n = 5 ∧ ((el 0).1 ≤ (el 0).2.1 ∧ 0 ≤ (el 0).1 ∧ (el 0).2.1 ≤ 4294967296) ∧ ((el 1).1 ≤ (el 1).2.1 ∧ -8388608 ≤ (el 1).1 ∧ (el 1).2.1 ≤ 8388608) ∧
    ((el 2).1 ≤ (el 2).2.1 ∧ 0 ≤ (el 2).1 ∧ (el 2).2.1 ≤ 400000) ∧ ((el 3).1 ≤ (el 3).2.1 ∧ 0 ≤ (el 3).1 ∧ (el 3).2.1 ≤ 1099511627776) ∧ ((el 4).1 ≤ (el 4).2.1 ∧ 0 ≤ (el 4).1 ∧ (el 4).2.1 ≤ 1099511627776) := by
  unfold boxOK; simp only [Bool.and_eq_true, decide_eq_true_eq, insV_iff, and_assoc]
theorem boxOK_lt {n : Nat} {el : Nat → Int × Int × Unit} (h : boxOK n el = true) : n = 5 ∧ ∀ k, k < 5 → (el k).1 ≤ (el k).2.1 ∧ -8388608 ≤ (el k).1 ∧ (el k).2.1 ≤ 1099511627776 := by
  have h := boxOK_iff.1 h
  refine ⟨h.1, fun k hk => ?_⟩
  match k, hk with
  | 0, _ => omega
  | 1, _ => omega
  | 2, _ => omega
  | 3, _ => omega
  | 4, _ => omega
def sel5 (a b c d e : Int) (k : Nat) : Int := match k with | 0 => a | 1 => b | 2 => c | 3 => d | _ => e
@[simp] theorem sel5_0 (a b c d e : Int) : sel5 a b c d e 0 = a := rfl
@[simp] theorem sel5_1 (a b c d e : Int) : sel5 a b c d e 1 = b := rfl
@[simp] theorem sel5_2 (a b c d e : Int) : sel5 a b c d e 2 = c := rfl
@[simp] theorem sel5_3 (a b c d e : Int) : sel5 a b c d e 3 = d := rfl
@[simp] theorem sel5_4 (a b c d e : Int) : sel5 a b c d e 4 = e := rfl
attribute [irreducible] sel5
theorem lt5 {p : Nat → Prop} : (∀ k, k < 5 → p k) ↔ p 0 ∧ p 1 ∧ p 2 ∧ p 3 ∧ p 4 := by
  constructor
  · intro h; exact ⟨h 0 (by omega), h 1 (by omega), h 2 (by omega), h 3 (by omega), h 4 (by omega)⟩
  · rintro ⟨h0, h1, h2, h3, h4⟩ k hk
    match k, hk with
    | 0, _ => exact h0
    | 1, _ => exact h1
    | 2, _ => exact h2
    | 3, _ => exact h3
    | 4, _ => exact h4
theorem catE_lt {n k : Nat} {f g : Nat → List AV} (h : k < n) : catE n f g k = f k := by unfold catE; rw [if_pos h]
theorem catE_ge {n k : Nat} {f g : Nat → List AV} (h : n ≤ k) : catE n f g k = g (k - n) := by unfold catE; rw [if_neg (by omega)]
/-- the numbers below k with p, and how many they are -/
def pickL (p : Nat → Bool) (k : Nat) : List Nat := (List.range k).filter p
@[irreducible] def cntF (p : Nat → Bool) (k : Nat) : Nat := (pickL p k).length
@[irreducible] def pickF (p : Nat → Bool) (k j : Nat) : Int := (((pickL p k).getD j 0 : Nat) : Int)
theorem pickL_succ (p : Nat → Bool) (k : Nat) : pickL p (k + 1) = pickL p k ++ (if p k then [k] else []) := by
  unfold pickL
  rw [List.range_succ, List.filter_append]
  cases h : p k <;> simp [h]
theorem cntF_0 (p : Nat → Bool) : cntF p 0 = 0 := by unfold cntF pickL; rfl
theorem cntF_le (p : Nat → Bool) (k : Nat) : cntF p k ≤ k := by
  unfold cntF pickL; exact Nat.le_trans (List.length_filter_le _ _) (by simp)
theorem cntF_t {p : Nat → Bool} {k : Nat} (h : p k = true) : cntF p (k + 1) = cntF p k + 1 := by unfold cntF; rw [pickL_succ, h]; simp
theorem cntF_f {p : Nat → Bool} {k : Nat} (h : p k = false) : cntF p (k + 1) = cntF p k := by unfold cntF; rw [pickL_succ, h]; simp
theorem pickF_lt {p : Nat → Bool} {k j : Nat} (h : j < cntF p k) : pickF p (k + 1) j = pickF p k j := by
  unfold cntF at h
  unfold pickF
  rw [pickL_succ, List.getD_eq_getElem?_getD, List.getElem?_append_left h, ← List.getD_eq_getElem?_getD]
theorem pickF_at {p : Nat → Bool} {k : Nat} (h : p k = true) : pickF p (k + 1) (cntF p k) = k := by
  unfold cntF pickF
  rw [pickL_succ, h, List.getD_eq_getElem?_getD, List.getElem?_append_right (Nat.le_refl _)]
  simp
theorem cntF_zero {p : Nat → Bool} {k : Nat} (h : ∀ j, j < k → p j = false) : cntF p k = 0 := by
  unfold cntF pickL
  rw [List.length_eq_zero_iff, List.filter_eq_nil_iff]
  intro a ha
  rw [h a (by simpa using ha)]; simp
/-- the last block replaced -/
def setLast : Heap → Blk → Heap
  | [], _ => []
  | [_], b => [b]
  | x :: y :: l, b => x :: setLast (y :: l) b
@[irreducible] def ofV (n : Nat) (x : Int) : Int := if n = 5 then x else 0
@[irreducible] def ofE (n : Nat) : Int := if n = 5 then 0 else 2
/-- where a state is outside of a box -/
@[irreducible] def outP (lo hi : Nat → Int) (a b c d e : Int) (k : Nat) : Bool := !(isIn (lo k) (sel5 a b c d e k) (hi k))
@[irreducible] def apN (n : Nat) (lo hi : Nat → Int) (a b c d e : Int) : Nat := if boxOK n (fun k => (lo k, hi k, ())) then cntF (outP lo hi a b c d e) 5 else 0
@[irreducible] def apE (n : Nat) (lo hi : Nat → Int) : Int := if boxOK n (fun k => (lo k, hi k, ())) then 0 else 2
@[irreducible] def pulV (n : Nat) (lo hi : Nat → Int) (x : Int) (k : Nat) : Int := if boxOK n (fun k => (lo k, hi k, ())) then intoV x (lo k) (hi k) else 0
@[irreducible] def pulF (lo hi : Nat → Int) (a b c d e : Int) (g j : Nat) : Int := if j < g then intoV (sel5 a b c d e j) (lo j) (hi j) else sel5 a b c d e j
@[irreducible] def intoF (lo hi : Nat → Int) (a b c d e : Int) (j : Nat) : Int := intoV (sel5 a b c d e j) (lo j) (hi j)
@[irreducible] def sameV (n m : Nat) (f g : Nat → Int) : Bool := decide (n = m) && allN (fun k => decide (f k = g k)) n
theorem sameV_iff {n m : Nat} {f g : Nat → Int} : sameV n m f g = true ↔ n = m ∧ ∀ k, k < n → f k = g k := by
  unfold sameV; rw [Bool.and_eq_true, decide_eq_true_eq, allN_iff]; simp
theorem sameV_self (n : Nat) (f : Nat → Int) : sameV n n f f = true := sameV_iff.2 ⟨rfl, fun _ _ => rfl⟩
@[reducible] def loF (el : Nat → Int × Int × Unit) (k : Nat) : Int := (el k).1
@[reducible] def hiF (el : Nat → Int × Int × Unit) (k : Nat) : Int := (el k).2.1
theorem pul_upd {lo hi : Nat → Int} {a b c d e : Int} {g : Nat} (h : ∀ k, k < 5 → lo k ≤ hi k) (hg : g < 5) : ∀ j, j < 5 →
    updE g [.si .i64 (min (max (pulF lo hi a b c d e g g) (lo g)) (hi g))] (fun j => [.si .i64 (pulF lo hi a b c d e g j)]) j = [.si .i64 (pulF lo hi a b c d e (g + 1) j)] := by
  intro j hj
  have := h g hg
  rw [updE_eq]
  unfold pulF
  split
  · rename_i e; subst e
    rw [if_neg (by omega), if_pos (by omega)]
    unfold intoV
    congr 2; omega
  · by_cases h1 : j < g
    · rw [if_pos h1, if_pos (by omega)]
    · rw [if_neg h1, if_neg (by omega)]
theorem pick_cat {p : Nat → Bool} {g : Nat} (h : p g = true) : ∀ j, j < cntF p g + 1 → catE (cntF p g) (fun j => [.si .i64 (pickF p g j)]) (rowAt 1 [.si .i64 (g : Int)]) j = [.si .i64 (pickF p (g + 1) j)] := by
  intro j hj
  by_cases h1 : j < cntF p g
  · rw [catE_lt h1, pickF_lt h1]
  · obtain rfl : j = cntF p g := by omega
    rw [catE_ge (Nat.le_refl _), pickF_at h, Nat.sub_self]; rfl
theorem app_cat {f : Nat → List AV} {g : Nat} {x : List AV} (h : x = f g) (hl : takeL x 1 = x) : ∀ j, j < g + 1 → catE g f (rowAt 1 x) j = f j := by
  intro j hj
  by_cases h1 : j < g
  · rw [catE_lt h1]
  · obtain rfl : j = g := by omega
    rw [catE_ge (Nat.le_refl _), Nat.sub_self, ← h]; exact hl
theorem apN_le (n : Nat) (lo hi : Nat → Int) (a b c d e : Int) : apN n lo hi a b c d e ≤ 5 := by
  unfold apN; split
  · exact cntF_le _ 5
  · omega
theorem pul_in {n : Nat} {lo hi : Nat → Int} (h : boxOK n (fun k => (lo k, hi k, ())) = true) {k : Nat} (hk : k < 5) (x : Int) : lo k ≤ pulV n lo hi x k ∧ pulV n lo hi x k ≤ hi k := by
  have := ((boxOK_lt h).2 k hk).1
  simp only at this
  unfold pulV intoV
  rw [h]; simp; omega
theorem pul_fix {n : Nat} {lo hi : Nat → Int} {k : Nat} {x : Int} (hx : lo k ≤ x ∧ x ≤ hi k) (h : boxOK n (fun k => (lo k, hi k, ())) = true) : pulV n lo hi x k = x := by
  unfold pulV intoV
  rw [h]; simp; omega
theorem ap_pul {n : Nat} {lo hi : Nat → Int} (h : boxOK n (fun k => (lo k, hi k, ())) = true) (a b c d e : Int) : apN n lo hi (pulV n lo hi a 0) (pulV n lo hi b 1) (pulV n lo hi c 2) (pulV n lo hi d 3) (pulV n lo hi e 4) = 0 := by
  unfold apN
  rw [if_pos h]
  refine cntF_zero (lt5.2 ?_)
  have h0 := pul_in h (k := 0) (by omega) a
  have h1 := pul_in h (k := 1) (by omega) b
  have h2 := pul_in h (k := 2) (by omega) c
  have h3 := pul_in h (k := 3) (by omega) d
  have h4 := pul_in h (k := 4) (by omega) e
  unfold outP
  simp [h0, h1, h2, h3, h4]
end Abs
end Go.Proofs.Ytaiilbgknjlmoaa

/- State boxes and vectors: what the functions answer. -/
namespace Go.Proofs.Ytaiilbgknjlmoaa
namespace Abs
open Go Go.RowKit
def boxS : Spec [spansSh] := ⟨fun _ => True, fun ((n, el), _) => .sb (boxOK n el)⟩
set_option maxRecDepth 100000 in
theorem stateBox_ok : FnSpec Try.prog 30 _ boxS := by
  refine FnSpec.of SQ3_ok mixed (U := 7) (I := fun _ => []) Try.func30 rfl (by kernel_rfl) rfl rfl (by decide +kernel) ?_
  rintro ⟨⟨n, el⟩, ⟨⟩⟩ -
  obtain ⟨lo, hi, rfl⟩ : ∃ lo hi : Nat → Int, el = fun k => (lo k, hi k, ()) := ⟨fun k => (el k).1, fun k => (el k).2.1, rfl⟩
  unfold FnSat
  conv => arg 2; reduce
  simp [boxS]
  refine ⟨fun h => ?_, fun h => ?_⟩
  · cases hb : boxOK n (fun k => (lo k, hi k, ())) with
    | false => rfl
    | true => have := (boxOK_iff.1 hb).1; omega
  obtain rfl : n = 5 := by omega
  have hb := boxOK_iff (n := 5) (el := fun k => (lo k, hi k, ()))
  simp only at hb
  cases hc : boxOK 5 (fun k => (lo k, hi k, ())) with
  | true =>
    have := hb.1 hc
    simp
    omega
  | false =>
    rw [hc] at hb
    simp at hb ⊢
    exact hb
def partsF : SpecF [.cells 45 [.int .i64, .int .i64, .int .i64, .int .i64, .int .i64]] [.own 0 0] :=
  ⟨fun _ _ => True, fun _ _ => .agg [.own 0 0, .own 0 1, .own 0 2, .own 0 3, .own 0 4], fun ((a, b, c, d, e, _), _) _ => [.cells 45 [.si .i64 a, .si .i64 b, .si .i64 c, .si .i64 d, .si .i64 e]]⟩
set_option maxRecDepth 100000 in
theorem parts_ok : FnSpecF Try.prog 39 _ _ partsF := by
  refine FnSpecF.of SQ3_ok mixed (U := 0) (I := fun _ _ => []) Try.func39 rfl (by kernel_rfl) rfl (by decide +kernel) ?_
  rintro ⟨⟨(a : Int), (b : Int), (c : Int), (d : Int), (e : Int), ⟨⟩⟩, ⟨⟩⟩ ⟨⟨⟩, ⟨⟩⟩ -
  unfold FnSat
  conv => arg 2; reduce
  simp [partsF, aliveB, getB, encH, encB]
def SP0 : Sums := ⟨SQ3.one, [(39, mkSumF _ _ partsF)], 0, SQ3.eqs⟩
theorem SP0_ok : SumsOK Try.prog SP0 := SQ3_ok.addTwo Try.func39 (by kernel_rfl) (by kernel_rfl) (mkSumF_ok parts_ok)

theorem hasV_box {n : Nat} {lo hi : Nat → Int} (h : boxOK n (fun k => (lo k, hi k, ())) = true) {k : Nat} (hk : k < 5) (x : Int) : hasV (lo k) (hi k) x = isIn (lo k) x (hi k) := by
  have := (boxOK_lt h).2 k hk
  simp only at this
  unfold hasV spanOK
  rw [Bool.eq_iff_iff]
  simp [isQ]
  omega
def vecN : SpecN [stateSh] := ⟨fun _ => True, fun _ => .row 1, fun ((a, b, c, d, e, _), _) => [.dead, .row 2 1 (.lit 5) (fun k => [.si .i64 (sel5 a b c d e k)])]⟩
set_option maxRecDepth 100000 in
theorem vector_ok : FnSpecN Try.prog 31 _ vecN := by
  refine FnSpecN.of SP0_ok mixed (U := 6) (I := fun _ => []) Try.func31 rfl (by kernel_rfl) rfl rfl (by decide +kernel) ?_
  rintro ⟨⟨(a : Int), (b : Int), (c : Int), (d : Int), (e : Int), ⟨⟩⟩, ⟨⟩⟩ -
  unfold FnSat
  conv => arg 2; reduce
  simp [vecN, partsF, maxRow, aliveB, getB, ElEq, lt5, catE_lt, catE_ge, rowAt, takeL, dropL]
set_option maxRecDepth 100000 in
theorem rvector_ok : FnSpecN Try.prog 33 _ vecN := by
  refine FnSpecN.of SP0_ok mixed (U := 0) (I := fun _ => []) Try.func33 rfl (by kernel_rfl) rfl rfl (by decide +kernel) ?_
  rintro ⟨⟨(a : Int), (b : Int), (c : Int), (d : Int), (e : Int), ⟨⟩⟩, ⟨⟩⟩ -
  unfold FnSat
  conv => arg 2; reduce
  simp [vecN, partsF, maxRow, aliveB, getB, ElEq, lt5, catE_lt, catE_ge, rowAt, takeL, dropL]
def SV : Sums := ⟨(14, mkSum _ hasS) :: (30, mkSum _ boxS) :: (33, mkSumN _ vecN) :: (31, mkSumN _ vecN) :: SP0.one, SP0.two, SP0.lo, SP0.eqs⟩
theorem SV_ok : SumsOK Try.prog SV := ((((SP0_ok.add Try.func31 (by kernel_rfl) (by kernel_rfl) (mkSumN_ok vector_ok)).add Try.func33 (by kernel_rfl) (by kernel_rfl) (mkSumN_ok rvector_ok)).cons Try.func30 (by kernel_rfl) (by kernel_rfl) stateBox_ok).cons Try.func14 (by kernel_rfl) (by kernel_rfl) has_ok)
def ofS : Spec [intsSh] := ⟨fun _ => True, fun ((n, el), _) => .tup [.agg [.si .i64 (ofV n (el 0).1), .si .i64 (ofV n (el 1).1), .si .i64 (ofV n (el 2).1), .si .i64 (ofV n (el 3).1), .si .i64 (ofV n (el 4).1)], .si .i64 (ofE n)]⟩
set_option maxRecDepth 100000 in
theorem of_ok : FnSpec Try.prog 34 _ ofS := by
  refine FnSpec.of SV_ok mixed (U := 6) (I := fun _ => []) Try.func34 rfl (by kernel_rfl) rfl rfl (by decide +kernel) ?_
  rintro ⟨⟨n, el⟩, ⟨⟩⟩ -
  obtain ⟨v, rfl⟩ : ∃ v : Nat → Int, el = fun k => (v k, ()) := ⟨fun k => (el k).1, rfl⟩
  unfold FnSat
  conv => arg 2; reduce
  simp [ofS, partsF]
  refine ⟨fun h => ?_, fun h => ?_⟩
  · have h' : ¬ n = 5 := by omega
    simp [ofV, ofE, h']
  · obtain rfl : n = 5 := by omega
    simp [ofV, ofE]
set_option maxRecDepth 100000 in
theorem rof_ok : FnSpec Try.prog 35 _ ofS := by
  refine FnSpec.of SV_ok mixed (U := 0) (I := fun _ => []) Try.func35 rfl (by kernel_rfl) rfl rfl (by decide +kernel) ?_
  rintro ⟨⟨n, el⟩, ⟨⟩⟩ -
  obtain ⟨v, rfl⟩ : ∃ v : Nat → Int, el = fun k => (v k, ()) := ⟨fun k => (el k).1, rfl⟩
  unfold FnSat
  conv => arg 2; reduce
  simp [ofS]
  refine ⟨fun h => ?_, fun h => ?_⟩
  · have h' : ¬ n = 5 := by omega
    simp [ofV, ofE, h']
  · obtain rfl : n = 5 := by omega
    simp [ofV, ofE]
def insS : Spec [spanSh, .int .i64, .int .i64] := ⟨fun _ => True, fun ((lo, hi, _), a, b, _) => .sb (insV lo hi a b)⟩
set_option maxRecDepth 100000 in
theorem rins_ok : FnSpec Try.prog 40 _ insS := by
  refine FnSpec.of SV_ok mixed (U := 0) (I := fun _ => []) Try.func40 rfl (by kernel_rfl) rfl rfl (by decide +kernel) ?_
  rintro ⟨⟨(lo : Int), (hi : Int), ⟨⟩⟩, (a : Int), (b : Int), ⟨⟩⟩ -
  unfold FnSat
  conv => arg 2; reduce
  simp [insS, insV]
def SV1 : Sums := ⟨(40, mkSum _ insS) :: (35, mkSum _ ofS) :: (34, mkSum _ ofS) :: SV.one, SV.two, SV.lo, SV.eqs⟩
theorem SV1_ok : SumsOK Try.prog SV1 := (((SV_ok.cons Try.func34 (by kernel_rfl) (by kernel_rfl) of_ok).cons Try.func35 (by kernel_rfl) (by kernel_rfl) rof_ok).cons Try.func40 (by kernel_rfl) (by kernel_rfl) rins_ok)
def rboxS : Spec [spansSh] := ⟨fun _ => True, fun ((n, el), _) => .si .i64 (errB (boxOK n el))⟩
set_option maxRecDepth 100000 in
theorem rbox_ok : FnSpec Try.prog 32 _ rboxS := by
  refine FnSpec.of SV1_ok mixed (U := 0) (I := fun _ => []) Try.func32 rfl (by kernel_rfl) rfl rfl (by decide +kernel) ?_
  rintro ⟨⟨n, el⟩, ⟨⟩⟩ -
  obtain ⟨lo, hi, rfl⟩ : ∃ lo hi : Nat → Int, el = fun k => (lo k, hi k, ()) := ⟨fun k => (el k).1, fun k => (el k).2.1, rfl⟩
  unfold FnSat
  conv => arg 2; reduce
  simp [rboxS, insS]
  by_cases hn : n = 5
  · subst hn
    simp only [boxOK]
    cases insV (lo 0) (hi 0) 0 4294967296 <;> cases insV (lo 1) (hi 1) (-8388608) 8388608 <;> cases insV (lo 2) (hi 2) 0 400000 <;> cases insV (lo 3) (hi 3) 0 1099511627776 <;> cases insV (lo 4) (hi 4) 0 1099511627776 <;> simp [errB]
  · have h' : ¬ (n : Int) = 5 := by omega
    simp [h', boxOK, hn, errB]
def SV2 : Sums := ⟨(32, mkSum _ rboxS) :: SV1.one, SV1.two, SV1.lo, SV1.eqs⟩
theorem SV2_ok : SumsOK Try.prog SV2 := (SV1_ok.cons Try.func32 (by kernel_rfl) (by kernel_rfl) rbox_ok)
def apartS : Spec [spansSh, stateSh] := ⟨fun _ => True, fun ((n, el), (a, b, c, d, e, _), _) =>
  .tup [.slc (.sym (apN n (loF el) (hiF el) a b c d e)) 1 (fun j => [.si .i64 (pickF (outP (loF el) (hiF el) a b c d e) 5 j)]), .si .i64 (apE n (loF el) (hiF el))]⟩
noncomputable def apI : DatL [spansSh, stateSh] → Anns := fun ((_, el), ((a : Int), (b : Int), (c : Int), (d : Int), (e : Int), _), _) =>
  [(5, [(6, 3, 1)], fun fr hp => ⟨Nat, fun g => ⟨frI [.k 7, .t 2, .k 6, .s (.si .i64 (icast g)), .t 16] fr,
    setLast hp (.row 3 1 (.sym (cntF (outP (loF el) (hiF el) a b c d e) g)) (fun j => [.si .i64 (pickF (outP (loF el) (hiF el) a b c d e) g j)]))⟩, Nat, fun g => g, fun g => g ≤ 5, fun g => nsub 5 g⟩)]
set_option maxRecDepth 100000 in
theorem apart_ok : FnSpec Try.prog 15 _ apartS := by
  refine FnSpec.of SV2_ok mixed (U := 0) (I := apI) Try.func15 rfl (by kernel_rfl) rfl rfl (by decide +kernel) ?_
  rintro ⟨⟨n, el⟩, ⟨(a : Int), (b : Int), (c : Int), (d : Int), (e : Int), ⟨⟩⟩, ⟨⟩⟩ -
  obtain ⟨lo, hi, rfl⟩ : ∃ lo hi : Nat → Int, el = fun k => (lo k, hi k, ()) := ⟨fun k => (el k).1, fun k => (el k).2.1, rfl⟩
  unfold FnSat
  conv => arg 2; reduce
  simp [apartS, boxS, vecN, hasS, maxRow, ElEq, aliveB, goneB, getB, and_assoc, CanL, okSh, CanSh]
  simp only [show (loF fun k => (lo k, hi k, ())) = lo from rfl, show (hiF fun k => (lo k, hi k, ())) = hi from rfl]
  generalize hP : outP lo hi a b c d e = Pq
  refine ⟨fun h => ?_, fun h => ⟨⟨0, rfl, (cntF_0 _).symm, fun j => by rw [cntF_0]; omega, by omega⟩, fun g hg => ⟨fun h1 => ?_, fun h1 => ?_⟩⟩⟩
  · have h : boxOK n (fun k => (lo k, hi k, ())) = false := h
    simp [apN, apE, h, hP]
  · have hb := hasV_box h (k := g) (by omega) (sel5 a b c d e g)
    have hn := (boxOK_lt h).1
    refine ⟨h1, by omega, fun h2 => ?_, fun h2 => ?_⟩
    · have hp : Pq g = true := by rw [← hP]; unfold outP; rw [← hb, h2]; rfl
      have := cntF_le Pq g
      refine ⟨by omega, by omega, by omega, g + 1, by omega, (cntF_t hp).symm, fun j hj => ?_, by omega, by omega⟩
      exact pick_cat hp j (by rw [cntF_t hp] at hj; exact hj)
    · have hp : Pq g = false := by rw [← hP]; unfold outP; rw [← hb, h2]; rfl
      exact ⟨by omega, by omega, g + 1, by omega, (cntF_f hp).symm, fun j hj => (pickF_lt (by rw [cntF_f hp] at hj; exact hj)).symm, by omega, by omega⟩
  · obtain rfl : g = 5 := by omega
    have h : boxOK n (fun k => (lo k, hi k, ())) = true := h
    simp [apN, apE, h, hP]
def pullS : Spec [spansSh, stateSh] := ⟨fun _ => True, fun ((n, el), (a, b, c, d, e, _), _) =>
  .tup [.agg [.si .i64 (pulV n (loF el) (hiF el) a 0), .si .i64 (pulV n (loF el) (hiF el) b 1), .si .i64 (pulV n (loF el) (hiF el) c 2), .si .i64 (pulV n (loF el) (hiF el) d 3), .si .i64 (pulV n (loF el) (hiF el) e 4)], .si .i64 (apE n (loF el) (hiF el))]⟩
noncomputable def pullI : DatL [spansSh, stateSh] → Anns := fun ((_, el), ((a : Int), (b : Int), (c : Int), (d : Int), (e : Int), _), _) =>
  [(5, [], fun fr hp => ⟨Nat, fun g => ⟨frI [.k 7, .t 1, .k 8, .s (.si .i64 (icast g)), .t 22] fr,
    setB hp 3 (.row 2 1 (.lit 5) (fun j => [.si .i64 (pulF (loF el) (hiF el) a b c d e g j)]))⟩, Nat, fun g => g, fun g => g ≤ 5, fun g => nsub 5 g⟩)]
set_option maxRecDepth 100000 in
theorem pull_ok : FnSpec Try.prog 17 _ pullS := by
  refine FnSpec.of SV2_ok mixed (U := 0) (I := pullI) Try.func17 rfl (by kernel_rfl) rfl rfl (by decide +kernel) ?_
  rintro ⟨⟨n, el⟩, ⟨(a : Int), (b : Int), (c : Int), (d : Int), (e : Int), ⟨⟩⟩, ⟨⟩⟩ -
  obtain ⟨lo, hi, rfl⟩ : ∃ lo hi : Nat → Int, el = fun k => (lo k, hi k, ()) := ⟨fun k => (el k).1, fun k => (el k).2.1, rfl⟩
  unfold FnSat
  conv => arg 2; reduce
  simp [pullS, boxS, vecN, ofS, maxRow, ElEq, aliveB, goneB, getB, and_assoc, CanL, okSh, CanSh]
  simp only [show (loF fun k => (lo k, hi k, ())) = lo from rfl, show (hiF fun k => (lo k, hi k, ())) = hi from rfl]
  refine ⟨fun h => ?_, fun h => ⟨⟨0, rfl, fun j hj => by simp [pulF], by omega⟩, fun g hg => ⟨fun h1 => ?_, fun h1 => ?_⟩⟩⟩
  · have h : boxOK n (fun k => (lo k, hi k, ())) = false := h
    simp [pulV, apE, h]
  · have hb := boxOK_lt h
    exact ⟨h1, by omega, h1, by omega, by omega, g + 1, by omega, pul_upd (fun k hk => (hb.2 k hk).1) (by omega), by omega, by omega⟩
  · obtain rfl : g = 5 := by omega
    have h : boxOK n (fun k => (lo k, hi k, ())) = true := h
    simp [ofV, ofE, pulF, pulV, apE, h]
def SV3 : Sums := ⟨(17, mkSum _ pullS) :: (15, mkSum _ apartS) :: SV2.one, SV2.two, SV2.lo, SV2.eqs⟩
theorem SV3_ok : SumsOK Try.prog SV3 := ((SV2_ok.cons Try.func15 (by kernel_rfl) (by kernel_rfl) apart_ok).cons Try.func17 (by kernel_rfl) (by kernel_rfl) pull_ok)
set_option maxRecDepth 100000 in
theorem bin_ok : FnSpec Try.prog 23 _ within := by
  refine FnSpec.of SV3_ok mixed (U := 0) (I := fun _ => []) Try.func23 rfl (by kernel_rfl) rfl rfl (by decide +kernel) ?_
  rintro ⟨(x : Int), (lo : Int), (hi : Int), ⟨⟩⟩ -
  unfold FnSat
  conv => arg 2; reduce
  simp [within]
set_option maxRecDepth 100000 in
theorem binto_ok : FnSpec Try.prog 24 _ into := by
  refine FnSpec.of SV3_ok mixed (U := 0) (I := fun _ => []) Try.func24 rfl (by kernel_rfl) rfl rfl (by decide +kernel) ?_
  rintro ⟨(x : Int), (lo : Int), (hi : Int), ⟨⟩⟩ -
  unfold FnSat
  conv => arg 2; reduce
  simp [into, intoV]
def SV4 : Sums := ⟨(24, mkSum _ into) :: (23, mkSum _ within) :: SV3.one, SV3.two, SV3.lo, SV3.eqs⟩
theorem SV4_ok : SumsOK Try.prog SV4 := ((SV3_ok.cons Try.func23 (by kernel_rfl) (by kernel_rfl) bin_ok).cons Try.func24 (by kernel_rfl) (by kernel_rfl) binto_ok)
noncomputable def rapI : DatL [spansSh, stateSh] → Anns := fun ((_, el), ((a : Int), (b : Int), (c : Int), (d : Int), (e : Int), _), _) =>
  [(6, [(7, 3, 1)], fun fr hp => ⟨Nat, fun g => ⟨frI [.k 8, .s (.si .i64 (icast g)), .k 5, .t 26] fr,
    setLast hp (.row 3 1 (.sym (cntF (outP (loF el) (hiF el) a b c d e) g)) (fun j => [.si .i64 (pickF (outP (loF el) (hiF el) a b c d e) g j)]))⟩, Nat, fun g => g, fun g => g ≤ 5, fun g => nsub 5 g⟩)]
set_option maxRecDepth 100000 in
theorem rapart_ok : FnSpec Try.prog 16 _ apartS := by
  refine FnSpec.of SV4_ok mixed (U := 0) (I := rapI) Try.func16 rfl (by kernel_rfl) rfl rfl (by decide +kernel) ?_
  rintro ⟨⟨n, el⟩, ⟨(a : Int), (b : Int), (c : Int), (d : Int), (e : Int), ⟨⟩⟩, ⟨⟩⟩ -
  obtain ⟨lo, hi, rfl⟩ : ∃ lo hi : Nat → Int, el = fun k => (lo k, hi k, ()) := ⟨fun k => (el k).1, fun k => (el k).2.1, rfl⟩
  unfold FnSat
  conv => arg 2; reduce
  simp [apartS, rboxS, vecN, within, errB, maxRow, ElEq, aliveB, goneB, getB, and_assoc, CanL, okSh, CanSh]
  simp only [show (loF fun k => (lo k, hi k, ())) = lo from rfl, show (hiF fun k => (lo k, hi k, ())) = hi from rfl]
  generalize hP : outP lo hi a b c d e = Pq
  refine ⟨fun h => ?_, fun h => ⟨⟨0, rfl, (cntF_0 _).symm, fun j => by rw [cntF_0]; omega, by omega⟩, fun g hg => ⟨fun h1 => ?_, fun h1 => ?_⟩⟩⟩
  · have h : boxOK n (fun k => (lo k, hi k, ())) = false := h
    simp [apN, apE, h]
  · have hn := (boxOK_lt h).1
    refine ⟨by omega, by omega, fun h2 => ?_, fun h2 h3 => ?_⟩
    · have hp : Pq g = true := by rw [← hP]; unfold outP; simp; omega
      have := cntF_le Pq g
      refine ⟨by omega, by omega, by omega, g + 1, by omega, (cntF_t hp).symm, fun j hj => ?_, by omega, by omega⟩
      exact pick_cat hp j (by rw [cntF_t hp] at hj; exact hj)
    · have hp : Pq g = false := by rw [← hP]; unfold outP; simp; omega
      exact ⟨by omega, by omega, g + 1, by omega, (cntF_f hp).symm, fun j hj => (pickF_lt (by rw [cntF_f hp] at hj; exact hj)).symm, by omega, by omega⟩
  · have hn := (boxOK_lt h).1
    obtain rfl : g = 5 := by omega
    have h : boxOK n (fun k => (lo k, hi k, ())) = true := h
    simp [apN, apE, h, hP]
noncomputable def rpulI : DatL [spansSh, stateSh] → Anns := fun ((_, el), ((a : Int), (b : Int), (c : Int), (d : Int), (e : Int), _), _) =>
  [(6, [(7, 2, 1)], fun fr hp => ⟨Nat, fun g => ⟨frI [.k 8, .s (.si .i64 (icast g)), .k 6, .t 24] fr,
    setLast hp (.row 2 1 (.sym g) (fun j => [.si .i64 (intoF (loF el) (hiF el) a b c d e j)]))⟩, Nat, fun g => g, fun g => g ≤ 5, fun g => nsub 5 g⟩)]
set_option maxRecDepth 100000 in
theorem rpull_ok : FnSpec Try.prog 18 _ pullS := by
  refine FnSpec.of SV4_ok mixed (U := 0) (I := rpulI) Try.func18 rfl (by kernel_rfl) rfl rfl (by decide +kernel) ?_
  rintro ⟨⟨n, el⟩, ⟨(a : Int), (b : Int), (c : Int), (d : Int), (e : Int), ⟨⟩⟩, ⟨⟩⟩ -
  obtain ⟨lo, hi, rfl⟩ : ∃ lo hi : Nat → Int, el = fun k => (lo k, hi k, ()) := ⟨fun k => (el k).1, fun k => (el k).2.1, rfl⟩
  unfold FnSat
  conv => arg 2; reduce
  simp [pullS, rboxS, vecN, ofS, into, errB, maxRow, ElEq, aliveB, goneB, getB, and_assoc, CanL, okSh, CanSh]
  simp only [show (loF fun k => (lo k, hi k, ())) = lo from rfl, show (hiF fun k => (lo k, hi k, ())) = hi from rfl]
  generalize hF : intoF lo hi a b c d e = F
  refine ⟨fun h => ?_, fun h => ⟨⟨0, rfl, rfl, fun j => by omega, by omega⟩, fun g hg => ⟨fun h1 => ?_, fun h1 => ?_⟩⟩⟩
  · have h : boxOK n (fun k => (lo k, hi k, ())) = false := h
    simp [pulV, apE, h]
  · have hb := boxOK_lt h
    refine ⟨by omega, by omega, by omega, by omega, by omega, g + 1, by omega, rfl, fun j hj => ?_, by omega, by omega⟩
    exact app_cat (f := fun j => [.si .i64 (F j)]) (by rw [← hF]; simp [intoF]) rfl j hj
  · have hn := (boxOK_lt h).1
    obtain rfl : g = 5 := by omega
    have h : boxOK n (fun k => (lo k, hi k, ())) = true := h
    rw [← hF]
    simp [ofV, ofE, intoF, pulV, apE, h]
def SV5 : Sums := ⟨(18, mkSum _ pullS) :: (16, mkSum _ apartS) :: SV4.one, SV4.two, SV4.lo, SV4.eqs⟩
theorem SV5_ok : SumsOK Try.prog SV5 := ((SV4_ok.cons Try.func16 (by kernel_rfl) (by kernel_rfl) rapart_ok).cons Try.func18 (by kernel_rfl) (by kernel_rfl) rpull_ok)
def intsS : Spec [intsSh, intsSh] := ⟨fun (x, y, _) => x.1 ≤ maxLen, fun ((n, f), (m, g), _) => .sb (sameV n m (fun k => (f k).1) (fun k => (g k).1))⟩
noncomputable def intsI : DatL [intsSh, intsSh] → Anns := fun ((n, f), (m, g), _) =>
  [(4, [], fun fr hp => ⟨Nat, fun k => ⟨frI [.k 5, .s (.si .i64 (icast k)), .k 5, .t 15] fr, hp⟩, Nat, fun k => k, fun k => k ≤ n ∧ ∀ j, j < k → (f j).1 = (g j).1, fun k => nsub n k⟩)]
set_option maxRecDepth 100000 in
theorem ints_ok : FnSpec Try.prog 19 _ intsS := by
  refine FnSpec.of SV5_ok mixed (U := 0) (I := intsI) Try.func19 rfl (by kernel_rfl) rfl rfl (by decide +kernel) ?_
  rintro ⟨⟨n, f⟩, ⟨m, g⟩, ⟨⟩⟩ (hn : n ≤ maxLen)
  obtain ⟨v, rfl⟩ : ∃ v : Nat → Int, f = fun k => (v k, ()) := ⟨fun k => (f k).1, rfl⟩
  obtain ⟨u, rfl⟩ : ∃ u : Nat → Int, g = fun k => (u k, ()) := ⟨fun k => (g k).1, rfl⟩
  unfold FnSat
  conv => arg 2; reduce
  unfold maxLen at hn
  simp [intsS, and_assoc]
  refine ⟨fun h => ?_, fun h => ⟨⟨0, rfl, by omega, fun j hj => by omega⟩, fun k hk hall => ⟨fun h1 => ⟨h1, by omega, fun h2 => ?_, fun h2 => ⟨by omega, by omega, k + 1, by omega, by omega, fun j hj => ?_, by omega⟩⟩, fun h1 => ?_⟩⟩⟩
  · cases hs : sameV n m v u with
    | false => rfl
    | true => have := (sameV_iff.1 hs).1; omega
  · cases hs : sameV n m v u with
    | false => rfl
    | true => exact absurd ((sameV_iff.1 hs).2 k h1) h2
  · by_cases hj' : j < k
    · exact hall j hj'
    · obtain rfl : j = k := by omega
      exact h2
  · exact sameV_iff.2 ⟨by omega, fun j hj => hall j (by omega)⟩
def SV6 : Sums := ⟨(19, mkSum _ intsS) :: SV5.one, SV5.two, SV5.lo, SV5.eqs⟩
theorem SV6_ok : SumsOK Try.prog SV6 := (SV5_ok.cons Try.func19 (by kernel_rfl) (by kernel_rfl) ints_ok)
def stateKs : List (Option IntKind) := [some .i64, some .i64, some .i64, some .i64, some .i64]
def eqs1 : List (Nat × List (Option IntKind)) := [(45, stateKs), (28, spanKs)]
theorem eqs1_ok : ∀ t ks, findS eqs1 t = some ks → EqOK Try.prog t ks := by
  intro t ks h
  unfold eqs1 at h
  simp only [findS] at h
  split at h
  · rename_i e
    obtain rfl := Nat.eq_of_beq_eq_true e
    injection h with h; subst h
    exact EqOK.of 3 (by decide) (by kernel_rfl) (by kernel_rfl) (by kernel_rfl)
  · split at h
    · rename_i e
      obtain rfl := Nat.eq_of_beq_eq_true e
      injection h with h; subst h
      exact EqOK.of 3 (by decide) (by kernel_rfl) (by kernel_rfl) (by kernel_rfl)
    · cases h
end Abs
end Go.Proofs.Ytaiilbgknjlmoaa

/- The statements' small example of layer 3. -/
namespace Go.Proofs.Ytaiilbgknjlmoaa
namespace Abs
open Go Go.RowKit
def plainS : Spec [] := ⟨fun _ => True, fun _ => .agg [.li .i64 3, .li .i64 10, .li .i64 0, .li .i64 100]⟩
set_option maxRecDepth 100000 in
theorem plainS_ok : FnSpec Try.prog 28 _ plainS := by
  refine FnSpec.of SP_ok mixed (U := 0) (I := fun _ => []) Try.func28 rfl (by kernel_rfl) rfl rfl (by decide +kernel) ?_
  rintro ⟨⟩ -
  unfold FnSat
  conv => arg 2; reduce
  simp [plainS]
def SW0 : Sums := ⟨(28, mkSum _ plainS) :: SP.one, SP.two, SP.lo, SP.eqs⟩
theorem SW0_ok : SumsOK Try.prog SW0 := (SP_ok.cons Try.func28 (by kernel_rfl) (by kernel_rfl) plainS_ok)
def trueS : Spec [] := ⟨fun _ => True, fun _ => .sb true⟩
theorem works_num : showV 3 10 0 100 42 3 = 50 ∧ showE 3 10 0 100 42 3 = 0 ∧ behLo 3 10 0 100 40 = 32 ∧ behHi 3 10 0 100 40 = 47 ∧ behE 3 10 0 100 40 = 0 := by
  simp [showV, showE, behLo, behHi, behE, sensOK, isQ, intoV, stepV, readOK]; decide
set_option maxRecDepth 100000 in
theorem works_ok : FnSpec Try.prog 12 _ trueS := by
  refine FnSpec.of SW0_ok mixed (U := 0) (I := fun _ => []) Try.func12 rfl (by kernel_rfl) rfl rfl (by decide +kernel) ?_
  rintro ⟨⟩ -
  unfold FnSat
  conv => arg 2; reduce
  obtain ⟨h1, h2, h3, h4, h5⟩ := works_num
  simp [plainS, show_, behind, trueS, h1, h2, h3, h4, h5]
end Abs
end Go.Proofs.Ytaiilbgknjlmoaa
