/- A part of the proof: no statement of its own. -/
import Derived.Test.YtlacopdaibhkkaaGreatQG9c809c42
import Derived.Test.YtlacopdaibhkkaaGreatProg
import Derived.Laws.Bits128
set_option linter.unusedSimpArgs false
set_option linter.unusedVariables false
namespace Go.Proofs.YtlacopdaibhkkaaGreat
namespace Abs
open Go
@[irreducible] def isIn (lo x hi : Int) : Bool:=decide (lo <= x) && decide (x <= hi)
@[simp] theorem isIn_eq (lo x hi : Int) : isIn lo x hi = (decide (lo <= x) && decide (x <= hi)):=by unfold isIn; rfl
@[irreducible] def fdiv (n d : Int) : Int:=n / d
@[simp] theorem fdiv_eq (n d : Int) : fdiv n d = n / d:=by unfold fdiv; rfl
theorem fdiv_a (n d : Int) (h0 : 0 < d) (h : n.tmod d < 0) : n.tdiv d - 1 = n / d:=by
 have h1:=Int.tmod_add_tdiv_mul n d
 have h2:=Int.lt_tmod_of_pos n h0
 have : n / d = n.tdiv d - 1:=by
  rw [Int.ediv_eq_iff_of_pos h0,Int.sub_mul]
  constructor <;> omega
 exact this.symm
theorem fdiv_b (n d : Int) (h0 : 0 < d) (h : 0 <= n.tmod d) : n.tdiv d = n / d:=by
 have h1:=Int.tmod_add_tdiv_mul n d
 have h2:=Int.tmod_lt_of_pos n h0
 have : n / d = n.tdiv d:=by
  rw [Int.ediv_eq_iff_of_pos h0]
  constructor <;> omega
 exact this.symm
theorem fdiv_ge (n d : Int) (h0 : 0 < d) (h : -9223372036854775808 <= n) : -9223372036854775808 <= n / d:=by
 rw [Int.le_ediv_iff_mul_le h0]
 have : -9223372036854775808 * d <= -9223372036854775808 * 1:=Int.mul_le_mul_of_nonpos_left (by omega) (by omega)
 omega
theorem fdiv_le (n d : Int) (h0 : 0 < d) (h : n <= 9223372036854775807) : n / d <= 9223372036854775807:=by
 have : n / d < 9223372036854775808:=by
  rw [Int.ediv_lt_iff_lt_mul h0]
  have : 9223372036854775808 * 1 <= 9223372036854775808 * d:=Int.mul_le_mul_of_nonneg_left (by omega) (by omega)
  omega
 omega
theorem tdiv_in (n d : Int) (h0 : 0 < d) (h : InR .i64 n) : InR .i64 (n.tdiv d):=by
 simp at h ⊢
 have h1:=fdiv_ge n d h0 h.1
 have h2:=fdiv_le n d h0 h.2
 by_cases hm : n.tmod d < 0
 ·have h3:=fdiv_a n d h0 hm
  have h4 : n < 0:=by
   apply Int.lt_of_not_ge
   intro h
   have:=Int.tmod_nonneg d h; omega
  have h5 : n / d < 0:=Int.ediv_neg_of_neg_of_pos h4 h0
  omega
 ·have h3:=fdiv_b n d h0 (by omega); omega
def within : Spec [.int .i64,.int .i64,.int .i64]:=⟨fun _=>True,fun (x,lo,hi,_)=>.sb (isIn lo x hi)⟩
@[irreducible] def isQ (x : Int) : Bool:=isIn (-1099511627776) x 1099511627776
end Abs
end Go.Proofs.YtlacopdaibhkkaaGreat

namespace Go.Proofs.YtlacopdaibhkkaaGreat
namespace Abs
open Go
def firstN (p : Nat -> Bool) : Nat -> Nat
 | 0=>0
 | n + 1=>let f:=firstN p n; if f < n then f else if p n then n else n + 1
theorem firstN_zero (p : Nat -> Bool) : firstN p 0 = 0:=rfl
theorem firstN_succ (p : Nat -> Bool) (n : Nat) : firstN p (n + 1) = if firstN p n < n then firstN p n else if p n then n else n + 1:=rfl
attribute [irreducible] firstN
theorem firstN_le (p : Nat -> Bool) : ∀ n,firstN p n <= n
 | 0=>by rw [firstN_zero]; omega
 | n + 1=>by
   have:=firstN_le p n
   rw [firstN_succ]
   split
   ·omega
   ·split <;> omega
theorem firstN_not (p : Nat -> Bool) : ∀ n k,k < firstN p n -> p k = false
 | 0,k,h=>by rw [firstN_zero] at h; omega
 | n + 1,k,h=>by
   have hle:=firstN_le p n
   rw [firstN_succ] at h
   split at h
   ·exact firstN_not p n k h
   ·by_cases hk : k < n
    ·exact firstN_not p n k (by omega)
    ·split at h
     ·omega
     ·obtain rfl : k = n:=by omega
      cases hp : p k with
      | false=>rfl
      | true=>rename_i h1; exact absurd hp h1
theorem firstN_is (p : Nat -> Bool) : ∀ n,firstN p n < n -> p (firstN p n) = true
 | 0,h=>by omega
 | n + 1,h=>by
   have hle:=firstN_le p n
   rw [firstN_succ] at h ⊢
   split
   ·rename_i h1; exact firstN_is p n h1
   ·rename_i h1
    rw [if_neg h1] at h
    split
    ·rename_i h2; exact h2
    ·rename_i h2; rw [if_neg h2] at h; omega
theorem firstN_uniq {p : Nat -> Bool} {n k : Nat} (hk : k <= n) (h1 : ∀ j,j < k -> p j = false) (h2 : k < n -> p k = true) : firstN p n = k:=by
 have hle:=firstN_le p n
 rcases Nat.lt_trichotomy (firstN p n) k with h | h | h
 ·have:=firstN_is p n (by omega); rw [h1 _ h] at this; cases this
 ·exact h
 ·have:=firstN_not p n k h; rw [h2 (by omega)] at this; cases this
theorem firstN_ge {p : Nat -> Bool} {n k : Nat} (hk : k <= firstN p n) (h : p k = false) (hn : k < n) : k + 1 <= firstN p n:=by
 rcases Nat.lt_or_ge k (firstN p n) with h1 | h1
 ·omega
 ·obtain rfl : k = firstN p n:=by omega
  have:=firstN_is p n hn
  rw [h] at this; cases this
theorem firstN_at {p : Nat -> Bool} {n k : Nat} (hk : k <= firstN p n) (h : p k = true) : firstN p n = k:=by
 rcases Nat.lt_or_ge k (firstN p n) with h1 | h1
 ·have:=firstN_not p n k h1; rw [h] at this; cases this
 ·omega
@[irreducible] def anyN (p : Nat -> Bool) (n : Nat) : Bool:=decide (firstN p n < n)
theorem anyN_iff {p : Nat -> Bool} {n : Nat} : anyN p n = true ↔ ∃ k,k < n /\ p k = true:=by
 unfold anyN
 simp only [decide_eq_true_eq]
 constructor
 ·intro h; exact ⟨_,h,firstN_is p n h⟩
 ·rintro ⟨k,hk,hp⟩
  rcases Nat.lt_or_ge (firstN p n) n with h | h
  ·exact h
  ·have:=firstN_not p n k (by omega); rw [hp] at this; cases this
theorem anyN_false {p : Nat -> Bool} {n : Nat} : anyN p n = false ↔ ∀ k,k < n -> p k = false:=by
 constructor
 ·intro h k hk
  cases hp : p k with
  | false=>rfl
  | true=>have:=anyN_iff.2 ⟨k,hk,hp⟩; rw [h] at this; cases this
 ·intro h
  cases ha : anyN p n with
  | false=>rfl
  | true=>obtain ⟨k,hk,hp⟩:=anyN_iff.1 ha; rw [h k hk] at hp; cases hp
@[simp] theorem anyN_zero (p : Nat -> Bool) : anyN p 0 = false:=anyN_false.2 fun k hk=>by omega
theorem anyN_succ (p : Nat -> Bool) (n : Nat) : anyN p (n + 1) = (anyN p n || p n):=by
 rw [Bool.eq_iff_iff,Bool.or_eq_true,anyN_iff,anyN_iff]
 constructor
 ·rintro ⟨k,hk,hp⟩
  by_cases h : k < n
  ·exact .inl ⟨k,h,hp⟩
  ·obtain rfl : k = n:=by omega
   exact .inr hp
 ·rintro (⟨k,hk,hp⟩ | hp)
  ·exact ⟨k,by omega,hp⟩
  ·exact ⟨n,by omega,hp⟩
@[simp] theorem anyN_one (p : Nat -> Bool) : anyN p 1 = p 0:=by rw [anyN_succ]; simp
@[simp] theorem anyN_two (p : Nat -> Bool) : anyN p 2 = (p 0 || p 1):=by rw [anyN_succ]; simp
@[irreducible] def allN (p : Nat -> Bool) (n : Nat) : Bool:=!(anyN (fun k=>!(p k)) n)
theorem allN_iff {p : Nat -> Bool} {n : Nat} : allN p n = true ↔ ∀ k,k < n -> p k = true:=by
 unfold allN
 rw [Bool.not_eq_true',anyN_false]
 simp
@[irreducible] def idxN (p : Nat -> Bool) (n : Nat) : Int:=if firstN p n < n then (firstN p n : Int) else -1
theorem idxN_nonneg {p : Nat -> Bool} {n : Nat} : decide (0 <= idxN p n) = anyN p n:=by
 unfold idxN anyN
 split <;> rename_i h <;> simp [h] <;> omega
end Abs
end Go.Proofs.YtlacopdaibhkkaaGreat

namespace Go.Proofs.YtlacopdaibhkkaaGreat
namespace Abs
open Go
@[irreducible] def lvB (c : Nat -> Int) (k : Nat) : Bool:=!(isIn 0 (c k) 100)
theorem lvB_f {c : Nat -> Int} {k : Nat} : lvB c k = false ↔ 0 <= c k /\ c k <= 100:=by unfold lvB; simp
theorem lvB_t {c : Nat -> Int} {k : Nat} (h : c k < 0 \/ 100 < c k) : lvB c k = true:=by
 cases h' : lvB c k with
 | true=>rfl
 | false=>have:=lvB_f.1 h'; omega
@[irreducible] def lvE (n : Nat) (c : Nat -> Int) : Int:=if n < 1 \/ 16 < n then 6 else if anyN (lvB c) n = true then 3 else 0
theorem lvE_6 {n : Nat} {c : Nat -> Int} (h : n < 1 \/ 16 < n) : lvE n c = 6:=by unfold lvE; rw [if_pos h]
theorem lvE_3 {n k : Nat} {c : Nat -> Int} (h : 1 <= n) (h' : n <= 16) (hk : k < n) (hb : c k < 0 \/ 100 < c k) : lvE n c = 3:=by
 unfold lvE; rw [if_neg (by omega),if_pos (anyN_iff.2 ⟨k,hk,lvB_t hb⟩)]
theorem lvE_0 {n : Nat} {c : Nat -> Int} : lvE n c = 0 ↔ 1 <= n /\ n <= 16 /\ ∀ k,k < n -> 0 <= c k /\ c k <= 100:=by
 unfold lvE
 split
 ·constructor
  ·intro h; omega
  ·rintro ⟨h1,h2,_⟩; omega
 ·rename_i h
  cases ha : anyN (lvB c) n with
  | true =>
    obtain ⟨k,hk,hp⟩:=anyN_iff.1 ha
    simp only [if_true]
    constructor
    ·intro h; omega
    ·rintro ⟨_,_,h3⟩
     have:=lvB_f.2 (h3 k hk)
     rw [hp] at this; cases this
  | false =>
    simp only [Bool.false_eq_true,if_false,true_iff]
    exact ⟨by omega,by omega,fun k hk=>lvB_f.1 (anyN_false.1 ha k hk)⟩
@[irreducible] def bdE (n : Nat) (c : Nat -> Int) (lo hi : Int) : Int:=if lvE n c = 0 then (if lo < 0 \/ hi < lo \/ 100 < hi then 2 else 0) else lvE n c
theorem bdE_lv {n : Nat} {c : Nat -> Int} {lo hi : Int} (h : lvE n c ≠ 0) : bdE n c lo hi = lvE n c:=by unfold bdE; rw [if_neg h]
theorem bdE_2 {n : Nat} {c : Nat -> Int} {lo hi : Int} (h : lvE n c = 0) (h' : lo < 0 \/ hi < lo \/ 100 < hi) : bdE n c lo hi = 2:=by unfold bdE; rw [if_pos h,if_pos h']
theorem bdE_0 {n : Nat} {c : Nat -> Int} {lo hi : Int} : bdE n c lo hi = 0 ↔ lvE n c = 0 /\ 0 <= lo /\ lo <= hi /\ hi <= 100:=by
 unfold bdE
 split
 ·rename_i h
  split
  ·constructor
   ·intro h; omega
   ·rintro ⟨_,h1,h2,h3⟩; omega
  ·exact ⟨fun _=>⟨h,by omega,by omega,by omega⟩,fun _=>rfl⟩
 ·rename_i h
  exact ⟨fun h'=>absurd h' h,fun h'=>absurd h'.1 h⟩
@[irreducible] def amt (x : Int) : Int:=max x (-x)
@[simp] theorem amt_eq (x : Int) : amt x = max x (-x):=by unfold amt; rfl
@[irreducible] def flAt (m : Nat) (f : Nat -> Int) (k : Nat) : Int:=if k < m then f k else 0
theorem flAt_in {m k : Nat} {f : Nat -> Int} (h : k < m) : flAt m f k = f k:=by unfold flAt; rw [if_pos h]
theorem flAt_out {m k : Nat} {f : Nat -> Int} (h : m <= k) : flAt m f k = 0:=by unfold flAt; rw [if_neg (by omega)]
def inAt0 (m : Nat) (f : Nat -> Int) : Nat -> Int
 | 0=>0
 | k + 1=>flAt m f k
@[irreducible] def inAt (m : Nat) (f : Nat -> Int) (k : Nat) : Int:=inAt0 m f k
@[simp] theorem inAt_zero (m : Nat) (f : Nat -> Int) : inAt m f 0 = 0:=by unfold inAt; rfl
@[simp] theorem inAt_succ (m : Nat) (f : Nat -> Int) (k : Nat) : inAt m f (k + 1) = flAt m f k:=by unfold inAt; rfl
@[irreducible] def bhV (c : Nat -> Int) (m : Nat) (f : Nat -> Int) (k : Nat) : Int:=c k + inAt m f k - flAt m f k
theorem bhV_eq (c : Nat -> Int) (m : Nat) (f : Nat -> Int) (k : Nat) : bhV c m f k = c k + inAt m f k - flAt m f k:=by unfold bhV; rfl
def sumN0 (c : Nat -> Int) : Nat -> Int
 | 0=>0
 | n + 1=>sumN0 c n + c n
@[irreducible] def sumN (c : Nat -> Int) (n : Nat) : Int:=sumN0 c n
@[simp] theorem sumN_zero (c : Nat -> Int) : sumN c 0 = 0:=by unfold sumN; rfl
@[simp] theorem sumN_succ (c : Nat -> Int) (n : Nat) : sumN c (n + 1) = sumN c n + c n:=by unfold sumN; rfl
theorem sumN_in {c : Nat -> Int} {M : Int} : ∀ {n : Nat},(∀ k,k < n -> -M <= c k /\ c k <= M) -> -(n * M) <= sumN c n /\ sumN c n <= n * M
 | 0,_=>by simp
 | n + 1,h=>by
   have h1:=sumN_in (n:=n) fun k hk=>h k (by omega)
   have h2:=h n (by omega)
   rw [sumN_succ]
   have e : ((n + 1 : Nat) : Int) * M = n * M + M:=by rw [Int.natCast_succ,Int.add_mul,Int.one_mul]
   rw [e]
   omega
theorem sumN_nn {c : Nat -> Int} : ∀ {n : Nat},(∀ k,k < n -> 0 <= c k) -> 0 <= sumN c n
 | 0,_=>by simp
 | n + 1,h=>by
   have h1:=sumN_nn (n:=n) fun k hk=>h k (by omega)
   have h2:=h n (by omega)
   rw [sumN_succ]; omega
def maxN0 (c : Nat -> Int) : Nat -> Int
 | 0=>0
 | n + 1=>max (maxN0 c n) (c n)
@[irreducible] def maxN (c : Nat -> Int) (n : Nat) : Int:=maxN0 c n
@[simp] theorem maxN_zero (c : Nat -> Int) : maxN c 0 = 0:=by unfold maxN; rfl
@[simp] theorem maxN_succ (c : Nat -> Int) (n : Nat) : maxN c (n + 1) = max (maxN c n) (c n):=by unfold maxN; rfl
@[irreducible] def movN (f : Nat -> Int) (m : Nat) : Int:=sumN (fun k=>amt (f k)) m
@[simp] theorem movN_zero (f : Nat -> Int) : movN f 0 = 0:=by unfold movN; simp
@[simp] theorem movN_succ (f : Nat -> Int) (m : Nat) : movN f (m + 1) = movN f m + amt (f m):=by unfold movN; rw [sumN_succ]
@[irreducible] def tckN (f : Nat -> Int) (m : Nat) : Int:=maxN (fun k=>amt (f k)) m
@[simp] theorem tckN_zero (f : Nat -> Int) : tckN f 0 = 0:=by unfold tckN; simp
@[simp] theorem tckN_succ (f : Nat -> Int) (m : Nat) : tckN f (m + 1) = max (tckN f m) (amt (f m)):=by unfold tckN; rw [maxN_succ]
theorem movN_in {f : Nat -> Int} {M : Int} {m : Nat} (h : ∀ k,k < m -> -M <= f k /\ f k <= M) : 0 <= movN f m /\ movN f m <= m * M:=by
 unfold movN
 have h1:=sumN_in (c:=fun k=>amt (f k)) (M:=M) (n:=m) fun k hk=>by have:=h k hk; simp; omega
 exact ⟨sumN_nn fun k hk=>by simp; omega,h1.2⟩
@[irreducible] def posB (n : Nat) (c : Nat -> Int) (lo hi : Int) : Bool:=decide (lo * n <= sumN c n) && decide (sumN c n <= hi * n)
@[simp] theorem posB_eq (n : Nat) (c : Nat -> Int) (lo hi : Int) : posB n c lo hi = (decide (lo * n <= sumN c n) && decide (sumN c n <= hi * n)):=by unfold posB; rfl
end Abs
end Go.Proofs.YtlacopdaibhkkaaGreat

namespace Go.Proofs.YtlacopdaibhkkaaGreat
namespace Abs
open Go Go.RowKit
theorem mixed : Tryz.prog.follows .mixedOrders = true:=by kernel_rfl
end Abs
end Go.Proofs.YtlacopdaibhkkaaGreat

namespace Go.Proofs.YtlacopdaibhkkaaGreat
namespace Abs
open Go Go.RowKit
def EndQ (P1 : Act -> World -> Prop) : Exit -> Act -> World -> Prop:=fun e a w=>e = .normal /\ P1 a w
section
variable {F : Fence} {n : Nat} {P : Program} {P1 : Act -> World -> Prop} {Q : Exit -> Act -> World -> Prop}
theorem wpIn_endQ {o : Oper} {a : Act} {w : World} {K K' : Act -> World -> Prop} (h : ∀ a w,K a w -> K' a w) (hh : o.wpIn F n P a w K (EndQ P1)) : o.wpIn F n P a w K' Q:=by
 unfold Oper.wpIn at *
 refine ⟨hh.1,?_⟩
 have hh:=hh.2
 generalize (o.semAt F.round a.eval).run P w = r at *
 cases r with
 | ok x w' =>
   cases x <;> simp only [Oper.uponIn] at hh ⊢ <;>
    first
     | exact h _ _ hh
     | exact ⟨hh.1,CallsIn.mono hh.2 (fun e w'' he=>by cases e <;> first | exact h _ _ he | (obtain ⟨h1,_⟩:=he; cases h1; done) | (obtain ⟨_,_,h1,_⟩:=he; cases h1))⟩
     | exact ⟨hh.1,RowsIn.mono hh.2 (fun _ _ he=>h _ _ he)⟩
     | exact ⟨hh.1,RoundIn.mono hh.2 (fun e w'' he=>by cases e <;> first | exact h _ _ he | (obtain ⟨h1,_⟩:=he; cases h1; done) | (obtain ⟨_,_,h1,_⟩:=he; cases h1))⟩
 | halt x w'=>cases x <;> simp only [Oper.uponIn] at hh ⊢ <;> first | exact hh | (obtain ⟨h1,_⟩:=hh; cases h1)
theorem yieldedO_eq {ops ops' : Array Oper} {tm : Array Value} {j : Nat} (h : ops[j]? = ops'[j]?) : yielded ops tm j = yielded ops' tm j:=by unfold yielded; rw [h]
theorem wanted_pre {pre all : List Oper} {o : Oper} {tm : Array Value} (hg : ∀ g w,o.guard = some (g,w) -> pre[g]? = all[g]?) : Region.wanted o (yielded pre.toArray tm) = Region.wanted o (yielded all.toArray tm):=by
 unfold Region.wanted
 cases h : o.guard with
 | none=>rfl
 | some x=>obtain ⟨g,w⟩:=x; simp only; rw [yieldedO_eq (ops:=pre.toArray) (ops':=all.toArray) (by simpa using hg g w h)]
theorem take_get {all : List Oper} {k i : Nat} (h : i < k) : (all.take k)[i]? = all[i]?:=by rw [List.getElem?_take]; simp [h]
theorem opIn_pre {all : List Oper} {k i : Nat} (hi : i < k) (hu : uniqOK (all.take k) = true) {a : Act} {w : World} {K K' : Act -> World -> Prop} (h : ∀ a w,K a w -> K' a w) (hh : wpOpIn F n P (all.take k).toArray (EndQ P1) i K a w) : wpOpIn F n P all.toArray Q i K' a w:=by
 unfold wpOpIn at *
 have e : (all.take k).toArray[i]? = all.toArray[i]?:=by simp [List.getElem?_take,hi]
 rw [e] at hh
 cases ho : all.toArray[i]? with
 | none=>rw [ho] at hh; exact h _ _ hh
 | some o =>
   rw [ho] at hh
   simp only at hh ⊢
   have hpo : (all.take k)[i]? = some o:=by simpa [List.getElem?_take,hi] using ho
   rw [wanted_pre (pre:=all.take k) (all:=all) (fun g w hg=>take_get (Nat.lt_trans ((uniq_spec hu hpo).2 g w hg) hi))] at hh
   split
   ·rename_i hw; rw [hw] at hh; simp only [if_true] at hh; exact wpIn_endQ h hh
   ·rename_i hw; rw [Bool.eq_false_iff.2 hw] at hh; exact ⟨hh.1,h _ _ hh.2⟩
theorem any_prefix {all : List Oper} {k m : Nat} (hk : k < all.length) (hu : uniqOK (all.take k) = true) (hback : Back all) (hbar : barAt true all k = true)
  (hcont : ∀ (a : Act) (w : World),P1 a w -> ∀ D : Array Bool,D.size = all.length -> Closed all (Lst D) -> (∀ i,i < k -> Lst D i) -> (∀ i,k <= i -> ¬ Lst D i) -> wpAnyIn F n P .any all.toArray Q m D a w) :
  ∀ (fuel : Nat) (D' D : Array Bool) (a : Act) (w : World),D'.size = k -> D.size = all.length -> Closed all (Lst D) -> (∀ i,i < k -> D.getD i false = D'.getD i false) -> (∀ i,k <= i -> ¬ Lst D i) -> unl (fun i=>D'.getD i false) k = fuel ->
    wpAnyIn F n P .any (all.take k).toArray (EndQ P1) fuel D' a w -> wpAnyIn F n P .any all.toArray Q (fuel + m) D a w:=by
 have hlen : (all.take k).length = k:=by rw [List.length_take]; omega
 intro fuel
 induction fuel with
 | zero =>
   intro D' D a w hs' hs hcl he hge hun h
   have hall:=unl_zero hun
   rw [Nat.zero_add]
   exact hcont a w h.2.2 D hs hcl (fun i hi=>by show D.getD i false = true; rw [he i hi]; exact hall i hi) hge
 | succ fuel ih =>
   intro D' D a w hs' hs hcl he hge hun h
   have hnot : ¬ ∀ i,i < k -> Lst D i:=fun hh=>by
    have : unl (fun i=>D'.getD i false) k = 0:=by
     have key : ∀ q,q <= k -> unl (fun i=>D'.getD i false) q = 0:=by
      intro q
      induction q with
      | zero=>intro _; rfl
      | succ q ihq =>
        intro hq
        have h1:=hh q hq
        have h2 : D'.getD q false = true:=by rw [<- he q hq]; exact h1
        simp only [unl,h2]
        simpa using ihq (by omega)
     exact key k (Nat.le_refl _)
    omega
   rw [show fuel + 1 + m = (fuel + m) + 1 by omega]
   refine ⟨fun hr=>absurd (fun i hi=>all_listed hback hs hr i (by omega)) hnot,fun i hir=>?_⟩
   obtain ⟨o,ho,hnl,hpre,hLst,hclosed,_,hsz⟩:=ready_facts hs hcl hir
   have hik : i < k:=by
    rcases Nat.lt_or_ge i k with hi | hi
    ·exact hi
    ·exfalso
     rcases Nat.lt_or_ge k i with hi2 | hi2
     ·exact hge k (Nat.le_refl _) (ord_closed hback hcl _ _ ho hpre ((bar_spec hbar (List.getElem?_eq_some_iff.1 ho).1).2 hi2))
     ·obtain rfl : i = k:=by omega
      exact hnot fun j hj=>ord_closed hback hcl _ _ ho hpre ((bar_spec hbar (by omega)).1 hj)
   have hpo : (all.take k)[i]? = some o:=by rw [take_get hik]; exact ho
   have hnl' : D'.getD i true = false:=by
    rw [getD_tf (by omega)]
    have : D.getD i false = false:=by simpa [Lst] using hnl
    rw [<- he i hik]; exact this
   have hmem : i ∈ Region.ready .any (all.take k).toArray D':=mem_ready hpo hnl' fun e he' hb=>by
    have:=hpre e he' hb
    have hlt:=hback i o ho e he' hb
    show D'.getD e.on false = true
    rw [<- he _ (by omega)]; exact this
   refine opIn_pre hik hu (fun a1 w1 h1=>?_) (h.2 i hmem)
   have hsz' : (D'.setIfInBounds i true).size = k:=by simpa using hs'
   refine ih _ _ a1 w1 hsz' hsz hclosed (fun j hj=>?_) (fun j hj hl=>?_) ?_ h1
   ·rw [lst_set (by omega),lst_set (by omega),he j hj]
   ·rcases (hLst j).1 hl with h2 | h2
    ·exact hge j hj h2
    ·omega
   ·have:=unl_set (f:=fun i=>D'.getD i false) (g:=fun j=>(D'.setIfInBounds i true).getD j false) (i:=i) (by rw [getD_tf (by omega)] at hnl'; exact hnl') (fun j=>lst_set (by omega)) (n:=k) hik
    omega
theorem opsIn_prefix {all : List Oper} {k : Nat} (hk : k <= all.length) (hu : uniqOK (all.take k) = true) {rest : List Nat} (hcont : ∀ a w,P1 a w -> wpOpsIn F n P all.toArray Q rest a w) :
  ∀ (l : List Nat),(∀ i ∈ l,i < k) -> ∀ (a : Act) (w : World),wpOpsIn F n P (all.take k).toArray (EndQ P1) l a w -> wpOpsIn F n P all.toArray Q (l ++ rest) a w
 | [],_,a,w,h=>hcont a w h.2
 | i :: l,hl,a,w,h=>by
   rw [List.cons_append,wpOpsIn_cons]
   rw [wpOpsIn_cons] at h
   exact opIn_pre (hl i (by simp)) hu (fun a w h=>opsIn_prefix hk hu hcont l (fun j hj=>hl j (by simp [hj])) a w h) h
end
end Abs
end Go.Proofs.YtlacopdaibhkkaaGreat

namespace Go.Proofs.YtlacopdaibhkkaaGreat
namespace Abs
open Go Go.RowKit
noncomputable section
def flatA : AV -> AV
 | .li k n=>.li k n
 | .si k n=>.si k n
 | .lb b=>.lb b
 | .sb b=>.sb b
 | .v x=>.v x
 | _=>.top
def flatL : List AV -> List AV -> List AV
 | _,[]=>[]
 | [],a :: l=>flatA a :: flatL [] l
 | p :: ps,_ :: l=>p :: flatL ps l
def flatK : List AV -> List AV -> (List AV -> VC) -> VC
 | _,[],k=>k []
 | [],a :: l,k=>forceV (flatA a) fun a'=>flatK [] l fun l'=>k (a' :: l')
 | p :: ps,_ :: l,k=>flatK ps l fun l'=>k (p :: l')
def flatO (W : Nat) : Nat -> List AV -> List AV -> List AV
 | n,o :: os,a :: l=>(match Nat.testBit W n with | true=>flatA a | false=>o) :: flatO W (n + 1) os l
 | _,_,_=>[]
def flatOK (W : Nat) : List AV -> List AV -> Nat -> (List AV -> VC) -> VC
 | o :: os,a :: l,n,k=>(match Nat.testBit W n with
   | true=>forceV (flatA a) fun a'=>flatOK W os l (n + 1) fun l'=>k (a' :: l')
   | false=>flatOK W os l (n + 1) fun l'=>k (o :: l'))
 | _,_,_,k=>k []
def overO (W : Nat) : Nat -> List AV -> List AV -> List AV
 | n,o :: os,a :: l=>(match Nat.testBit W n with | true=>a | false=>o) :: overO W (n + 1) os l
 | _,_,_=>[]
def overK (W : Nat) : List AV -> List AV -> Nat -> (List AV -> VC) -> VC
 | o :: os,a :: l,n,k=>(match Nat.testBit W n with
   | true=>overK W os l (n + 1) fun l'=>k (a :: l')
   | false=>overK W os l (n + 1) fun l'=>k (o :: l'))
 | _,_,_,k=>k []
def pureO (o : Oper) : Bool:=match o.guard,o.op with
 | none,.move _=>true
 | none,.assign _=>true
 | none,.load _ _=>true
 | none,.indexAddr _ _ _=>true
 | none,.fieldAddr _ _ _=>true
 | none,.nilCheck _=>true
 | _,_=>false
def preP : List Oper -> List Oper
 | []=>[]
 | o :: l=>(match pureO o with | true=>o :: preP l | false=>[])
def resP : List Oper -> List Oper
 | []=>[]
 | o :: l=>(match pureO o with | true=>resP l | false=>o :: l)
def allT : List Oper -> List Bool
 | []=>[]
 | _ :: l=>true :: allT l
def isYl : List Oper -> Option (Oper × Oper)
 | [y,z]=>some (y,z)
 | _ :: l=>isYl l
 | []=>none
def calleeT : Op -> Option (Nat × List Operand)
 | .call c=>(match c.callee with | .value (.tmp d)=>some (d,c.args.toList) | _=>none)
 | _=>none
def notT : Op -> Option Nat
 | .unOp .not _ (.tmp e)=>some e
 | _=>none
def movedT (d : Nat) : List Oper -> Bool
 | []=>false
 | o :: l=>(match o.dst,o.op with | some e,.move (.tmp 0)=>Nat.beq e d || movedT d l | _,_=>movedT d l)
structure YCall where
 d : Nat
 args : List Operand
 yd : Nat
 zd : Nat
def splitY (ops : List Oper) : Option YCall :=
 match isYl ops with
 | none=>none
 | some (y,z)=>(match calleeT y.op,notT z.op with
   | some (d,args),some e=>(match y.dst,z.dst,y.guard,z.guard with
     | some yd,some zd,none,none=>(match movedT d ops && Nat.beq e yd && !(Nat.beq yd zd) with | true=>some ⟨d,args,yd,zd⟩ | false=>none)
     | _,_,_,_=>none)
   | _,_=>none)
structure YA where
 ps : List AV
 Y : Value
 n : Nat
 it : Nat -> List AV
 fr : Nat -> List AV
 {α : Type}
 dat : Nat -> α
 q : α -> Prop
def natA (A : YA) : Ann:=⟨Nat,fun _=>⟨[],[]⟩,A.α,A.dat,A.q,fun _=>0⟩
def yldK (A : YA) (W : Nat) (old : List AV) (y : YCall) (fr : List AV) (k : Nat) (Q : List AV -> Option Nat -> VC) : VC :=
 .need ⟨fun z : AV × AV=>z.1 = z.2,(getL fr y.d,.v A.Y)⟩ (.need ⟨fun z : Nat × Nat=>z.1 < z.2,(k,A.n)⟩ (forceLD (evL (ev fr) y.args) fun asg=>forceL (A.it k) fun its=>leLW (leAF 6 0 [] []) asg its
  (.loop (A:=unitA) (fun _=>()) (setF fr y.yd (.lb true) fun f=>setF f y.zd (.lb false) fun f=>flatOK W old f 0 fun f=>Q f (some (nadd k 1)))
   fun _=>setF fr y.yd (.lb false) fun f=>setF f y.zd (.lb true) fun f=>flatOK W old f 0 fun f=>Q f none)))
def endH (W : Nat) (old : List AV) (Q : List AV -> VC) (fr : List AV) (hp : Heap) : VC:=match hp with | []=>flatOK W old fr 0 Q | _=>.fail
def yldH (A : YA) (W : Nat) (old : List AV) (y : YCall) (k : Nat) (Q : List AV -> Option Nat -> VC) (fr : List AV) (hp : Heap) : VC:=match hp with | []=>yldK A W old y fr k Q | _=>.fail
def wpY (P : Program) (S : Sums) (A : YA) : Code -> List AV -> Option Nat -> (AE -> List AV -> Option Nat -> VC) -> VC
 | .skip,fr,k,Q=>Q .normal fr k
 | .region _ ops dr,fr,k,Q=>(match splitY ops.toList with
   | none=>(match dr with
     | false=>preK P ops.toList (preP ops.toList) (allT (preP ops.toList)) fr fun f=>overK (mskO (preP ops.toList)) fr f 0 fun f =>
       runOps P S false ops.toList none (lenO (preP ops.toList)) (resP ops.toList) [] f [] (endH (mskO (resP ops.toList)) f fun f=>Q .normal f k)
     | true=>runOps P S dr ops.toList none 0 ops.toList [] fr [] (endH (mskO ops.toList) fr fun f=>Q .normal f k))
   | some y=>(match k,Nat.blt y.yd fr.length with
     | some k,true=>runOps P S dr (ops.toList.take (ops.toList.length - 2)) none 0 (ops.toList.take (ops.toList.length - 2)) [] fr [] (yldH A (mskO ops.toList) fr y k fun f k'=>Q .normal f k')
     | _,_=>.fail))
 | .seq a b,fr,k,Q=>wpY P S A a fr k fun e fr' k'=>match e with
   | .normal=>wpY P S A b fr' k' Q
   | e=>Q e fr' k'
 | .cond c t e,fr,k,Q=>(match c with
   | .tmp d=>(match Nat.ble A.ps.length d with | true=>branchK fr d fun b fr=>(match b with | true=>wpY P S A t fr k Q | false=>wpY P S A e fr k Q) | false=>.fail)
   | _=>.fail)
 | .block id c,fr,k,Q=>wpY P S A c fr k fun e fr' k'=>match e with
   | .exit j=>(match Nat.beq id j with | true=>Q .normal fr' k' | false=>Q (.exit j) fr' k')
   | e=>Q e fr' k'
 | .loop c,fr,k,Q=>(match k with
   | none=>.fail
   | some k=>.loop (A:=natA A) A.dat (leLW (leAF 6 0 [] []) fr (A.fr k) (.need ⟨A.q,A.dat k⟩ .done)) fun g=>forceL (A.fr g) fun f=>wpY P S A c f (some g) fun e fr' k'=>match e with
     | .normal=>(match k' with
       | some k'=>.need ⟨fun z : Nat × Nat × Nat=>z.1 < z.2.1 /\ z.1 < z.2.2,(g,k',A.n)⟩ (leLW (leAF 6 0 [] []) fr' (A.fr k') (.need ⟨A.q,A.dat k'⟩ .done))
       | none=>.fail)
     | e=>Q e fr' k')
 | .exit id,fr,k,Q=>Q (.exit id) fr k
 | .ret,fr,k,Q=>Q .ret fr k
 | _,_,_,_=>.fail
def wpYF (P : Program) (S : Sums) (A : YA) (fn : Func) : VC :=
 match fn.body with
 | some c=>forceL (padL A.ps fn.ntmps) fun fr=>flatK A.ps fr fun fr=>wpY P S A c fr (some 0) fun e _ k=>match e with
   | .exit _=>.fail
   | _=>(match k with | some k=>.need ⟨fun z : Nat × Nat=>z.1 = z.2,(k,A.n)⟩ .done | none=>.done)
 | none=>.fail
def codeY (np : Nat) : Code -> Bool
 | .region _ ops dr=>(match splitY ops.toList with
   | none=>regOK dr ops.toList
   | some _=>regOK dr (ops.toList.take (ops.toList.length - 2)) && backOK ops.toList && (match dr with | true=>barAt true ops.toList (ops.toList.length - 2) | false=>true)) && allLt (fun t=>!(Nat.testBit (mskO ops.toList) t)) np
 | .seq a b=>codeY np a && codeY np b
 | .cond _ a b=>codeY np a && codeY np b
 | .block _ a=>codeY np a
 | .loop a=>codeY np a
 | .skip=>true
 | .exit _=>true
 | .ret=>true
 | _=>false
end
theorem flatK_eq : ∀ (ps l : List AV) (k : List AV -> VC),flatK ps l k = k (flatL ps l)
 | [],[],k=>rfl
 | _ :: _,[],k=>rfl
 | [],a :: l,k=>by unfold flatK flatL; rw [forceV_eq,flatK_eq [] l]
 | p :: ps,a :: l,k=>by unfold flatK flatL; rw [flatK_eq ps l]
theorem flatOK_eq (W : Nat) : ∀ (os l : List AV) (n : Nat) (k : List AV -> VC),flatOK W os l n k = k (flatO W n os l)
 | [],_,_,_=>by simp [flatOK,flatO]
 | _ :: _,[],_,_=>by simp [flatOK,flatO]
 | o :: os,a :: l,n,k=>by
   unfold flatOK flatO
   cases Nat.testBit W n with
   | true=>simp only; rw [forceV_eq,flatOK_eq W os l]
   | false=>simp only; rw [flatOK_eq W os l]
theorem overK_eq (W : Nat) : ∀ (os l : List AV) (n : Nat) (k : List AV -> VC),overK W os l n k = k (overO W n os l)
 | [],_,_,_=>by simp [overK,overO]
 | _ :: _,[],_,_=>by simp [overK,overO]
 | o :: os,a :: l,n,k=>by
   unfold overK overO
   cases Nat.testBit W n with
   | true=>simp only; rw [overK_eq W os l]
   | false=>simp only; rw [overK_eq W os l]
theorem len_overO (W : Nat) : ∀ (n : Nat) (os l : List AV),os.length = l.length -> (overO W n os l).length = l.length
 | _,[],[],_=>by simp [overO]
 | _,[],_ :: _,h=>by simp at h
 | _,_ :: _,[],h=>by simp at h
 | n,o :: os,a :: l,h=>by simp only [overO,List.length_cons]; rw [len_overO W (n + 1) os l (by simpa using h)]
theorem get_overO (W : Nat) : ∀ (n : Nat) (os l : List AV) (t : Nat),os.length = l.length -> t < l.length -> getL (overO W n os l) t = (match Nat.testBit W (n + t) with | true=>getL l t | false=>getL os t)
 | _,[],[],_,_,h=>by simp at h
 | _,[],_ :: _,_,h,_=>by simp at h
 | _,_ :: _,[],_,h,_=>by simp at h
 | n,o :: os,a :: l,0,_,_=>by simp only [overO,getL_zero,Nat.add_zero]
 | n,o :: os,a :: l,t + 1,h,ht=>by
   simp only [overO,getL_succ]
   rw [get_overO W (n + 1) os l t (by simpa using h) (by simpa using ht),show n + 1 + t = n + (t + 1) by omega]
theorem len_flatO (W : Nat) : ∀ (n : Nat) (os l : List AV),os.length = l.length -> (flatO W n os l).length = l.length
 | _,[],[],_=>by simp [flatO]
 | _,[],_ :: _,h=>by simp at h
 | _,_ :: _,[],h=>by simp at h
 | n,o :: os,a :: l,h=>by simp only [flatO,List.length_cons]; rw [len_flatO W (n + 1) os l (by simpa using h)]
theorem get_flatO (W : Nat) : ∀ (n : Nat) (os l : List AV) (t : Nat),os.length = l.length -> t < l.length -> getL (flatO W n os l) t = (match Nat.testBit W (n + t) with | true=>flatA (getL l t) | false=>getL os t)
 | _,[],[],_,_,h=>by simp at h
 | _,[],_ :: _,_,h,_=>by simp at h
 | _,_ :: _,[],_,h,_=>by simp at h
 | n,o :: os,a :: l,0,_,_=>by simp only [flatO,getL_zero,Nat.add_zero]
 | n,o :: os,a :: l,t + 1,h,ht=>by
   simp only [flatO,getL_succ]
   rw [get_flatO W (n + 1) os l t (by simpa using h) (by simpa using ht),show n + 1 + t = n + (t + 1) by omega]
theorem isYl_spec : ∀ {l : List Oper} {y z : Oper},isYl l = some (y,z) -> 2 <= l.length /\ l = l.take (l.length - 2) ++ [y,z]
 | [],y,z,h=>by cases h
 | [a],y,z,h=>by simp [isYl] at h
 | [a,b],y,z,h=>by simp [isYl] at h; obtain ⟨rfl,rfl⟩:=h; exact ⟨by simp,by simp⟩
 | a :: b :: c :: l,y,z,h=>by
   have h' : isYl (b :: c :: l) = some (y,z):=by simpa [isYl] using h
   obtain ⟨h1,h2⟩:=isYl_spec h'
   refine ⟨by simp,?_⟩
   have e : (a :: b :: c :: l).length - 2 = ((b :: c :: l).length - 2) + 1:=by simp
   rw [e,List.take_succ_cons,List.cons_append,<- h2]
end Abs
end Go.Proofs.YtlacopdaibhkkaaGreat

namespace Go.Proofs.YtlacopdaibhkkaaGreat
namespace Abs
open Go Go.RowKit
section
variable {P : Program} {S : Sums} {C C' : Cx} {w w' : World} {A : YA} {J Jx : Nat -> World -> Prop} {sz0 : Nat}
theorem hr_none (hρ : ∀ i,C.ρ i = none) (hO : ∀ b,C.O b = none) (hI : ∀ b,C.I b -> b < w.heap.size) : HR C [] w :=
 ⟨fun i p h=>(by rw [hρ] at h; cases h),fun i j b c n b' c' n' h=>(by rw [hρ] at h; cases h),fun i b c n h=>(by rw [hρ] at h; cases h),hI,fun b x h=>(by rw [hO] at h; cases h)⟩
theorem none_hr (h : HR C [] w) : ∀ i,C.ρ i = none:=fun i=>by
 cases hc : C.ρ i with
 | none=>rfl
 | some p=>have:=h.live i p hc; cases p <;> exact this.elim
theorem tr_quiet {lo : Nat} (hρ : ∀ i,C.ρ i = none) (hO : ∀ b,C.O b = none) (t : Tr lo C w C' w') : Quiet w w' :=
 ⟨t.os,t.tape,t.output,t.size,fun k hk=>t.keep k hk (fun i b c n h=>(by rw [hρ] at h; cases h)) (hO k)⟩
theorem flat_rel {a : AV} {v : Value} (h : Rel C w a v) : Rel C' w' (flatA a) v:=by
 cases h <;> unfold flatA <;> first | exact .top _ | exact .li _ _ | exact .si _ _ | exact .lb _ | exact .sb _ | exact .v _
theorem flat_ng (a : AV) : notGd (flatA a):=by cases a <;> trivial
theorem len_flat : ∀ (ps l : List AV),(flatL ps l).length = l.length
 | [],[]=>rfl
 | _ :: _,[]=>rfl
 | [],a :: l=>by simp [flatL,len_flat [] l]
 | p :: ps,a :: l=>by simp [flatL,len_flat ps l]
theorem get_flat : ∀ (ps l : List AV) (t : Nat),t < l.length -> getL (flatL ps l) t = if t < ps.length then getL ps t else flatA (getL l t)
 | _,[],t,h=>by simp at h
 | [],a :: l,0,_=>rfl
 | [],a :: l,t + 1,h=>by
   unfold flatL
   rw [getL_succ,getL_succ,get_flat [] l t (by simpa using h)]
   simp
 | p :: ps,a :: l,0,_=>by simp [flatL,getL_zero]
 | p :: ps,a :: l,t + 1,h=>by
   unfold flatL
   rw [getL_succ,getL_succ,getL_succ,get_flat ps l t (by simpa using h)]
   simp
structure InvY (A : YA) (C : Cx) (J Jx : Nat -> World -> Prop) (sz0 : Nat) (fr : List AV) (k : Option Nat) (act : Act) (w : World) : Prop where
 F : FR [] C w fr act.tmps
 ps : ∀ t,t < A.ps.length -> getL fr t = getL A.ps t
 np : A.ps.length <= fr.length
 size : sz0 <= w.heap.size
 st : match k with | some k=>J k w | none=>∃ k,k < A.n /\ Jx k w
 df : act.defers = []
structure YCtx (P : Program) (A : YA) (C : Cx) (J Jx : Nat -> World -> Prop) (sz0 l : Nat) : Prop where
 ρ : ∀ i,C.ρ i = none
 O : ∀ b,C.O b = none
 I : ∀ b,C.I b -> b < sz0
 ng : ∀ t,notGd (getL A.ps t)
 fr : ∀ g t,t < A.ps.length -> getL (A.fr g) t = getL A.ps t
 Y : A.Y = .func (.yield l) #[] #[]
 hJ : ∀ k W W',J k W -> Quiet W W' -> J k W'
 hJx : ∀ k W W',Jx k W -> Quiet W W' -> Jx k W'
 hY : ∀ (k : Nat) (W0 W : World) (I1 : Nat -> Prop) (vs : List Value),k < A.n -> J k W0 -> Quiet W0 W -> (∀ b,C.I b -> I1 b) -> (∀ b,I1 b -> C.I b \/ (W0.heap.size <= b /\ b < W.heap.size)) ->
   RelL ⟨fun _=>none,I1,fun _=>none⟩ W (A.it k) vs -> YieldAt (fen none) 0 P l ⟨vs⟩ W fun e W' =>
    (∀ b,C.I b -> W'.heap[b]? = W.heap[b]?) /\ W.heap.size <= W'.heap.size /\ ((e = .returned (.bool true) /\ J (k + 1) W') \/ (e = .returned (.bool false) /\ Jx k W'))
theorem carry {l : Nat} (hc : YCtx P A C J Jx sz0 l) {fr fr' : List AV} {k k' : Option Nat} {act act' : Act} {w1 : World} {C1 : Cx} {W : Nat} (hi : InvY A C J Jx sz0 fr k act w) (hF : FR [] C1 w1 fr' act'.tmps) (hb : ∀ b,C.I b -> w'.heap[b]? = w.heap[b]?) (hs : w.heap.size <= w'.heap.size)
  (hk : RegKept W act act') (hW : ∀ t,t < A.ps.length -> Nat.testBit W t = false) (hlen : fr'.length = fr.length) (st : match k' with | some k=>J k w' | none=>∃ k,k < A.n /\ Jx k w') : InvY A C J Jx sz0 (flatO W 0 fr fr') k' act' w':=by
 have hget : ∀ t,t < A.ps.length -> getL (flatO W 0 fr fr') t = getL A.ps t:=fun t ht=>by
  rw [get_flatO _ _ _ _ _ hlen.symm (by have:=hi.np; omega),Nat.zero_add,hW t ht]
  exact hi.ps t ht
 have hl2 : (flatO W 0 fr fr').length = fr'.length:=len_flatO _ _ _ _ hlen.symm
 refine ⟨⟨by rw [hl2,hF.len],fun t=>?_⟩,hget,by rw [hl2,hlen]; exact hi.np,Nat.le_trans hi.size hs,st,by rw [hk.2.2,hi.df]⟩
 by_cases ht : t < fr'.length
 ·rw [get_flatO _ _ _ _ _ hlen.symm ht,Nat.zero_add]
  cases hbt : Nat.testBit W t with
  | true=>exact .plain (flat_rel (hF.get t).1) (flat_ng _)
  | false =>
    simp only
    rw [hk.2.1 t hbt]
    exact (hi.F.get t).mono ⟨fun i p h=>h,fun b h=>h,hb⟩
 ·have e1 : getL (flatO W 0 fr fr') t = .tup []:=by rw [getL_eq,List.getD_eq_getElem?_getD,List.getElem?_eq_none (by rw [hl2]; omega)]; rfl
  have e2 : act'.tmps.getD t undef = undef:=by
   rw [Array.getD_eq_getD_getElem?,Array.getElem?_eq_none (by rw [<- hF.len]; omega)]; rfl
  rw [e1,e2]
  exact .plain (.tup _ _ .nil) trivial
theorem carry0 {l : Nat} (hc : YCtx P A C J Jx sz0 l) {fr : List AV} {k : Option Nat} {act : Act} (hi : InvY A C J Jx sz0 fr k act w) : InvY A C J Jx sz0 (flatL A.ps fr) k act w:=by
 have hget : ∀ t,t < A.ps.length -> getL (flatL A.ps fr) t = getL A.ps t:=fun t ht=>by
  rw [get_flat _ _ _ (by have:=hi.np; omega),if_pos ht]
 refine ⟨⟨by rw [len_flat,hi.F.len],fun t=>?_⟩,hget,by rw [len_flat]; exact hi.np,hi.size,hi.st,hi.df⟩
 by_cases ht : t < fr.length
 ·rw [get_flat _ _ _ ht]
  by_cases hp : t < A.ps.length
  ·rw [if_pos hp]
   have h1:=(hi.F.get t).1
   rw [hi.ps t hp] at h1
   exact .plain h1 (hc.ng t)
  ·rw [if_neg hp]
   exact .plain (flat_rel (hi.F.get t).1) (flat_ng _)
 ·have e1 : getL (flatL A.ps fr) t = .tup []:=by rw [getL_eq,List.getD_eq_getElem?_getD,List.getElem?_eq_none (by rw [len_flat]; omega)]; rfl
  have e2 : act.tmps.getD t undef = undef:=by
   rw [Array.getD_eq_getD_getElem?,Array.getElem?_eq_none (by rw [<- hi.F.len]; omega)]; rfl
  rw [e1,e2]
  exact .plain (.tup _ _ .nil) trivial
theorem preP_g : ∀ {l : List Oper},∀ o ∈ preP l,o.guard = none
 | [],o,ho=>by simp [preP] at ho
 | p :: l,o,ho=>by
   unfold preP at ho
   split at ho
   ·rename_i hp
    rcases List.mem_cons.1 ho with rfl | ho
    ·unfold pureO at hp; split at hp <;> first | assumption | cases hp
    ·exact preP_g o ho
   ·simp at ho
theorem preP_app : ∀ l : List Oper,preP l ++ resP l = l
 | []=>rfl
 | o :: l=>by
   unfold preP resP
   split
   ·simp [preP_app l]
   ·rfl
theorem pure_ops {all : List Oper} {R : AV -> Heap -> Prop} {F : Fence} {Q : Exit -> Act -> World -> Prop} {ds : Act -> Prop} {k : List AV -> VC} (hf : ∃ r,F = fen r) {n : Nat} (hilt : ∀ b,C.I b -> b < w.heap.size) {e : Nat} {tl : List Nat}
  (hgoal : ∀ fr' a',FR [] C w fr' a'.tmps -> ds a' -> (k fr').sat R -> wpOpsIn F n P all.toArray Q tl a' w) : ∀ (rest : List Oper) (s : Nat) (fr : List AV) (a : Act),(∀ i,i < rest.length -> all[s + i]? = rest[i]?) -> PutOK rest ds -> (∀ o ∈ rest,o.guard = none) -> FR [] C w fr a.tmps -> ds a -> (preK P all rest (allT rest) fr k).sat R ->
  wpOpsIn F n P all.toArray Q (List.range' s rest.length ++ tl) a w
 | [],s,fr,a,_,_,_,hF,hds,h=>by
   simp only [allT,preK] at h
   exact hgoal fr a hF hds h
 | o :: rest,s,fr,a,hd,hput,hg,hF,hds,h=>by
   obtain ⟨r,rfl⟩:=hf
   have ho : all[s]? = some o:=by simpa using hd 0 (by simp)
   have hao : all.toArray[s]? = some o:=by simpa using ho
   have hgo:=hg o (by simp)
   simp only [allT,preK] at h
   split at h
   ·exact h.elim
   ·rw [forceM_eq] at h
    split at h
    ·exact h.elim
    ·rename_i ps x hx
     obtain ⟨h1,h2⟩:=needs_sat h
     rw [forceD_eq,setK_eq] at h2
     obtain ⟨v,hv,hdf,hse,hrun⟩:=frVal_ok (w:=w) (C:=C) (σ:=a.eval) hilt (fun y=>sees_evM fr _ [] C w a hF y) (fun _=>rfl) hx h1
     have hF2 : FR [] C w (setO fr o.dst (noGd x)) (a.put o.dst v).tmps:=hF.put (.plain (rel_noGd hv) (notGd_noGd _)) _
     rw [List.length_cons,List.range'_succ,List.cons_append,wpOpsIn_cons]
     unfold wpOpIn
     simp only [hao]
     have hw : Region.wanted o (yielded all.toArray a.tmps) = true:=by unfold Region.wanted; rw [hgo]
     rw [hw]
     simp only [if_true]
     refine Ran.wpIn (.inl ⟨v,w,hrun w (fun _ _=>rfl),?_⟩)
     exact pure_ops ⟨r,rfl⟩ hilt (e:=e) hgoal rest (s + 1) _ _ (fun i hi=>by
      have:=hd (i + 1) (by simpa using hi)
      rw [show s + 1 + i = s + (i + 1) by omega]; simpa using this) (fun o' ho'=>hput o' (by simp [ho'])) (fun o' ho'=>hg o' (by simp [ho'])) hF2 (hput o (by simp) _ _ hds) h2
theorem inorder2 {T' : List Cnd} {all : List Oper} (hS : SumsOK P S) (hu : uniqOK all = true) {R : AV -> Heap -> Prop} {K : List AV -> Heap -> VC} {Q : Exit -> Act -> World -> Prop} {ds : Act -> Prop} {ro : Option Nat} {rm : Nat} :
  ∀ (rest : List Oper) (n : Nat) (T : List Cnd) (fr : List AV) (hp : Heap) (C : Cx) (w : World) (act : Act),all.drop n = rest -> PutOK rest ds -> TOK all T n fr -> S.lo <= hp.length -> HR C hp w -> FR T C w fr act.tmps ->
    (runOps P S false all none n rest T fr hp K).sat R -> ds act -> Goal P S R K Q C w ds -> wpOpsIn (fen ro) rm P all.toArray Q (List.range' n rest.length) act w:=by
 intro rest
 induction rest with
 | nil =>
   intro n T fr hp C w act hd hput ht hlo hH hF h hds hgoal
   simp only [runOps,cleanF_eq] at h
   exact hgoal _ _ C w act h hlo hH hF.clean (.refl _ _ _) hds
 | cons o rest ih =>
   intro n T fr hp C w act hd hput ht hlo hH hF h hds hgoal
   have hlt : n < all.length:=by
    rcases Nat.lt_or_ge n all.length with h | h
    ·exact h
    ·rw [List.drop_eq_nil_of_le h] at hd; cases hd
   have ho : all[n]? = some o:=by
    have:=List.getElem?_drop (xs:=all) (i:=n) (j:=0)
    rw [hd] at this; simpa using this.symm
   have hd' : all.drop (n + 1) = rest:=by
    rw [<- List.drop_drop,hd]; rfl
   have hao : all.toArray[n]? = some o:=by simpa using ho
   have hput' : PutOK rest ds:=fun o' ho'=>hput o' (by simp [ho'])
   have hpo:=hput o (by simp)
   have hwp : ∀ {T : List Cnd} {fr : List AV} {hp : Heap} {C' : Cx} {w' : World} {act' : Act},TOK all T (n + 1) fr -> S.lo <= hp.length -> HR C' hp w' -> FR T C' w' fr act'.tmps -> (runOps P S false all none (n + 1) rest T fr hp K).sat R ->
     ds act' -> Tr S.lo C w C' w' -> wpOpsIn (fen ro) rm P all.toArray Q (List.range' (n + 1) rest.length) act' w':=fun h1 h2 h3 h4 h5 h6 h7=>ih (n + 1) _ _ _ _ _ _ hd' hput' h1 h2 h3 h4 h5 h6 (hgoal.step h7)
   rw [List.length_cons,List.range'_succ]
   simp only [wpOpsIn,hao]
   rcases runOps_step hS hu ho ht h with ⟨i,T1,hst,ht1,hh⟩ | ⟨_,htu,hw,ρ,hρ,fr',hp',a,hbo,ht1,hh⟩ | ⟨hdr,_⟩
   ·have hF1:=hF.sub hst.sub
    have hfree:=hH.free i.new
    rcases run_info hst (.refl _) (act:=act) (hH.ext i.new) (fun i hi=>getB_append _ _ _ hi) hfree (fun x _=>evG_rel x fun t _=>hF1.get t) (fun d _=>hF1.get d) with ⟨hw,hr⟩ | ⟨hw,hr⟩
    ·rw [hw]
     simp only [if_true]
     refine Ran.wpIn (hr.mono fun v w' ⟨C',h1,h2,h3⟩=>?_)
     have hx:=h3.cext hfree.none hH.ilt
     exact hwp ht1 (by simp; omega) h1 ((hF1.mono hx).put h2 _) hh (hpo _ _ hds) (h3.tr hlo)
    ·rw [hw]
     simp only [Bool.false_eq_true,if_false]
     obtain ⟨C',h1,h2,h3⟩:=hr
     have hx:=h3.cext hfree.none hH.ilt
     refine ⟨fun _ _=>trivial,?_⟩
     exact hwp ht1 (by simp; omega) h1 ((hF1.mono hx).put h2 _) hh (hpo _ _ hds) (h3.tr hlo)
   ·have hwant : Region.wanted o (yielded all.toArray act.tmps) = true:=wanted_eq hw fun d _=>hF.get d
    rw [hwant]
    simp only [if_true]
    refine Ran.wpIn ((exec_big hS o htu hρ hH hF hlo hbo).mono fun v w' ⟨C',h1,h2,h3,h4⟩=>?_)
    exact hwp ht1 (Nat.le_trans hlo hbo.len) h1 (h3.put (.plain (rel_noGd h2) (notGd_noGd _)) _) hh (hpo _ _ hds) h4
   ·cases hdr
theorem letsOut_mono {Q Q' : Exit -> Act -> World -> Prop} (hQ : ∀ e a w,Q e a w -> Q' e a w) (h : LetsOut Q) : LetsOut Q':=h.elim fun a h=>h.elim fun w h=>⟨a,w,hQ _ _ _ h⟩
theorem wpIn_monoQ {F : Fence} {n : Nat} {o : Oper} {a : Act} {K : Act -> World -> Prop} {Q Q' : Exit -> Act -> World -> Prop} (hQ : ∀ e a w,Q e a w -> Q' e a w) (hh : o.wpIn F n P a w K Q) : o.wpIn F n P a w K Q':=by
 unfold Oper.wpIn at *
 refine ⟨hh.1,?_⟩
 have hh:=hh.2
 generalize (o.semAt F.round a.eval).run P w = r at *
 cases r with
 | ok x w' =>
   cases x <;> simp only [Oper.uponIn] at hh ⊢ <;>
    first
     | exact hh
     | exact hQ _ _ _ hh
     | exact ⟨hh.1,CallsIn.mono hh.2 (fun e w'' he=>by cases e <;> first | exact he | exact hQ _ _ _ he | exact letsOut_mono hQ he)⟩
     | exact ⟨hh.1,RowsIn.mono hh.2 (fun _ _ he=>he)⟩
     | exact ⟨hh.1,RoundIn.mono hh.2 (fun e w'' he=>by cases e <;> first | exact he | exact hQ _ _ _ he | exact letsOut_mono hQ he)⟩
 | halt x w'=>cases x <;> simp only [Oper.uponIn] at hh ⊢ <;> first | exact hh | exact hQ _ _ _ hh
theorem wpAny_monoQ {F : Fence} {n : Nat} {ops : Array Oper} {Q Q' : Exit -> Act -> World -> Prop} (hQ : ∀ e a w,Q e a w -> Q' e a w) : ∀ (fuel : Nat) (D : Array Bool) (a : Act) (w : World),wpAnyIn F n P .any ops Q fuel D a w -> wpAnyIn F n P .any ops Q' fuel D a w
 | 0,_,_,_,h=>⟨h.1,hQ _ _ _ h.2⟩
 | f + 1,D,a,w,h=>⟨fun hr=>hQ _ _ _ (h.1 hr),fun i hi=>by
   have h2:=wpOpIn_mono (fun a' w' h'=>wpAny_monoQ hQ f _ a' w' h') (h.2 i hi)
   unfold wpOpIn at h2 ⊢
   split
   ·rename_i ho; simp only [ho] at h2; exact h2
   ·rename_i o ho
    simp only [ho] at h2
    split
    ·rename_i hw; simp only [hw,if_true] at h2; exact wpIn_monoQ hQ h2
    ·rename_i hw; simp only [hw] at h2; exact h2⟩
theorem draw_any (hS : SumsOK P S) {ro : Option Nat} {rm : Nat} {ops : Array Oper} (hu : uniqOK ops.toList = true) (htmp : tmpOK ops.toList = true) (hback : Back ops.toList) {R : AV -> Heap -> Prop} {K : List AV -> Heap -> VC} {Q : Exit -> Act -> World -> Prop} {fr : List AV} {act : Act} {hp : Heap}
  (hlo : S.lo <= hp.length) (hH : HR C hp w) (hF : FR [] C w fr act.tmps) (h : (runOps P S true ops.toList none 0 ops.toList [] fr hp K).sat R) {ds : Act -> Prop} (hput : PutOK ops.toList ds) (hds : ds act) (hgoal : Goal P S R K Q C w ds) :
  wpAnyIn (fen ro) rm P .any ops Q ops.size (Array.replicate ops.size false) act { w with drawn:=w.drawn + 1 }:=by
 obtain ⟨L,T',hs,he⟩:=seg_run hS hu (s:=0) (T0:=[]) (fr0:=fr) (hp0:=hp) ops.toList [] [] ⟨by simp,.refl _,fun q hq=>by simp at hq⟩ (by simp) (fun k x hx=>by simp at hx) h
 have hsz : (Array.replicate ops.size false).size = ops.toList.length:=by simp
 have hno : ∀ i,¬ Lst (Array.replicate ops.size false) i:=fun i h=>by
  unfold Lst at h
  rw [Array.getD_eq_getD_getElem?,Array.getElem?_replicate] at h
  split at h <;> simp at h
 obtain ⟨r,hr⟩:=hps_app hp L L.length
 have hH1 : HR C hp { w with drawn:=w.drawn + 1 }:=HR.same (w:=w) rfl hH
 have hF1 : FR [] C { w with drawn:=w.drawn + 1 } fr act.tmps:=FR.mono (w:=w) (w':={ w with drawn:=w.drawn + 1 }) (.same rfl) hF
 have hunl : ∀ n,unl (fun i=>(Array.replicate ops.size false).getD i false) n <= n:=fun n=>by
  induction n with
  | zero=>exact Nat.le_refl _
  | succ n ih=>simp only [unl]; split <;> omega
 refine wpAny_monoQ (Q:=fun e a w=>(∀ c,e ≠ .panic c) /\ Q e a w) (fun e a w h=>h.2) _ _ _ _ ?_
 have:=wpAnyI_any _ _ _ _ <| (anyorder (Q:=fun e a w=>(∀ c,e ≠ .panic c) /\ Q e a w) hS hu htmp hback hput (ro:=ro) (rm:=rm) (fun c a w h=>h.1 c rfl) ops.size (fun _ _=>True) (fun _ _ _ _ _ _=>trivial)).1 (Array.replicate ops.size false) 0 [] fr hp L T' C { w with drawn:=w.drawn + 1 } act hs he
  ⟨hsz,fun i hi=>by omega,fun i _=>hno i,fun i o _ hl=>(hno i hl).elim,⟨by rw [hr]; exact hH1.ext r,fun q _ _ t _=>by
   obtain ⟨r',hr'⟩:=hps_app hp L q
   cases hc : C.ρ ((hps hp L q).length + t) with
   | none=>rfl
   | some p=>have:=hH1.lt hc; rw [hr'] at this; simp at this; omega,
   fun q _ hl=>(hno _ hl).elim,fun t _=>(hF1.get t).sub hs.sub,hF1.len⟩⟩ hlo (by have:=hunl ops.toList.length; simpa using this) hds (Goal.any fun fr' hp' C' w' act' h1 h2 h3 h4 h5 h6=>⟨fun c h=>by (cases h),(hgoal.step (.draw _ _ _ _)) fr' hp' C' w' act' h1 h2 h3 h4 h5 h6⟩)
 simpa using this
theorem tail_any {F : Fence} {n : Nat} {Q : Exit -> Act -> World -> Prop} {pre : List Oper} {y z : Oper} (hback : Back (pre ++ [y,z])) (hbar : barAt true (pre ++ [y,z]) pre.length = true) (hy : y.guard = none) (hz : z.guard = none) {D : Array Bool} (hs : D.size = (pre ++ [y,z]).length)
  (hcl : Closed (pre ++ [y,z]) (Lst D)) (hb : ∀ i,i < pre.length -> Lst D i) (hge : ∀ i,pre.length <= i -> ¬ Lst D i) {a : Act}
  (h : y.wpIn F n P a w (fun a2 w2=>z.wpIn F n P a2 w2 (fun a3 w3=>Q .normal a3 w3) Q) Q) : wpAnyIn F n P .any (pre ++ [y,z]).toArray Q 2 D a w:=by
 have hlen : (pre ++ [y,z]).length = pre.length + 2:=by simp
 have gy : (pre ++ [y,z])[pre.length]? = some y:=by simp
 have gz : (pre ++ [y,z])[pre.length + 1]? = some z:=by simp
 have hwy : ∀ f,Region.wanted y f = true:=fun f=>by unfold Region.wanted; rw [hy]
 have hwz : ∀ f,Region.wanted z f = true:=fun f=>by unfold Region.wanted; rw [hz]
 refine ⟨fun hr=>absurd (all_listed hback hs hr pre.length (by omega)) (hge _ (Nat.le_refl _)),fun i hir=>?_⟩
 obtain ⟨o,ho,hnl,hpre,hLst,hcl2,_,hsz⟩:=ready_facts hs hcl hir
 have hlt:=(List.getElem?_eq_some_iff.1 ho).1
 have hi : i = pre.length:=by
  rcases Nat.lt_trichotomy i pre.length with h1 | h1 | h1
  ·exact absurd (hb i h1) hnl
  ·exact h1
  ·exact absurd (ord_closed hback hcl _ _ ho hpre ((bar_spec hbar hlt).2 h1)) (hge _ (Nat.le_refl _))
 subst hi
 unfold wpOpIn
 rw [show (pre ++ [y,z]).toArray[pre.length]? = some y by simp]
 simp only [hwy,if_true]
 refine Oper.wpIn_mono (fun a2 w2 h2=>?_) h
 refine ⟨fun hr=>?_,fun i hir2=>?_⟩
 ·have:=all_listed hback hsz hr (pre.length + 1) (by omega)
  rcases (hLst _).1 this with h3 | h3
  ·exact absurd h3 (hge _ (by omega))
  ·omega
 obtain ⟨o2,ho2,hnl2,hpre2,hLst2,hcl3,_,hsz2⟩:=ready_facts hsz hcl2 hir2
 have hlt2:=(List.getElem?_eq_some_iff.1 ho2).1
 have hi2 : i = pre.length + 1:=by
  rcases Nat.lt_trichotomy i (pre.length + 1) with h1 | h1 | h1
  ·exfalso
   refine hnl2 ((hLst i).2 ?_)
   rcases Nat.lt_or_ge i pre.length with h3 | h3
   ·exact .inl (hb i h3)
   ·exact .inr (by omega)
  ·exact h1
  ·omega
 subst hi2
 unfold wpOpIn
 rw [show (pre ++ [y,z]).toArray[pre.length + 1]? = some z by simp]
 simp only [hwz,if_true]
 refine Oper.wpIn_mono (fun a3 w3 h3=>?_) h2
 refine ⟨?_,h3⟩
 cases hr : Region.ready .any (pre ++ [y,z]).toArray ((D.setIfInBounds pre.length true).setIfInBounds (pre.length + 1) true) with
 | nil=>rfl
 | cons i r =>
   exfalso
   have hm : i ∈ Region.ready .any (pre ++ [y,z]).toArray ((D.setIfInBounds pre.length true).setIfInBounds (pre.length + 1) true):=by rw [hr]; simp
   obtain ⟨o4,ho4,hnl4,_⟩:=ready_facts hsz2 hcl3 hm
   have hlt4:=(List.getElem?_eq_some_iff.1 ho4).1
   refine hnl4 ((hLst2 i).2 ?_)
   rcases Nat.lt_trichotomy i pre.length with h1 | h1 | h1
   ·exact .inl ((hLst i).2 (.inl (hb i h1)))
   ·exact .inl ((hLst i).2 (.inr h1))
   ·exact .inr (by omega)
end
end Abs
end Go.Proofs.YtlacopdaibhkkaaGreat

namespace Go.Proofs.YtlacopdaibhkkaaGreat
namespace Abs
open Go Go.RowKit
section
variable {P : Program} {S : Sums} {C C' : Cx} {w w' : World} {A : YA} {J Jx : Nat -> World -> Prop} {sz0 : Nat}
theorem calleeT_eq {op : Op} {d : Nat} {args : List Operand} (h : calleeT op = some (d,args)) : ∃ c,op = .call c /\ c.callee = .value (.tmp d) /\ c.args.toList = args:=by
 unfold calleeT at h
 split at h
 ·rename_i c
  split at h
  ·rename_i d' hd
   injection h with h; injection h with h1 h2; subst h1 h2
   exact ⟨c,rfl,hd,rfl⟩
  ·cases h
 ·cases h
theorem notT_eq {op : Op} {e : Nat} (h : notT op = some e) : ∃ t,op = .unOp .not t (.tmp e):=by
 unfold notT at h
 split at h
 ·injection h with h; subst h; exact ⟨_,rfl⟩
 ·cases h
theorem splitY_spec {ops : List Oper} {y : YCall} (h : splitY ops = some y) : ∃ oy oz,ops = ops.take (ops.length - 2) ++ [oy,oz] /\ 2 <= ops.length /\ calleeT oy.op = some (y.d,y.args) /\ notT oz.op = some y.yd /\ oy.dst = some y.yd /\ oz.dst = some y.zd /\ oy.guard = none /\ oz.guard = none /\ y.yd ≠ y.zd:=by
 unfold splitY at h
 split at h
 ·cases h
 ·rename_i oy oz hl
  obtain ⟨h1,h2⟩:=isYl_spec hl
  split at h
  ·rename_i d args e hc hn
   split at h
   ·rename_i yd zd e1 e2 e3 e4
    split at h
    ·rename_i hb
     injection h with h; subst h
     simp only [Bool.and_eq_true,Bool.not_eq_true'] at hb
     obtain ⟨⟨_,hb2⟩,hb3⟩:=hb
     obtain rfl:=Nat.eq_of_beq_eq_true hb2
     refine ⟨oy,oz,h2,h1,hc,hn,e1,e2,e3,e4,fun e=>?_⟩
     simp only at e
     rw [e] at hb3; simp at hb3
    ·cases h
   ·cases h
  ·cases h
theorem yield_two {l : Nat} (hc : YCtx P A C J Jx sz0 l) {R : AV -> Heap -> Prop} {Qv : List AV -> Option Nat -> VC} {fr fr1 : List AV} {k : Nat} {act a1 : Act} {w1 : World} {C1 : Cx} {ops : List Oper} {oy oz : Oper} {y : YCall} {Q : Act -> World -> Prop} {Q' : Exit -> Act -> World -> Prop}
  (hi : InvY A C J Jx sz0 fr (some k) act w) (hF : FR [] C1 w1 fr1 a1.tmps) (hH : HR C1 [] w1) (ht : Tr 0 C w C1 w1) (hk : RegKept (mskO ops) act a1) (hlen : fr1.length = fr.length) (hW : ∀ t,t < A.ps.length -> Nat.testBit (mskO ops) t = false)
  (e1 : calleeT oy.op = some (y.d,y.args)) (e2 : notT oz.op = some y.yd) (e3 : oy.dst = some y.yd) (e4 : oz.dst = some y.zd) (e5 : y.yd ≠ y.zd) (ho : PutOK [oy,oz] (RegKept (mskO ops) act)) (hlt : y.yd < act.tmps.size)
  (h : (yldK A (mskO ops) fr y fr1 k Qv).sat R) (hgoal : ∀ fr' k' act' w',(Qv fr' k').sat R -> InvY A C J Jx sz0 fr' k' act' w' -> Q act' w') :
  oy.wpIn (fen none) 0 P a1 w1 (fun a2 w2=>oz.wpIn (fen none) 0 P a2 w2 (fun a3 w3=>Q a3 w3) Q') Q':=by
 have hq:=tr_quiet hc.ρ hc.O ht
 have hb1 : ∀ b,C.I b -> w1.heap[b]? = w.heap[b]?:=fun b hb=>hq.keep b (Nat.lt_of_lt_of_le (hc.I b hb) hi.size)
 obtain ⟨hY,hkn,h⟩:=h
 simp only [forceLD_eq,forceL_eq] at h
 have h:=leLW_sat (leAF_sat 6) _ _ _ _ id h
 obtain ⟨h,himp⟩:=leL_sat h
 obtain ⟨c,hop,hcal,hargs⟩:=calleeT_eq e1
 obtain ⟨tz,hoz⟩:=notT_eq e2
 have hyv : a1.tmps.getD y.d undef = .func (.yield l) #[] #[]:=by
  have:=(hF.get y.d).1
  rw [show getL fr1 y.d = .v A.Y from hY] at this
  rw [<- hc.Y]
  generalize a1.tmps.getD y.d undef = v at this
  cases this; rfl
 have hvs : RelL C1 w1 (evL (ev fr1) y.args) (y.args.map a1.eval):=evL_rel fun x _=>(evG_rel x fun t _=>hF.get t).1
 have hvs2:=(himp C1 w1 hH).2 _ hvs
 have hρ1:=none_hr hH
 have hvs3 : RelL ⟨fun _=>none,C1.I,fun _=>none⟩ w1 (A.it k) (y.args.map a1.eval):=hvs2.mono ⟨fun i p hp=>(by
  unfold Cx.cut at hp
  simp only at hp
  split at hp
  ·rw [hρ1] at hp; cases hp
  ·cases hp),fun b hb=>(by
  rcases hb with hb | ⟨i,c,n,_,hb⟩
  ·exact hb
  ·rw [hρ1] at hb; cases hb),fun _ _=>rfl⟩
 obtain ⟨fn,tmps,asg,bd,hrun,hround⟩:=hc.hY k w w1 C1.I _ hkn hi.st hq ht.imm (fun b hb=>by
  rcases ht.imm' b hb with h1 | (h1 | ⟨x,h1⟩) | ⟨i,c,n,_,h1⟩
  ·exact .inl h1
  ·exact .inr ⟨h1,hH.ilt b hb⟩
  ·rw [hc.O] at h1; cases h1
  ·rw [hc.ρ] at h1; cases h1) hvs3
 have hsem : (oy.semAt (fen none).round a1.eval).run P w1 = .ok (.round l fn tmps asg bd) w1:=by
  have e : (⟨y.args.map a1.eval⟩ : Array Value) = #[] ++ c.args.map a1.eval:=by
   apply Array.ext'; simp [hargs]
  rw [e] at hrun
  have hev : a1.eval (.tmp y.d) = .func (.yield l) #[] #[]:=hyv
  rw [Oper.semAt_eq _ _ _ (by intro c' hc'; rw [hop] at hc'; cases hc')]
  unfold execOp
  rw [hop]
  simp only [resolve,hcal,hev,Deferred.ofValue]
  simpa [invoke] using hrun
 refine ⟨fun _ _=>trivial,?_⟩
 rw [hsem,Oper.uponIn_round]
 refine ⟨fun hh=>by simp [fen,Fence.wide] at hh,hround.mono ?_⟩
 rintro e w2 ⟨hb2,hs2,hres⟩
 have hb3 : ∀ b,C.I b -> w2.heap[b]? = w.heap[b]?:=fun b hb=>(hb2 b (ht.imm b hb |> fun _=>hb)).trans (hb1 b hb)
 have hs3 : w.heap.size <= w2.heap.size:=Nat.le_trans hq.size hs2
 have step : ∀ b : Bool,(match (if b then some (k + 1) else none : Option Nat) with | some k=>J k w2 | none=>∃ k,k < A.n /\ Jx k w2) ->
   (Qv (flatO (mskO ops) 0 fr (setL (setL fr1 y.yd (.lb b)) y.zd (.lb (!b)))) (if b then some (k + 1) else none)).sat R ->
   oz.wpIn (fen none) 0 P (a1.put oy.dst (.bool b)) w2 (fun a3 w3=>Q a3 w3) Q':=by
  intro b hst hsat
  have hF2 : FR [] C1 w1 (setL fr1 y.yd (.lb b)) (a1.put oy.dst (.bool b)).tmps:=by rw [e3]; exact hF.put (a:=.lb b) (.plain (.lb _) trivial) (some y.yd)
  have hF3 : FR [] C1 w1 (setL (setL fr1 y.yd (.lb b)) y.zd (.lb (!b))) ((a1.put oy.dst (.bool b)).put oz.dst (.bool (!b))).tmps:=by rw [e4]; exact hF2.put (a:=.lb (!b)) (.plain (.lb _) trivial) (some y.zd)
  have hget : (a1.put oy.dst (.bool b)).tmps.getD y.yd undef = .bool b:=by
   rw [put_get,e3,if_pos ⟨rfl,by rw [hk.1]; exact hlt⟩]
  refine Ran.wpIn (run_of_post (m:=Op.unary .not ((a1.put oy.dst (.bool b)).tmps.getD y.yd undef)) ?_ ⟨.bool (!b),w2,?_,?_⟩)
  ·obtain ⟨dst,op,type,pos,after,guard⟩:=oz
   simp only at hoz
   subst hoz
   rfl
  ·rw [hget]; simp [Op.unary]
  ·refine hgoal _ _ _ _ hsat (carry hc hi hF3 hb3 hs3 (W:=mskO ops) (ho oz (by simp) _ _ (ho oy (by simp) _ _ hk)) hW (by rw [len_setL,len_setL,hlen]) hst)
 obtain ⟨ht1,ht2⟩:=h
 simp only [setF_eq,flatOK_eq] at ht1 ht2
 rcases hres with ⟨rfl,hj⟩ | ⟨rfl,hj⟩
 ·refine step true hj ?_
  have : nadd k 1 = k + 1:=by unfold nadd; rfl
  rw [this] at ht1
  exact ht1
 ·exact step false ⟨k,hkn,hj⟩ (ht2 () trivial)
theorem mskO_bit {d : Nat} {o : Oper} {ops : List Oper} (h : o ∈ ops) (hd : o.dst = some d) : Nat.testBit (mskO ops) d = true:=mskO_mem hd h
theorem mskO_take {ops : List Oper} {n t : Nat} (h : Nat.testBit (mskO ops) t = false) : Nat.testBit (mskO (ops.take n)) t = false:=by
 induction ops generalizing n with
 | nil=>simpa using h
 | cons o l ih =>
   cases n with
   | zero=>simp [mskO]
   | succ n =>
     rw [List.take_succ_cons]
     simp only [mskO] at h ⊢
     cases hd : o.dst with
     | none=>rw [hd] at h; exact ih h
     | some d =>
       rw [hd] at h
       obtain ⟨h1,h2⟩:=msk_or h
       show Nat.testBit (Nat.shiftLeft 1 d ||| mskO (l.take n)) t = false
       rw [Nat.testBit_or,h1,ih h2]; rfl
theorem RegKept.take {ops : List Oper} {n : Nat} {a a' : Act} (h : RegKept (mskO (ops.take n)) a a') : RegKept (mskO ops) a a':=⟨h.1,fun t ht=>h.2.1 t (mskO_take ht),h.2.2⟩
theorem putOK_sub {l m : List Oper} {ds : Act -> Prop} (h : PutOK m ds) (hs : ∀ o ∈ l,o ∈ m) : PutOK l ds:=fun o ho=>h o (hs o ho)
theorem allLt_get {f : Nat -> Bool} {n : Nat} (h : allLt f n = true) : ∀ i,i < n -> f i = true:=fun i hi=>allLt_spec h i hi
theorem mskO_subT {l m : List Oper} (hs : ∀ o ∈ l,o ∈ m) {t : Nat} (h : Nat.testBit (mskO l) t = true) : Nat.testBit (mskO m) t = true:=by
 induction l with
 | nil=>simp [mskO] at h
 | cons o l ih =>
   simp only [mskO] at h
   cases hd : o.dst with
   | none=>rw [hd] at h; exact ih (fun o' ho'=>hs o' (by simp [ho'])) h
   | some d =>
     rw [hd] at h
     simp only at h
     by_cases e : t = d
     ·subst e; exact mskO_bit (hs o (by simp)) hd
     ·refine ih (fun o' ho'=>hs o' (by simp [ho'])) ?_
      cases hb : Nat.testBit (mskO l) t with
      | true=>rfl
      | false =>
        exfalso
        have h1 : Nat.testBit (Nat.shiftLeft 1 d) t = false:=by
         show Nat.testBit (1 <<< d) t = false
         rw [Nat.testBit_shiftLeft]
         by_cases hle : d <= t
         ·have h0 : t - d ≠ 0:=fun h=>e (Nat.le_antisymm (Nat.le_of_sub_eq_zero h) hle)
          cases hq : Nat.testBit 1 (t - d) with
          | true=>exact absurd (Nat.testBit_one_eq_true_iff_self_eq_zero.1 hq) h0
          | false=>simp
         ·simp [hle]
        have h2 : Nat.testBit (Nat.lor (Nat.shiftLeft 1 d) (mskO l)) t = (Nat.testBit (Nat.shiftLeft 1 d) t || Nat.testBit (mskO l) t):=Nat.testBit_or ..
        rw [h2,h1,hb] at h; cases h
theorem wpY_sound (hS : SumsOK P S) (hm : P.follows .mixedOrders = true) (hl0 : S.lo = 0) {l : Nat} (hc : YCtx P A C J Jx sz0 l) {R : AV -> Heap -> Prop} : ∀ (c : Code),codeY A.ps.length c = true -> ∀ (fr : List AV) (k : Option Nat) (Qv : AE -> List AV -> Option Nat -> VC) (act : Act) (w : World) (Q : Exit -> Act -> World -> Prop),
  InvY A C J Jx sz0 fr k act w -> (wpY P S A c fr k Qv).sat R -> (∀ e fr' k' act' w',(Qv e fr' k').sat R -> InvY A C J Jx sz0 fr' k' act' w' -> Q (exitOf e) act' w') -> c.wpIn (fen none) 0 P Q act w:=by
 have known : ∀ {fr : List AV} {k : Option Nat} {act : Act} {w : World},InvY A C J Jx sz0 fr k act w -> ∀ {d : Nat} {a : AV},A.ps.length <= d -> RelG [] C w a (act.tmps.getD d undef) -> InvY A C J Jx sz0 (setL fr d a) k act w:=fun {fr k act w} hi d a hd ha =>
  ⟨hi.F.known ha,fun t ht=>by
   rw [getL_set,if_neg (fun h=>by have:=h.1; omega)]; exact hi.ps t ht,by rw [len_setL]; exact hi.np,hi.size,hi.st,hi.df⟩
 intro c
 induction c with
 | skip =>
   intro _ fr k Qv act w Q hi h hgoal
   exact wpIn_skip (hgoal .normal fr k act w h hi)
 | region id ops dr =>
   intro hok fr k Qv act w Q hi h hgoal
   simp only [codeY,Bool.and_eq_true] at hok
   obtain ⟨hok,hW⟩:=hok
   have hW : ∀ t,t < A.ps.length -> Nat.testBit (mskO ops.toList) t = false:=fun t ht=>by simpa using allLt_get hW t ht
   have hH : HR C [] w:=hr_none hc.ρ hc.O fun b hb=>Nat.lt_of_lt_of_le (hc.I b hb) hi.size
   have hds : RegKept (mskO ops.toList) act act:=⟨rfl,fun _ _=>rfl,rfl⟩
   have hput:=regKept_put ops.toList act
   unfold wpY at h
   split at h
   ·rename_i hsp
    rw [hsp] at hok
    simp only [regOK,Bool.and_eq_true] at hok
    cases dr with
    | false =>
      simp only at h
      have happ:=preP_app ops.toList
      generalize hpr : preP ops.toList = pre at *
      generalize hrs : resP ops.toList = rest at *
      have hmw : ∀ {l : List Oper},(∀ o ∈ l,o ∈ ops.toList) -> ∀ t,t < A.ps.length -> Nat.testBit (mskO l) t = false:=fun {l} hl t ht=>by
       cases hb : Nat.testBit (mskO l) t with
       | false=>rfl
       | true =>
         have h1:=hW t ht
         rw [mskO_subT hl hb] at h1; cases h1
      have hpm : ∀ o ∈ pre,o ∈ ops.toList:=fun o ho=>by rw [<- happ]; exact List.mem_append_left _ ho
      have hrm : ∀ o ∈ rest,o ∈ ops.toList:=fun o ho=>by rw [<- happ]; exact List.mem_append_right _ ho
      have hlen : ops.size = pre.length + rest.length:=by rw [<- Array.length_toList,<- happ,List.length_append]
      apply wpIn_region
      rw [List.range_eq_range',hlen,<- List.range'_append_1]
      have hf0 : RegKept (mskO pre) act act:=⟨rfl,fun _ _=>rfl,rfl⟩
      have key:=pure_ops (all:=ops.toList) (F:=fen none) (n:=0) (Q:=Q) (ds:=RegKept (mskO pre) act) (R:=R) (e:=0) (tl:=List.range' (0 + pre.length) rest.length) ⟨_,rfl⟩ (fun b hb=>Nat.lt_of_lt_of_le (hc.I b hb) hi.size) (fun fr' a' hF' hd' hs'=>by
       rw [overK_eq] at hs'
       have hlen : fr'.length = fr.length:=by rw [hF'.len,hi.F.len,hd'.1]
       have hl2 : (overO (mskO pre) 0 fr fr').length = fr'.length:=len_overO _ _ _ _ hlen.symm
       have hi1 : InvY A C J Jx sz0 (overO (mskO pre) 0 fr fr') k a' w:=by
        refine ⟨⟨by rw [hl2,hF'.len],fun t=>?_⟩,fun t ht=>?_,by rw [hl2,hlen]; exact hi.np,hi.size,hi.st,by rw [hd'.2.2,hi.df]⟩
        ·by_cases ht : t < fr'.length
         ·rw [get_overO _ _ _ _ _ hlen.symm ht,Nat.zero_add]
          cases hbt : Nat.testBit (mskO pre) t with
          | true=>exact hF'.get t
          | false =>
            simp only
            rw [hd'.2.1 t hbt]
            exact hi.F.get t
         ·have e1 : getL (overO (mskO pre) 0 fr fr') t = .tup []:=by rw [getL_eq,List.getD_eq_getElem?_getD,List.getElem?_eq_none (by rw [hl2]; omega)]; rfl
          have e2 : a'.tmps.getD t undef = undef:=by
           rw [Array.getD_eq_getD_getElem?,Array.getElem?_eq_none (by rw [<- hF'.len]; omega)]; rfl
          rw [e1,e2]
          exact .plain (.tup _ _ .nil) trivial
        ·rw [get_overO _ _ _ _ _ hlen.symm (by have:=hi.np; omega),Nat.zero_add,hmw hpm t ht]
         exact hi.ps t ht
       generalize overO (mskO pre) 0 fr fr' = f1 at hs' hi1
       have hds1 : RegKept (mskO rest) a' a':=⟨rfl,fun _ _=>rfl,rfl⟩
       have hg : Goal P S R (endH (mskO rest) f1 fun f=>Qv .normal f k) Q C w (RegKept (mskO rest) a'):=by
        intro fr2 hp' C' w' act' h1 h2 h3 h4 h5 h6
        unfold endH at h1
        split at h1
        ·rw [flatOK_eq] at h1
         have hq:=tr_quiet hc.ρ hc.O h5
         refine hgoal .normal _ _ act' w' h1 (carry hc hi1 h4 (fun b hb=>hq.keep b (Nat.lt_of_lt_of_le (hc.I b hb) hi.size)) hq.size h6 (hmw hrm) (by rw [h4.len,hi1.F.len,h6.1]) ?_)
         have:=hi.st
         cases k with
         | some k=>exact hc.hJ _ _ _ this hq
         | none=>obtain ⟨j,hj,hx⟩:=this; exact ⟨j,hj,hc.hJx _ _ _ hx hq⟩
        ·exact h1.elim
       have hln : lenO pre = pre.length:=lenO_eq pre
       rw [hln] at hs'
       have:=inorder2 (T':=[]) (all:=ops.toList) hS hok.1 (ro:=none) (rm:=0) rest pre.length [] f1 [] C w a' (by rw [<- happ]; simp) (regKept_put rest a') (fun k x hx=>by simp at hx) (by rw [hl0]; exact Nat.zero_le _) hH hi1.F hs' hds1 hg
       rw [Nat.zero_add]; exact this) pre 0 fr act (fun i hi=>by rw [Nat.zero_add,<- happ,List.getElem?_append_left hi]) (regKept_put pre act) (fun o ho=>preP_g (l:=ops.toList) o (by rw [hpr]; exact ho)) hi.F hf0 h
      simpa using key
    | true =>
      have hg : Goal P S R (endH (mskO ops.toList) fr fun f=>Qv .normal f k) Q C w (RegKept (mskO ops.toList) act):=by
       intro fr' hp' C' w' act' h1 h2 h3 h4 h5 h6
       unfold endH at h1
       split at h1
       ·rw [flatOK_eq] at h1
        have hq:=tr_quiet hc.ρ hc.O h5
        refine hgoal .normal _ _ act' w' h1 (carry hc hi h4 (fun b hb=>hq.keep b (Nat.lt_of_lt_of_le (hc.I b hb) hi.size)) hq.size h6 hW (by rw [h4.len,hi.F.len,h6.1]) ?_)
        have:=hi.st
        cases k with
        | some k=>exact hc.hJ _ _ _ this hq
        | none=>obtain ⟨j,hj,hx⟩:=this; exact ⟨j,hj,hc.hJx _ _ _ hx hq⟩
       ·exact h1.elim
      have h2:=hok.2
      simp only [Bool.and_eq_true] at h2
      exact region_draw hS hm hok.1 h2.1 (back_spec h2.2) (by rw [hl0]; exact Nat.zero_le _) hH hi.F h hput hds hg
   ·rename_i y hsp
    rw [hsp] at hok
    simp only [Bool.and_eq_true] at hok
    obtain ⟨⟨hok,hback⟩,hbar⟩:=hok
    simp only [regOK,Bool.and_eq_true] at hok
    split at h
    case h_2=>exact h.elim
    rename_i k hblt
    have hlt : y.yd < act.tmps.size:=by rw [<- hi.F.len]; simpa [Nat.blt_eq] using hblt
    obtain ⟨oy,oz,hsplit,h2len,e1,e2,e3,e4,e5,e6,e7⟩:=splitY_spec hsp
    generalize hpre : ops.toList.take (ops.toList.length - 2) = pre at *
    have hplen : pre.length = ops.toList.length - 2:=by rw [<- hpre,List.length_take]; omega
    have hoy : oy ∈ ops.toList:=by rw [hsplit]; simp
    have hoz : oz ∈ ops.toList:=by rw [hsplit]; simp
    have hyd : A.ps.length <= y.yd:=by
     rcases Nat.lt_or_ge y.yd A.ps.length with hlt | hge
     ·have:=hW _ hlt; rw [mskO_bit hoy e3] at this; cases this
     ·exact hge
    let P1 : Act -> World -> Prop:=fun a1 w1=>∃ C1 fr1,HR C1 [] w1 /\ FR [] C1 w1 fr1 a1.tmps /\ Tr 0 C w C1 w1 /\ RegKept (mskO pre) act a1 /\ (yldK A (mskO ops.toList) fr y fr1 k fun f k'=>Qv .normal f k').sat R
    have hg : Goal P S R (yldH A (mskO ops.toList) fr y k fun f k'=>Qv .normal f k') (EndQ P1) C w (RegKept (mskO pre) act):=by
     intro fr' hp' C' w' act' h1 h2 h3 h4 h5 h6
     refine ⟨rfl,C',fr',?_,h4,by rw [<- hl0]; exact h5,h6,?_⟩
     ·cases hp' with
      | nil=>exact h3
      | cons b r=>exact h1.elim
     ·cases hp' with
      | nil=>exact h1
      | cons b r=>exact h1.elim
    have hdsp : RegKept (mskO pre) act act:=⟨rfl,fun _ _=>rfl,rfl⟩
    have htwo : ∀ a1 w1,P1 a1 w1 -> oy.wpIn (fen none) 0 P a1 w1 (fun a2 w2=>oz.wpIn (fen none) 0 P a2 w2 (fun a3 w3=>Q .normal a3 w3) Q) Q:=by
     rintro a1 w1 ⟨C1,fr1,q1,q2,q3,q4,q5⟩
     have q4' : RegKept (mskO ops.toList) act a1:=by rw [<- hpre] at q4; exact q4.take
     exact yield_two hc hi q2 q1 q3 q4' (by rw [q2.len,hi.F.len,q4.1]) hW e1 e2 e3 e4 e7 (putOK_sub hput fun o ho=>by
       simp at ho; rcases ho with rfl | rfl
       ·exact hoy
       ·exact hoz) hlt q5 fun fr' k' act' w' hs hinv=>hgoal .normal fr' k' act' w' hs hinv
    have hal : ops = (pre ++ [oy,oz]).toArray:=by rw [<- hsplit]
    have htk : (pre ++ [oy,oz]).take pre.length = pre:=by simp
    have hputp:=regKept_put pre act
    have hlo : S.lo <= ([] : Heap).length:=by rw [hl0]; exact Nat.zero_le _
    have h2:=hok.2
    cases dr with
    | true =>
      simp only [Bool.and_eq_true] at h2
      have hbk : Back (pre ++ [oy,oz]):=by rw [<- hsplit]; exact back_spec hback
      have hbr : barAt true (pre ++ [oy,oz]) pre.length = true:=by
       simp only at hbar
       rw [hsplit] at hbar
       rw [hplen,hsplit]; exact hbar
      apply wpIn_region_any hm
      rw [hal]
      have hd:=draw_any (ops:=pre.toArray) (w:=w) hS (ro:=none) (rm:=0) (by simpa using hok.1) (by simpa using h2.1) (by simpa using back_spec h2.2) hlo hH hi.F (by simpa using h) (by simpa using hputp) hdsp hg
      have:=any_prefix (F:=fen none) (n:=0) (P:=P) (P1:=P1) (Q:=Q) (all:=pre ++ [oy,oz]) (k:=pre.length) (m:=2) (by simp) (by rw [htk]; exact hok.1) hbk hbr
       (fun a1 w1 hp D hs hcl hb hge=>tail_any hbk hbr e5 e6 hs hcl hb hge (htwo a1 w1 hp)) pre.length (Array.replicate pre.length false) (Array.replicate (pre ++ [oy,oz]).length false) act { w with drawn:=w.drawn + 1 } (by simp) (by simp)
       (fun i o _ hl=>?_) (fun i hi=>?_) (fun i _ hl=>?_) ?_ ?_
      ·simpa using this
      ·exfalso
       unfold Lst at hl
       rw [Array.getD_eq_getD_getElem?,Array.getElem?_replicate] at hl
       split at hl <;> simp at hl
      ·rw [Array.getD_eq_getD_getElem?,Array.getD_eq_getD_getElem?,Array.getElem?_replicate,Array.getElem?_replicate,if_pos hi,if_pos (by simp; omega)]
      ·unfold Lst at hl
       rw [Array.getD_eq_getD_getElem?,Array.getElem?_replicate] at hl
       split at hl <;> simp at hl
      ·have key : ∀ q,q <= pre.length -> unl (fun i=>(Array.replicate pre.length false).getD i false) q = q:=by
        intro q
        induction q with
        | zero=>intro _; rfl
        | succ q ihq =>
          intro hq
          have : (Array.replicate pre.length false).getD q false = false:=by
           rw [Array.getD_eq_getD_getElem?,Array.getElem?_replicate]; split <;> rfl
          simp only [unl,this]
          rw [ihq (by omega)]; simp; omega
       exact key _ (Nat.le_refl _)
      ·rw [htk]; simpa using hd
    | false =>
      apply wpIn_region
      rw [hal]
      have hin:=inorder hS (all:=pre) hok.1 (K:=yldH A (mskO ops.toList) fr y k fun f k'=>Qv .normal f k') (Q:=EndQ P1) hputp (ro:=none) (rm:=0) pre 0 [] fr [] C w act (by simp) (fun k x hx=>by simp at hx) hlo hH hi.F h hdsp hg
      have hrg : List.range (pre ++ [oy,oz]).toArray.size = List.range' 0 pre.length ++ [pre.length,pre.length + 1]:=by
       rw [List.range_eq_range']
       have : (pre ++ [oy,oz]).toArray.size = pre.length + 2:=by simp
       rw [this,<- List.range'_append_1]
       simp [List.range'_succ]
      rw [hrg]
      refine opsIn_prefix (all:=pre ++ [oy,oz]) (k:=pre.length) (P1:=P1) (by simp) (by rw [htk]; exact hok.1) (fun a1 w1 hp=>?_) _ (fun i hi=>by simp [List.mem_range'] at hi; omega) act w (by rw [htk]; exact hin)
      have gy : (pre ++ [oy,oz]).toArray[pre.length]? = some oy:=by simp
      have gz : (pre ++ [oy,oz]).toArray[pre.length + 1]? = some oz:=by simp
      have hwy : ∀ f,Region.wanted oy f = true:=fun f=>by unfold Region.wanted; rw [e5]
      have hwz : ∀ f,Region.wanted oz f = true:=fun f=>by unfold Region.wanted; rw [e6]
      simp only [wpOpsIn,gy,gz,hwy,hwz,if_true]
      exact htwo a1 w1 hp
 | seq a b iha ihb =>
   intro hok fr k Qv act w Q hi h hgoal
   simp only [codeY,Bool.and_eq_true] at hok
   simp only [wpY] at h
   refine wpIn_seq (iha hok.1 fr k _ act w _ hi h ?_)
   intro e fr' k' act' w' h1 h2
   cases e with
   | normal=>exact ihb hok.2 fr' k' Qv act' w' Q h2 h1 hgoal
   | exit id=>exact hgoal (.exit id) fr' k' act' w' h1 h2
   | ret=>exact hgoal .ret fr' k' act' w' h1 h2
 | cond c a b iha ihb =>
   intro hok fr k Qv act w Q hi h hgoal
   simp only [codeY,Bool.and_eq_true] at hok
   simp only [wpY] at h
   split at h
   case h_2=>exact h.elim
   rename_i d
   split at h
   case h_2=>exact h.elim
   rename_i hdp
   have hdp : A.ps.length <= d:=Nat.le_of_ble_eq_true hdp
   unfold branchK at h
   have hd:=(hi.F.get d).1
   split at h
   ·rename_i hv
    rw [hv] at hd
    refine wpIn_cond_true (c:=.tmp d) ?_ (iha hok.1 fr k Qv act w Q hi h hgoal)
    show act.tmps.getD d undef = _
    generalize act.tmps.getD d undef = u at hd; cases hd; rfl
   ·rename_i hv
    rw [hv] at hd
    refine wpIn_cond_false (c:=.tmp d) ?_ (ihb hok.2 fr k Qv act w Q hi h hgoal)
    show act.tmps.getD d undef = _
    generalize act.tmps.getD d undef = u at hd; cases hd; rfl
   ·rename_i t hv
    rw [hv] at hd
    have hvt : act.tmps.getD d undef = .bool t:=by generalize act.tmps.getD d undef = u at hd; cases hd; rfl
    refine wpIn_cond_split (c:=.tmp d) hvt (fun ht=>?_) (fun ht=>?_)
    ·have h1:=h.1 ht
     rw [setF_eq] at h1
     exact iha hok.1 _ k Qv act w Q (known hi hdp (a:=.lb true) (.plain (by rw [hvt,ht]; exact .lb _) trivial)) h1 hgoal
    ·have h1:=h.2 ht
     rw [setF_eq] at h1
     exact ihb hok.2 _ k Qv act w Q (known hi hdp (a:=.lb false) (.plain (by rw [hvt,ht]; exact .lb _) trivial)) h1 hgoal
   ·exact h.elim
 | block id c ih =>
   intro hok fr k Qv act w Q hi h hgoal
   simp only [codeY] at hok
   simp only [wpY] at h
   refine wpIn_block (ih hok fr k _ act w _ hi h ?_)
   intro e fr' k' act' w' h1 h2
   cases e with
   | normal=>exact hgoal .normal fr' k' act' w' h1 h2
   | exit j =>
     simp only at h1
     show (if j = id then Q .normal act' w' else Q (.exit j) act' w')
     split at h1
     ·rename_i hj
      rw [if_pos (Nat.eq_of_beq_eq_true hj).symm]
      exact hgoal .normal fr' k' act' w' h1 h2
     ·rename_i hj
      rw [if_neg (fun e=>by subst e; simp at hj)]
      exact hgoal (.exit j) fr' k' act' w' h1 h2
   | ret=>exact hgoal .ret fr' k' act' w' h1 h2
 | loop c ih =>
   intro hok fr k Qv act w Q hi h hgoal
   simp only [codeY] at hok
   simp only [wpY] at h
   cases k with
   | none=>exact h.elim
   | some k =>
     obtain ⟨h0,h3⟩:=h
     have enter : ∀ {fr : List AV} {g : Nat} {act : Act} {w : World},(leLW (leAF 6 0 [] []) fr (A.fr g) (.need ⟨A.q,A.dat g⟩ .done)).sat R -> InvY A C J Jx sz0 fr (some g) act w -> A.q (A.dat g) /\ InvY A C J Jx sz0 (A.fr g) (some g) act w:=by
      intro fr g act w hle hi
      have hH : HR C [] w:=hr_none hc.ρ hc.O fun b hb=>Nat.lt_of_lt_of_le (hc.I b hb) hi.size
      have hle:=leLW_sat (leAF_sat 6) _ _ _ _ id hle
      obtain ⟨hq,himp⟩:=leL_sat hle
      have hln:=(himp C w hH).1
      refine ⟨hq.1,⟨by rw [<- hln]; exact hi.F.len,fun t=>?_⟩,fun t ht=>hc.fr g t ht,by rw [<- hln]; exact hi.np,hi.size,hi.st,hi.df⟩
      have h1:=leL_frame hle C w hH t _ (hi.F.get t).1
      refine ⟨h1.1.mono ⟨fun i p hp=>?_,fun b hb=>?_,fun _ _=>rfl⟩,fun k b e=>by obtain ⟨x,hx,_⟩:=h1.2 k b e; simp at hx⟩
      ·unfold Cx.cut at hp
       simp only at hp
       split at hp
       ·exact hp
       ·cases hp
      ·rcases hb with hb | ⟨i,c,n,_,hb⟩
       ·exact hb
       ·rw [hc.ρ] at hb; cases hb
     obtain ⟨hq,hi⟩:=enter h0 hi
     refine wpIn_loop_ghost (fun m a w1=>∃ g,A.n - g = m /\ A.q (A.dat g) /\ InvY A C J Jx sz0 (A.fr g) (some g) a w1) (A.n - k) ⟨k,rfl,hq,hi⟩ ?_
     rintro m a w1 ⟨g,rfl,hqg,hi⟩
     have h4:=h3 g hqg
     simp only [forceL_eq] at h4
     refine ih hok _ _ _ a w1 _ hi h4 ?_
     intro e fr' k' act' w' h1 h2
     cases e with
     | normal =>
       cases k' with
       | none=>exact h1.elim
       | some k' =>
         obtain ⟨⟨hlt,hgn⟩,h1⟩:=h1
         obtain ⟨hq',hi'⟩:=enter h1 h2
         simp only at hlt hgn
         exact ⟨A.n - k',by omega,k',rfl,hq',hi'⟩
     | exit id=>exact hgoal (.exit id) fr' k' act' w' h1 h2
     | ret=>exact hgoal .ret fr' k' act' w' h1 h2
 | exit id =>
   intro _ fr k Qv act w Q hi h hgoal
   exact wpIn_exit (hgoal (.exit id) fr k act w h hi)
 | ret =>
   intro _ fr k Qv act w Q hi h hgoal
   exact wpIn_ret (hgoal .ret fr k act w h hi)
 | _ =>
   intro hok
   cases hok
structure SpecI (shs : List Sh) where
 pre : DatL shs -> Prop
 n : DatL shs -> Nat
 it : DatL shs -> Nat -> List AV
noncomputable def mkIt (shs : List Sh) (sp : SpecI shs) : Iter:=fun caps=>match okShLN shs caps with
 | true=>decKLN shs caps fun x=>some ⟨appP (canShLN shs caps) [⟨sp.pre,x⟩],sp.n x,sp.it x⟩
 | false=>none
theorem IterOK.of (hS : SumsOK P S) (hm : P.follows .mixedOrders = true) (hl0 : S.lo = 0) {shs : List Sh} {sp : SpecI shs} {gf : FuncId} {fn : Func} {c : Code} (hf : P.funcs[gf]? = some fn) (hb : fn.body = some c) (hres : fn.results = #[]) (hok : codeY (shs.length + 1) c = true) (hany : noAny shs = true) (hn : shs.length + 1 <= fn.ntmps)
  {α : Type} {dat : DatL shs -> Nat -> α} {q : α -> Prop} {fr : Value -> DatL shs -> Nat -> List AV} (hfr : ∀ Y x g t,t < shs.length + 1 -> getL (fr Y x g) t = getL (.v Y :: encL shs x) t)
  (h : ∀ Y x,sp.pre x -> (wpYF P S ⟨.v Y :: encL shs x,Y,sp.n x,sp.it x,fr Y x,dat x,q⟩ fn).sat fun _ _=>True) : IterOK P gf (mkIt shs sp):=by
 intro caps x hx hpre C0 w lb hρ hI hlb l J Jx hJ hJx hY h0
 obtain ⟨C,hCρ,hCI,hO⟩ : ∃ C : Cx,C.ρ = C0.ρ /\ C.I = C0.I /\ ∀ b,C.O b = none:=⟨⟨C0.ρ,C0.I,fun _=>none⟩,rfl,rfl,fun _=>rfl⟩
 rw [<- hCρ] at hρ
 rw [<- hCI] at hI hY
 have hlb : RelL C w caps lb:=hlb.mono ⟨fun i p h=>by rw [hCρ]; exact h,fun b h=>by rw [hCI]; exact h,fun _ _=>rfl⟩
 unfold mkIt at hx
 simp only [okShLN_eq,decKLN_eq,canShLN_eq] at hx
 split at hx
 case h_2=>cases hx
 rename_i hsh
 rw [decKL_eq hsh] at hx
 injection hx with hx; subst hx
 obtain ⟨hp1,hp2⟩:=appP_mem hpre
 have hsp:=hp2 _ (List.mem_singleton.2 rfl)
 have hlb:=encL_dec (can_shL hsh hp1) hlb
 generalize decL shs caps = x at *
 have hv:=h (.func (.yield l) #[] #[]) x hsp
 refine callsIn_of_wp_marks (F:=fen none) (n:=0) hf hb trivial ?_ rfl
 unfold wpYF at hv
 simp only [hb,forceL_eq,flatK_eq] at hv
 let A : YA:=⟨.v (.func (.yield l) #[] #[]) :: encL shs x,.func (.yield l) #[] #[],sp.n x,sp.it x,fr (.func (.yield l) #[] #[]) x,dat x,q⟩
 have hA : A.ps = .v (.func (.yield l) #[] #[]) :: encL shs x:=rfl
 have hAl : A.ps.length = shs.length + 1:=by rw [hA]; simp [encL_len]
 have hps : RelL C w A.ps (.func (.yield l) #[] #[] :: lb):=.cons _ _ _ _ (.v _) hlb
 have hng : ∀ t,notGd (getL A.ps t):=fun t=>by
  rw [hA]
  cases t with
  | zero=>rw [getL_zero]; trivial
  | succ t=>rw [getL_succ]; exact encL_ng hany t
 have hc : YCtx P A C J Jx w.heap.size l:=⟨hρ,hO,hI,hng,fun g t ht=>hfr _ x g t (by rw [hAl] at ht; exact ht),rfl,hJ,hJx,hY⟩
 have hle:=hps.len
 have hpad : ∀ (l : List AV) (n : Nat),l.length <= n -> padL l n = l ++ List.replicate (n - l.length) (.tup []):=by
  intro l
  induction l with
  | nil =>
    intro n _
    induction n with
    | zero=>rfl
    | succ n ih=>simp only [padL,ih (by simp)]; simp [List.replicate_succ]
  | cons a l ih =>
    intro n hn
    cases n with
    | zero=>simp at hn
    | succ n=>simp only [padL,ih n (by simpa using hn)]; simp
 have hnl : A.ps.length <= fn.ntmps:=by omega
 generalize hvs : (.func (.yield l) #[] #[] :: lb : List Value) = vs at *
 have hF : FR [] C w (padL A.ps fn.ntmps) ((⟨vs⟩ : Array Value) ++ Array.replicate (fn.ntmps - (⟨vs⟩ : Array Value).size) undef):=by
  rw [hpad _ _ hnl]
  refine ⟨by simp [hle],fun t=>?_⟩
  rw [getL_eq,List.getD_eq_getElem?_getD,Array.getD_eq_getD_getElem?]
  by_cases ht : t < A.ps.length
  ·rw [List.getElem?_append_left ht,Array.getElem?_append_left (by simp; omega)]
   have h1 : A.ps[t]? = some (A.ps[t]'ht):=List.getElem?_eq_getElem _
   obtain ⟨v,h2,h3⟩:=hps.get h1
   rw [h1]
   simp only [List.getElem?_toArray,h2,Option.getD_some]
   refine .plain h3 ?_
   have:=hng t
   rwa [getL_eq,List.getD_eq_getElem?_getD,h1] at this
  ·rw [List.getElem?_append_right (by omega),Array.getElem?_append_right (by simp; omega)]
   refine .plain ?_ ?_
   ·have e1 : ((List.replicate (fn.ntmps - A.ps.length) (AV.tup []))[t - A.ps.length]?).getD (.tup []) = .tup []:=by
     rw [List.getElem?_replicate]; split <;> rfl
    have e2 : ((Array.replicate (fn.ntmps - (⟨vs⟩ : Array Value).size) undef)[t - (⟨vs⟩ : Array Value).size]?).getD undef = undef:=by
     rw [Array.getElem?_replicate]; split <;> rfl
    rw [e1,e2]
    exact .tup _ _ .nil
   ·rw [List.getElem?_replicate]; split <;> trivial
 have hplen : (padL A.ps fn.ntmps).length = fn.ntmps:=by rw [hpad _ _ hnl]; simp; omega
 have hget : ∀ t,t < A.ps.length -> getL (padL A.ps fn.ntmps) t = getL A.ps t:=fun t ht=>by
  rw [hpad _ _ hnl,getL_eq,getL_eq,List.getD_eq_getElem?_getD,List.getD_eq_getElem?_getD,List.getElem?_append_left ht]
 have hi0 : InvY A C J Jx w.heap.size (padL A.ps fn.ntmps) (some 0) ⟨(⟨vs⟩ : Array Value) ++ Array.replicate (fn.ntmps - (⟨vs⟩ : Array Value).size) undef,[]⟩ w :=
  ⟨hF,hget,by rw [hplen]; exact hnl,Nat.le_refl _,h0,rfl⟩
 have hi : InvY A C J Jx w.heap.size (flatL A.ps (padL A.ps fn.ntmps)) (some 0) ⟨(⟨vs⟩ : Array Value) ++ Array.replicate (fn.ntmps - (⟨vs⟩ : Array Value).size) undef,[]⟩ w :=
  carry0 hc hi0
 refine wpY_sound hS hm hl0 hc c (by rw [hAl]; exact hok) _ _ _ _ w _ hi hv ?_
 intro e fr' k' act' w' h1 h2
 have fin : (J (sp.n x) w' \/ ∃ k,k < sp.n x /\ Jx k w') -> LeavesInM (fen none) 0 P fn act'.tmps (fun e W'=>(∃ v,e = .returned v) /\ (J (sp.n x) W' \/ ∃ k,k < sp.n x /\ Jx k W')) act'.defers .returning w':=by
  intro hj
  rw [h2.df]
  refine ⟨.tuple #[],?_,⟨_,rfl⟩,hj⟩
  simp [results,hres]
 have st:=h2.st
 cases e with
 | exit id=>exact h1.elim
 | normal =>
   cases k' with
   | none=>exact fin (.inr st)
   | some k'=>exact fin (.inl (by have e : k' = sp.n x:=h1.1; rw [<- e]; exact st))
 | ret =>
   cases k' with
   | none=>exact fin (.inr st)
   | some k'=>exact fin (.inl (by have e : k' = sp.n x:=h1.1; rw [<- e]; exact st))
end
end Abs
end Go.Proofs.YtlacopdaibhkkaaGreat

namespace Go.Proofs.YtlacopdaibhkkaaGreat
namespace Abs
open Go Go.RowKit
noncomputable section
noncomputable def PS0 : Sums:=⟨[],[],0,[],[],[]⟩
theorem PS0_ok : SumsOK Tryz.prog PS0:=.nil _ _ _ (fun t ks h=>by cases h)
@[reducible] def lvlSh : Sh:=.slice 1 [.int .i64]
def lvS : Spec [lvlSh]:=⟨fun _=>True,fun ((n,el),_)=>.si .i64 (lvE n (fun k=>(el k).1))⟩
def lvI : DatL [lvlSh] -> Anns:=fun ((n,el),_)=>[
 (4,[],fun fr hp=>⟨Nat,fun g=>⟨frI [.k 4,.t 1,.k 10,.s (.si .i64 (icast g)),.t 10] fr,hp⟩,Nat × Nat,fun g=>(n,g),fun (n,g)=>g <= n /\ ∀ k,k < g -> lvB (fun k=>(el k).1) k = false,fun g=>nsub n g⟩)]
set_option maxRecDepth 100000 in
theorem lv_ok : FnSpec Tryz.prog 97 _ lvS:=by
 refine FnSpec.of PS0_ok mixed (U:=0) (I:=lvI) Tryz.func97 rfl (by kernel_rfl) rfl rfl (by decide +kernel) ?_
 rintro ⟨⟨n,el⟩,⟨⟩⟩ -
 obtain ⟨c,rfl⟩ : ∃ c : Nat -> Int,el = fun k=>(c k,()):=⟨fun k=>(el k).1,rfl⟩
 unfold FnSat
 conv=>arg 2; reduce
 simp [lvS,ElEq,getB,goneB,aliveB,and_assoc]
 have e : (fun k=>c k) = c:=rfl
 rw [e]
 refine ⟨fun h=>(lvE_6 (by omega)).symm,fun h1 h2=>⟨⟨0,rfl,by omega,fun k hk=>by omega⟩,fun g hg hall=>⟨fun hlt=>⟨hlt,fun h3=>(lvE_3 (by omega) (by omega) hlt h3).symm,fun h3 h4=>⟨by omega,by omega,g + 1,by omega,by omega,fun k hk=>?_,by omega⟩⟩,fun hge=>(lvE_0.2 ⟨by omega,by omega,fun k hk=>lvB_f.1 (hall k (by omega))⟩).symm⟩⟩⟩
 by_cases hk' : k = g
 ·subst hk'; exact lvB_f.2 ⟨h3,h4⟩
 ·exact hall k (by omega)
def amS : Spec [.int .i64]:=⟨fun ((x : Int),_)=>-9223372036854775807 <= x /\ x <= 9223372036854775807,fun ((x : Int),_)=>.si .i64 (amt x)⟩
set_option maxRecDepth 100000 in
theorem am_ok : FnSpec Tryz.prog 63 _ amS:=by
 refine FnSpec.of PS0_ok mixed (U:=0) (I:=fun _=>[]) Tryz.func63 rfl (by kernel_rfl) rfl rfl (by decide +kernel) ?_
 rintro ⟨(x : Int),⟨⟩⟩ ⟨(h1 : -9223372036854775807 <= x),(h2 : x <= 9223372036854775807)⟩
 unfold FnSat
 conv=>arg 2; reduce
 simp [amS]
 omega
noncomputable def S1 : Sums:=⟨(63,mkSum _ amS) :: (97,mkSum _ lvS) :: PS0.one,PS0.two,PS0.lo,PS0.eqs,PS0.its,PS0.imm⟩
theorem S1_ok : SumsOK Tryz.prog S1:=((PS0_ok.cons Tryz.func97 (by kernel_rfl) (by kernel_rfl) lv_ok).cons Tryz.func63 (by kernel_rfl) (by kernel_rfl) am_ok)
@[reducible] def tkSh : Sh:=.agg [lvlSh,.int .i64,.int .i64]
def bdS : Spec [tkSh]:=⟨fun _=>True,fun (((n,el),(lo : Int),(hi : Int),_),_)=>.si .i64 (bdE n (fun k=>(el k).1) lo hi)⟩
set_option maxRecDepth 100000 in
theorem bd_ok : FnSpec Tryz.prog 60 _ bdS:=by
 refine FnSpec.of S1_ok mixed (U:=0) (I:=fun _=>[]) Tryz.func60 rfl (by kernel_rfl) rfl rfl (by decide +kernel) ?_
 rintro ⟨⟨⟨n,el⟩,(lo : Int),(hi : Int),⟨⟩⟩,⟨⟩⟩ -
 obtain ⟨c,rfl⟩ : ∃ c : Nat -> Int,el = fun k=>(c k,()):=⟨fun k=>(el k).1,rfl⟩
 unfold FnSat
 conv=>arg 2; reduce
 simp [bdS,lvS,and_assoc]
 have e : (fun k=>c k) = c:=rfl
 rw [e]
 refine ⟨fun h=>(bdE_lv h).symm,fun h=>⟨fun h1=>(bdE_2 h (by omega)).symm,fun h1 h2 h3=>(bdE_0.2 ⟨h,by omega⟩).symm⟩⟩
def mvS : Spec [lvlSh,lvlSh]:=⟨fun _=>True,fun (c,f,_)=>.fn (.func 141) [] [.xp [enc lvlSh c],.xp [enc lvlSh f]]⟩
set_option maxRecDepth 100000 in
theorem mv_ok : FnSpec Tryz.prog 124 _ mvS:=by
 refine FnSpec.of S1_ok mixed (U:=0) (I:=fun _=>[]) Tryz.func124 rfl (by kernel_rfl) rfl rfl (by decide +kernel) ?_
 rintro ⟨⟨n,el⟩,⟨m,f'⟩,⟨⟩⟩ -
 unfold FnSat
 conv=>arg 2; reduce
 simp [mvS,enc,encL,ownIn,ownIn.ownInL,fnEq,getB,goneB,aliveB,dropL,ElEq]
 trace_state
def poS : Spec [tkSh]:=⟨fun (((n,el),(lo : Int),(hi : Int),_),_)=>n <= 16 /\ 0 <= lo /\ lo <= 100 /\ 0 <= hi /\ hi <= 100 /\ ∀ k,k < n -> 0 <= (el k).1 /\ (el k).1 <= 100,fun (((n,el),(lo : Int),(hi : Int),_),_)=>.sb (posB n (fun k=>(el k).1) lo hi)⟩
def poI : DatL [tkSh] -> Anns:=fun (((n,el),(lo : Int),(hi : Int),_),_)=>[
 (3,[],fun fr hp=>⟨Nat,fun g=>⟨frI [.k 3,.s (.si .i64 (sumN (fun k=>(el k).1) g)),.k 1,.t 1,.k 3,.s (.si .i64 (icast g)),.t 25] fr,hp⟩,Nat × Nat,fun g=>(n,g),fun (n,g)=>g <= n,fun g=>nsub n g⟩)]
set_option maxRecDepth 100000 in
theorem po_ok : FnSpec Tryz.prog 61 _ poS:=by
 refine FnSpec.of S1_ok mixed (U:=0) (I:=poI) Tryz.func61 rfl (by kernel_rfl) rfl rfl (by decide +kernel) ?_
 rintro ⟨⟨⟨n,el⟩,(lo : Int),(hi : Int),⟨⟩⟩,⟨⟩⟩ ⟨(hn : n <= 16),(h1 : 0 <= lo),(h2 : lo <= 100),(h3 : 0 <= hi),(h4 : hi <= 100),(h5 : ∀ k,k < n -> 0 <= (el k).1 /\ (el k).1 <= 100)⟩
 obtain ⟨c,rfl⟩ : ∃ c : Nat -> Int,el = fun k=>(c k,()):=⟨fun k=>(el k).1,rfl⟩
 have h5 : ∀ k,k < n -> 0 <= c k /\ c k <= 100:=h5
 unfold FnSat
 conv=>arg 2; reduce
 simp [poS,ElEq,getB,goneB,aliveB,and_assoc]
 have e : (fun k=>c k) = c:=rfl
 rw [e]
 have q1 : ∀ z : Int,0 <= z -> z <= 100 -> 0 <= z * (n : Int) /\ z * (n : Int) <= 1600:=fun z z0 z1=>by
  have:=Int.mul_nonneg z0 (Int.natCast_nonneg n)
  have h2 : z * (n : Int) <= 100 * (n : Int):=Int.mul_le_mul_of_nonneg_right z1 (Int.natCast_nonneg n)
  omega
 have q2:=q1 lo h1 h2
 have q3:=q1 hi h3 h4
 refine ⟨⟨0,by simp,rfl,by omega⟩,fun g hg=>⟨fun hlt=>?_,fun hge=>?_⟩⟩
 ·have a1:=h5 g hlt
  have a2:=sumN_in (c:=c) (M:=100) (n:=g) fun k hk=>by have:=h5 k (by omega); omega
  exact ⟨hlt,by omega,by omega,by omega,by omega,g + 1,by simp,by omega,by omega,by omega⟩
 ·obtain rfl : g = n:=by omega
  exact ⟨by omega,by omega,fun _=>⟨by omega,by omega⟩,rfl⟩
def cnS : Spec [lvlSh]:=⟨fun ((m,f),_)=>m <= 30 /\ ∀ k,k < m -> -2000 <= (f k).1 /\ (f k).1 <= 2000,fun ((m,f),_)=>.tup [.si .i64 (movN (fun k=>(f k).1) m),.si .i64 (tckN (fun k=>(f k).1) m)]⟩
def cnI : DatL [lvlSh] -> Anns:=fun ((m,f),_)=>[
 (2,[],fun fr hp=>⟨Nat,fun g=>⟨frI [.k 2,.s (.si .i64 (movN (fun k=>(f k).1) g)),.s (.si .i64 (tckN (fun k=>(f k).1) g)),.k 1,.t 1,.k 2,.s (.si .i64 (icast g)),.t 14] fr,hp⟩,Nat × Nat,fun g=>(m,g),fun (m,g)=>g <= m,fun g=>nsub m g⟩)]
set_option maxRecDepth 100000 in
theorem cn_ok : FnSpec Tryz.prog 64 _ cnS:=by
 refine FnSpec.of S1_ok mixed (U:=0) (I:=cnI) Tryz.func64 rfl (by kernel_rfl) rfl rfl (by decide +kernel) ?_
 rintro ⟨⟨m,f'⟩,⟨⟩⟩ ⟨(hm : m <= 30),(h : ∀ k,k < m -> -2000 <= (f' k).1 /\ (f' k).1 <= 2000)⟩
 obtain ⟨f,rfl⟩ : ∃ f : Nat -> Int,f' = fun k=>(f k,()):=⟨fun k=>(f' k).1,rfl⟩
 unfold FnSat
 conv=>arg 2; reduce
 have h : ∀ k,k < m -> -2000 <= f k /\ f k <= 2000:=h
 simp [cnS,amS,ElEq,getB,goneB,aliveB,and_assoc]
 have e : (fun k=>f k) = f:=rfl
 rw [e]
 refine ⟨⟨0,by simp,by simp,rfl,by omega⟩,fun g hg=>⟨fun hlt=>?_,fun hge=>?_⟩⟩
 ·have h1:=h g hlt
  have h2:=movN_in (f:=f) (M:=2000) (m:=g) fun k hk=>h k (by omega)
  exact ⟨hlt,by omega,by omega,by omega,by omega,by omega,by omega,by omega,by omega,g + 1,by simp,by simp,by omega,by omega,by omega⟩
 ·obtain rfl : g = m:=by omega
  exact ⟨rfl,rfl⟩
noncomputable def S2 : Sums:=⟨(64,mkSum _ cnS) :: (61,mkSum _ poS) :: (60,mkSum _ bdS) :: (124,mkSum _ mvS) :: S1.one,S1.two,S1.lo,S1.eqs,S1.its,S1.imm⟩
theorem S2_ok : SumsOK Tryz.prog S2:=((((S1_ok.cons Tryz.func124 (by kernel_rfl) (by kernel_rfl) mv_ok).cons Tryz.func60 (by kernel_rfl) (by kernel_rfl) bd_ok).cons Tryz.func61 (by kernel_rfl) (by kernel_rfl) po_ok).cons Tryz.func64 (by kernel_rfl) (by kernel_rfl) cn_ok)
end
end Abs
end Go.Proofs.YtlacopdaibhkkaaGreat

namespace Go.Proofs.YtlacopdaibhkkaaGreat
namespace Abs
open Go
@[irreducible] def outX (c0 f lo : Int) (d : Nat) : Int:=c0 + f - (lo + d)
@[simp] theorem outX_eq (c0 f lo : Int) (d : Nat) : outX c0 f lo d = c0 + f - (lo + d):=by unfold outX; rfl
def bst0 (c0 f lo : Int) (nx : Nat -> Int) : Nat -> Int
 | 0=>1073741824
 | d + 1=>if -1600 <= outX c0 f lo d /\ outX c0 f lo d <= 1600 then min (bst0 c0 f lo nx d) (amt (outX c0 f lo d) + nx (outX c0 f lo d + 1600).toNat) else bst0 c0 f lo nx d
@[irreducible] def bstN (c0 f lo : Int) (nx : Nat -> Int) (d : Nat) : Int:=bst0 c0 f lo nx d
@[simp] theorem bstN_zero (c0 f lo : Int) (nx : Nat -> Int) : bstN c0 f lo nx 0 = 1073741824:=by unfold bstN; rfl
theorem bstN_in {c0 f lo : Int} {nx : Nat -> Int} {d : Nat} {o : Int} (e : o = c0 + f - (lo + d)) (h1 : -1600 <= o) (h2 : o <= 1600) : bstN c0 f lo nx (d + 1) = min (bstN c0 f lo nx d) (max o (-o) + nx (o + 1600).toNat):=by
 unfold bstN; rw [bst0,if_pos (by simp; omega)]; simp only [outX_eq,amt_eq,<- e]
theorem bstN_out {c0 f lo : Int} {nx : Nat -> Int} {d : Nat} {o : Int} (e : o = c0 + f - (lo + d)) (h1 : o < -1600 \/ 1600 < o) : bstN c0 f lo nx (d + 1) = bstN c0 f lo nx d:=by
 unfold bstN; rw [bst0,if_neg (by simp; omega)]
theorem bstN_b {c0 f lo : Int} {nx : Nat -> Int} (h : ∀ k,k < 3201 -> 0 <= nx k) : ∀ d : Nat,0 <= bstN c0 f lo nx d /\ bstN c0 f lo nx d <= 1073741824
 | 0=>by simp
 | d + 1=>by
   have ih:=bstN_b (c0:=c0) (f:=f) (lo:=lo) h d
   by_cases hc : -1600 <= c0 + f - (lo + d) /\ c0 + f - (lo + d) <= 1600
   ·rw [bstN_in rfl hc.1 hc.2]
    have:=h (c0 + f - (lo + d) + 1600).toNat (by omega)
    omega
   ·rw [bstN_out rfl (by omega)]; exact ih
@[irreducible] def endT (k : Nat) : Int:=if k < 3201 then (if k = 1600 then 0 else 1073741824) else 0
def tab0 (n : Nat) (c : Nat -> Int) (lo hi : Int) : Nat -> Nat -> Int
 | 0,k=>endT k
 | d + 1,k=>if k < 3201 then bstN (c (n - 1 - d)) ((k : Int) - 1600) lo (tab0 n c lo hi d) (hi - lo + 1).toNat else 0
@[irreducible] def tab (n : Nat) (c : Nat -> Int) (lo hi : Int) (i k : Nat) : Int:=tab0 n c lo hi (n - i) k
theorem tab_end {n : Nat} {c : Nat -> Int} {lo hi : Int} {k : Nat} : tab n c lo hi n k = endT k:=by unfold tab; rw [Nat.sub_self]; rfl
theorem tab_at {n : Nat} {c : Nat -> Int} {lo hi : Int} {i k : Nat} (h : i < n) (hk : k < 3201) : tab n c lo hi i k = bstN (c i) ((k : Int) - 1600) lo (tab n c lo hi (i + 1)) (hi - lo + 1).toNat:=by
 unfold tab
 obtain ⟨d,e⟩ : ∃ d,n - i = d + 1:=⟨n - i - 1,by omega⟩
 rw [e,tab0,if_pos hk,show n - 1 - d = i by omega,show n - (i + 1) = d by omega]
theorem tab_far {n : Nat} {c : Nat -> Int} {lo hi : Int} {i k : Nat} (h : i <= n) (hk : 3201 <= k) : tab n c lo hi i k = 0:=by
 unfold tab
 cases n - i with
 | zero=>unfold tab0 endT; rw [if_neg (by omega)]
 | succ d=>rw [tab0,if_neg (by omega)]
theorem tab_b {n : Nat} {c : Nat -> Int} {lo hi : Int} : ∀ {d i : Nat},n - i = d -> ∀ k,0 <= tab n c lo hi i k /\ tab n c lo hi i k <= 1073741824
 | 0,i,h,k=>by
   unfold tab; rw [h]; unfold tab0 endT
   split
   ·split <;> omega
   ·omega
 | d + 1,i,h,k=>by
   by_cases hk : k < 3201
   ·rw [tab_at (by omega) hk]
    exact bstN_b (fun k _=>(tab_b (d:=d) (i:=i + 1) (by omega) k).1) _
   ·rw [tab_far (by omega) (by omega)]; omega
@[irreducible] def filT (T : Nat -> Int) (g j : Nat) : Int:=if j < g then T j else 0
theorem filT_zero (T : Nat -> Int) (j : Nat) : filT T 0 j = 0:=by unfold filT; rw [if_neg (by omega)]
theorem filT_in {T : Nat -> Int} {g j : Nat} (h : j < g) : filT T g j = T j:=by unfold filT; rw [if_pos h]
theorem filT_out {T : Nat -> Int} {g j : Nat} (h : g <= j) : filT T g j = 0:=by unfold filT; rw [if_neg (by omega)]
@[irreducible] def lenT (g k : Nat) : Nat:=if g <= k then 3201 else 0
theorem lenT_in {g k : Nat} (h : g <= k) : lenT g k = 3201:=by unfold lenT; rw [if_pos h]
theorem lenT_out {g k : Nat} (h : k < g) : lenT g k = 0:=by unfold lenT; rw [if_neg (by omega)]
end Abs
end Go.Proofs.YtlacopdaibhkkaaGreat

namespace Go.Proofs.YtlacopdaibhkkaaGreat
namespace Abs
open Go Go.RowKit
noncomputable section
theorem zero98 : ZeroIs Tryz.prog (155,3201,.li .i64 0):=⟨by kernel_rfl,rfl⟩
theorem big98 : bigT Tryz.prog 155 = some (3201,.li .i64 0):=by kernel_rfl
noncomputable def S3 : Sums:=⟨S2.one,S2.two,S2.lo,[(155 + 1048576,[])],S2.its,[113]⟩
theorem S3_ok : SumsOK Tryz.prog S3:=(S2_ok.setImm _).setEqs fun t ks h=>by
 simp only [findS] at h
 split at h
 ·rename_i e
  obtain rfl:=Nat.eq_of_beq_eq_true e
  exact EqOK.zero big98 zero98
 ·cases h
theorem sel_fil {T : Nat -> Int} {g : Nat} {v : Int} (h : v = T g) (j : Nat) : selMI 0 g 0 j v (filT T g j) = filT T (g + 1) j:=by
 unfold selMI
 by_cases hjg : j = g
 ·subst hjg; rw [if_pos ⟨rfl,rfl⟩,filT_in (by omega),h]
 ·rw [if_neg (by omega)]
  by_cases hl : j < g
  ·rw [filT_in hl,filT_in (by omega)]
  ·rw [filT_out (by omega),filT_out (by omega)]
def tbS : Spec [tkSh]:=⟨fun (((n,el),(lo : Int),(hi : Int),_),_)=>1 <= n /\ n <= 16 /\ 0 <= lo /\ lo <= hi /\ hi <= 100 /\ ∀ k,k < n -> 0 <= (el k).1 /\ (el k).1 <= 100,
 fun (((n,el),(lo : Int),(hi : Int),_),_)=>.slc (.sym (nadd n 1)) 1 (fun i=>[.pa 3201 1 (fun k=>[.si .i64 (tab n (fun k=>(el k).1) lo hi i k)])])⟩
def tbI : DatL [tkSh] -> Anns:=fun (((n,el),(lo : Int),(hi : Int),_),_)=>[
 (4,[],fun fr hp=>⟨Nat,fun g=>⟨frI [.k 5,.t 1,.k 13,.s (.si .i64 (icast g)),.t 79] fr,setB hp 1 (.mat 155 3201 (.lit 1) (fun _ j=>.si .i64 (filT (fun _=>1073741824) g j)))⟩,Nat,fun g=>g,fun g=>g <= 3201,fun g=>nsub 3201 g⟩),
 (2097152 + 9,[(4,0,0)],fun _ _=>⟨Unit,fun _=>⟨[],[]⟩,Unit,fun _=>(),fun _=>True,fun _=>0⟩),
 (11,[],fun fr hp=>⟨Nat,fun g=>⟨frI [.k 4,.t 2,.s (.si .i64 (isub (icast g) 1)),.t 92] fr,setB hp 0 (.row 118 1 (.sym (nadd n 1)) (fun k=>[.pa (lenT g k) 1 (fun q=>[.si .i64 (tab n (fun k=>(el k).1) lo hi k q)])]))⟩,Nat × Nat,fun g=>(g,n),fun (g,n)=>g <= n,fun g=>g⟩),
 (15,[],fun fr hp=>⟨Nat,fun g=>⟨frI [.k 9,.s (.si .i64 (isub (icast g) 1600)),.t 89] fr,setB hp 2 (.mat 155 3201 (.lit 1) (fun _ j=>.si .i64 (filT (tab n (fun k=>(el k).1) lo hi (nat (intOf (getL fr 6)))) g j)))⟩,Nat,fun g=>g,fun g=>g <= 3201,fun g=>nsub 3201 g⟩),
 (19,[],fun fr hp=>⟨Nat,fun d=>⟨frI [.k 10,.s (.si .i64 (bstN (el (nat (intOf (getL fr 6)))).1 (intOf (getL fr 9)) lo (tab n (fun k=>(el k).1) lo hi (nadd (nat (intOf (getL fr 6))) 1)) d)),.s (.si .i64 (iadd lo (icast d))),.t 87] fr,hp⟩,Nat × Int × Int,fun d=>(d,lo,hi),fun (d,(lo : Int),(hi : Int))=>lo + d <= hi + 1,fun d=>nsub (nat (iadd (isub hi lo) 1)) d⟩),
 (2097152 + 25,[(7,0,0)],fun _ _=>⟨Unit,fun _=>⟨[],[]⟩,Unit,fun _=>(),fun _=>True,fun _=>0⟩)]
set_option maxRecDepth 100000 in
set_option maxHeartbeats 2000000 in
theorem tb_ok : FnSpec Tryz.prog 62 _ tbS:=by
 refine FnSpec.of S3_ok mixed (U:=0) (I:=tbI) Tryz.func62 rfl (by kernel_rfl) rfl rfl (by decide +kernel) ?_
 rintro ⟨⟨⟨n,el⟩,(lo : Int),(hi : Int),⟨⟩⟩,⟨⟩⟩ ⟨(h0 : 1 <= n),(hn : n <= 16),(h1 : 0 <= lo),(h2 : lo <= hi),(h3 : hi <= 100),(h5 : ∀ k,k < n -> 0 <= (el k).1 /\ (el k).1 <= 100)⟩
 obtain ⟨c,rfl⟩ : ∃ c : Nat -> Int,el = fun k=>(c k,()):=⟨fun k=>(el k).1,rfl⟩
 have h5 : ∀ k,k < n -> 0 <= c k /\ c k <= 100:=h5
 unfold FnSat
 conv=>arg 2; reduce
 simp [tbS,amS,ElEq,MatEq,getB,goneB,aliveB,maxRow,and_assoc]
 have e : (fun k=>c k) = c:=rfl
 simp only [e]
 refine ⟨by omega,by omega,by omega,by omega,⟨0,rfl,fun j hj=>(filT_zero _ j).symm,by omega⟩,fun g hg=>⟨fun hlt=>⟨hlt,by omega,by omega,by omega,g + 1,by omega,fun j hj=>?_,by omega,by omega⟩,fun hge=>?_⟩⟩
 ·exact sel_fil (T:=fun _=>1073741824) rfl j
 obtain rfl : g = 3201:=by omega
 refine ⟨by omega,by omega,by omega,⟨n,rfl,fun j hj=>?_,Nat.le_refl _⟩,fun g hg=>⟨fun h1g=>?_,fun h0 j hj=>?_⟩⟩
 ·by_cases hjn : j = n
  ·subst hjn
   unfold updE
   rw [if_pos rfl,lenT_in (Nat.le_refl _)]
   have e2 : (fun k=>[AV.si IntKind.i64 (selMI 0 1600 0 k 0 (filT (fun _=>1073741824) 3201 k))]) = fun q=>[AV.si IntKind.i64 (tab j c lo hi j q)]:=by
    funext k
    rw [tab_end]
    unfold selMI endT filT
    by_cases h1 : k = 1600
    ·subst h1; simp
    ·simp [h1]
   rw [e2]; rfl
  ·unfold updE
   rw [if_neg hjn,lenT_out (by omega)]; rfl
 ·have eg : g - 1 + 1 = g:=by omega
  have hgn : g - 1 < n:=by omega
  have hc:=h5 (g - 1) hgn
  have hb:=tab_b (n:=n) (c:=c) (lo:=lo) (hi:=hi) (d:=n - g) (i:=g) rfl
  simp only [eg]
  refine ⟨by omega,by omega,⟨0,by omega,fun j hj=>(filT_zero _ j).symm,by omega⟩,fun k hk=>⟨fun hle=>⟨⟨0,by simp,by omega,by omega⟩,fun d hd=>⟨fun hdl=>?_,fun hdl=>?_⟩⟩,fun hgt=>?_⟩⟩
  ·refine ⟨by omega,by omega,by omega,by omega,by omega,by omega,fun o1 o2=>?_,fun ho=>?_⟩
   ·have hv:=hb (c (g - 1) + ((k : Int) - 1600) - (lo + d) + 1600).toNat
    refine ⟨by omega,by omega,by omega,by omega,by rw [lenT_in (Nat.le_refl _)]; omega,lenT_in (Nat.le_refl _),by omega,by omega,by omega,by omega,by omega,by omega,d + 1,?_,by omega,by omega,by omega⟩
    exact (bstN_in rfl o1 o2).symm
   ·refine ⟨by omega,by omega,d + 1,?_,by omega,by omega,by omega⟩
    exact (bstN_out rfl (by omega)).symm
  ·refine ⟨by omega,by omega,by omega,by omega,by omega,k + 1,by omega,fun j hj=>?_,by omega,by omega⟩
   refine sel_fil ?_ j
   rw [tab_at hgn (by omega),eg]
   congr 1
   omega
  ·obtain rfl : k = 3201:=by omega
   refine ⟨by omega,by omega,by omega,by omega,g - 1,by omega,fun j hj=>?_,by omega,by omega⟩
   by_cases hjg : j = g - 1
   ·subst hjg
    unfold updE
    rw [if_pos rfl,lenT_in (Nat.le_refl _)]
    have e2 : (fun k=>[AV.si IntKind.i64 (filT (tab n c lo hi (g - 1)) 3201 k)]) = fun q=>[AV.si IntKind.i64 (tab n c lo hi (g - 1) q)]:=by
     funext q
     by_cases hq : q < 3201
     ·rw [filT_in hq]
     ·rw [filT_out (by omega),tab_far (by omega) (by omega)]
    rw [e2]; rfl
   ·unfold updE
    rw [if_neg hjg]
    have : lenT g j = lenT (g - 1) j:=by unfold lenT; by_cases h : g <= j <;> simp [h] <;> omega
    rw [<- this]; rfl
 ·obtain rfl : g = 0:=by omega
  rw [lenT_in (Nat.zero_le _)]; rfl
end
end Abs
end Go.Proofs.YtlacopdaibhkkaaGreat

namespace Go.Proofs.YtlacopdaibhkkaaGreat
namespace Abs
open Go Go.RowKit
noncomputable section
@[irreducible] def blE (n : Nat) (c : Nat -> Int) (w m : Int) : Int:=if lvE n c = 0 then (if w < 0 \/ 100 < w \/ m < 1 \/ 16 < m then 3 else 0) else lvE n c
theorem blE_lv {n : Nat} {c : Nat -> Int} {w m : Int} (h : lvE n c ≠ 0) : blE n c w m = lvE n c:=by unfold blE; rw [if_neg h]
theorem blE_3 {n : Nat} {c : Nat -> Int} {w m : Int} (h : lvE n c = 0) (h' : w < 0 \/ 100 < w \/ m < 1 \/ 16 < m) : blE n c w m = 3:=by unfold blE; rw [if_pos h,if_pos h']
theorem blE_0 {n : Nat} {c : Nat -> Int} {w m : Int} : blE n c w m = 0 ↔ lvE n c = 0 /\ 0 <= w /\ w <= 100 /\ 1 <= m /\ m <= 16:=by
 unfold blE
 split
 ·rename_i h
  split
  ·constructor
   ·intro h; omega
   ·rintro ⟨_,h1⟩; omega
  ·exact ⟨fun _=>⟨h,by omega,by omega,by omega,by omega⟩,fun _=>rfl⟩
 ·rename_i h
  exact ⟨fun h'=>absurd h' h,fun h'=>absurd h'.1 h⟩
def blS : Spec [lvlSh,.int .i64,.int .i64]:=⟨fun _=>True,fun ((n,el),(w : Int),(m : Int),_)=>.si .i64 (blE n (fun k=>(el k).1) w m)⟩
set_option maxRecDepth 100000 in
theorem bl_ok : FnSpec Tryz.prog 68 _ blS:=by
 refine FnSpec.of S2_ok mixed (U:=0) (I:=fun _=>[]) Tryz.func68 rfl (by kernel_rfl) rfl rfl (by decide +kernel) ?_
 rintro ⟨⟨n,el⟩,(w : Int),(m : Int),⟨⟩⟩ -
 obtain ⟨c,rfl⟩ : ∃ c : Nat -> Int,el = fun k=>(c k,()):=⟨fun k=>(el k).1,rfl⟩
 unfold FnSat
 conv=>arg 2; reduce
 simp [blS,lvS,and_assoc]
 have e : (fun k=>c k) = c:=rfl
 simp only [e]
 refine ⟨fun h=>(blE_lv h).symm,fun h=>?_⟩
 repeat' (first | refine And.intro ?_ ?_ | intro _)
 all_goals first | exact (blE_3 h (by omega)).symm | exact (blE_0.2 ⟨h,by omega⟩).symm
def minG0 (c : Nat -> Int) : Nat -> Int
 | 0=>c 0
 | g + 1=>min (minG0 c g) (c (g + 1))
@[irreducible] def minG (c : Nat -> Int) (g : Nat) : Int:=minG0 c g
@[simp] theorem minG_zero (c : Nat -> Int) : minG c 0 = c 0:=by unfold minG; rfl
@[simp] theorem minG_succ (c : Nat -> Int) (g : Nat) : minG c (g + 1) = min (minG c g) (c (g + 1)):=by unfold minG; rfl
def mnS : Spec [lvlSh]:=⟨fun ((n,_),_)=>1 <= n /\ n <= 16,fun ((n,el),_)=>.si .i64 (minG (fun k=>(el k).1) (nsub n 1))⟩
def mnI : DatL [lvlSh] -> Anns:=fun ((n,el),_)=>[
 (5,[],fun fr hp=>⟨Nat,fun g=>⟨frI [.k 3,.s (.si .i64 (minG (fun k=>(el k).1) g)),.s (.si .i64 (icast (nadd g 1))),.t 20] fr,hp⟩,Nat × Nat,fun g=>(n,g),fun (n,g)=>g + 1 <= n,fun g=>nsub n g⟩)]
set_option maxRecDepth 100000 in
theorem mn_ok : FnSpec Tryz.prog 102 _ mnS:=by
 refine FnSpec.of S2_ok mixed (U:=0) (I:=mnI) Tryz.func102 rfl (by kernel_rfl) rfl rfl (by decide +kernel) ?_
 rintro ⟨⟨n,el⟩,⟨⟩⟩ ⟨(h1 : 1 <= n),(h2 : n <= 16)⟩
 obtain ⟨c,rfl⟩ : ∃ c : Nat -> Int,el = fun k=>(c k,()):=⟨fun k=>(el k).1,rfl⟩
 unfold FnSat
 conv=>arg 2; reduce
 simp [mnS,ElEq,getB,goneB,aliveB,and_assoc]
 have e : (fun k=>c k) = c:=rfl
 simp only [e]
 refine ⟨by omega,fun _=>⟨by omega,⟨0,by simp,rfl,by omega⟩,fun g hg=>⟨fun hlt=>⟨by omega,by omega,by omega,by omega,g + 1,by simp,by omega,by omega,by omega⟩,fun hge=>?_⟩⟩⟩
 rw [show g = n - 1 by omega]
noncomputable def S4 : Sums:=⟨(102,mkSum _ mnS) :: (68,mkSum _ blS) :: S2.one,S2.two,S2.lo,S2.eqs,S2.its,S2.imm⟩
theorem S4_ok : SumsOK Tryz.prog S4:=((S2_ok.cons Tryz.func68 (by kernel_rfl) (by kernel_rfl) bl_ok).cons Tryz.func102 (by kernel_rfl) (by kernel_rfl) mn_ok)
@[irreducible] def lsV (c : Nat -> Int) (n : Nat) (w : Int) (k : Nat) : Int:=max 0 (c k - minG c (n - 1) - w)
theorem lsV_eq (c : Nat -> Int) (n : Nat) (w : Int) (k : Nat) : lsV c n w k = max 0 (c k - minG c (n - 1) - w):=by unfold lsV; rfl
@[irreducible] def lsT (c : Nat -> Int) (n : Nat) (w m : Int) : Int:=max (maxN (lsV c n w) n) ((sumN (lsV c n w) n + m - 1).tdiv m)
theorem lsT_eq (c : Nat -> Int) (n : Nat) (w m : Int) : lsT c n w m = max (maxN (lsV c n w) n) ((sumN (lsV c n w) n + m - 1).tdiv m):=by unfold lsT; rfl
def lsS : Spec [lvlSh,.int .i64,.int .i64]:=⟨fun ((n,el),(w : Int),(m : Int),_)=>1 <= n /\ n <= 16 /\ (∀ k,k < n -> 0 <= (el k).1 /\ (el k).1 <= 100) /\ 0 <= w /\ w <= 100 /\ 1 <= m /\ m <= 16,
 fun ((n,el),(w : Int),(m : Int),_)=>.tup [.slc (.sym n) 1 (fun k=>[.si .i64 (lsV (fun k=>(el k).1) n w k)]),.si .i64 (lsT (fun k=>(el k).1) n w m)]⟩
def lsI : DatL [lvlSh,.int .i64,.int .i64] -> Anns:=fun ((n,el),(w : Int),(m : Int),_)=>[
 (4,[],fun fr hp=>⟨Nat,fun g=>⟨frI [.k 9,.s (.si .i64 (sumN (lsV (fun k=>(el k).1) n w) g)),.s (.si .i64 (maxN (lsV (fun k=>(el k).1) n w) g)),.k 1,.t 2,.k 7,.s (.si .i64 (icast g)),.t 35] fr,setB hp 0 (.row 3 1 (.sym n) (fun k=>[.si .i64 (filT (lsV (fun k=>(el k).1) n w) g k)]))⟩,Nat × Nat,fun g=>(n,g),fun (n,g)=>g <= n,fun g=>nsub n g⟩)]
set_option maxRecDepth 100000 in
theorem ls_ok : FnSpec Tryz.prog 69 _ lsS:=by
 refine FnSpec.of S4_ok mixed (U:=0) (I:=lsI) Tryz.func69 rfl (by kernel_rfl) rfl rfl (by decide +kernel) ?_
 rintro ⟨⟨n,el⟩,(w : Int),(m : Int),⟨⟩⟩ ⟨(h1 : 1 <= n),(h2 : n <= 16),(h5 : ∀ k,k < n -> 0 <= (el k).1 /\ (el k).1 <= 100),(h6 : 0 <= w),(h7 : w <= 100),(h8 : 1 <= m),(h9 : m <= 16)⟩
 obtain ⟨c,rfl⟩ : ∃ c : Nat -> Int,el = fun k=>(c k,()):=⟨fun k=>(el k).1,rfl⟩
 have h5 : ∀ k,k < n -> 0 <= c k /\ c k <= 100:=h5
 unfold FnSat
 conv=>arg 2; reduce
 simp [lsS,mnS,ElEq,getB,goneB,aliveB,maxRow,and_assoc]
 have e : (fun k=>c k) = c:=rfl
 simp only [e]
 have hm : ∀ g,g < n -> 0 <= minG c g /\ minG c g <= 100:=fun g=>by
  induction g with
  | zero=>intro h; simpa using h5 0 h
  | succ g ih=>intro h; have a:=ih (by omega); have b:=h5 (g + 1) h; rw [minG_succ]; omega
 have hm:=hm (n - 1) (by omega)
 have hl : ∀ k,k < n -> 0 <= lsV c n w k /\ lsV c n w k <= 100:=fun k hk=>by have:=h5 k hk; rw [lsV_eq]; omega
 refine ⟨h1,h2,by omega,⟨0,by simp,by simp,rfl,fun j _=>(filT_zero _ j).symm,by omega⟩,fun g hg=>?_⟩
 have hs:=sumN_in (c:=lsV c n w) (M:=100) (n:=g) fun k hk=>by have:=hl k (by omega); omega
 refine ⟨fun hlt=>?_,fun hge=>?_⟩
 ·have a:=h5 g hlt
  refine ⟨hlt,by omega,by omega,by omega,by omega,hlt,by omega,by omega,hlt,by omega,by omega,g + 1,by rw [sumN_succ,lsV_eq],by rw [maxN_succ,lsV_eq],by omega,fun j hj=>?_,by omega,by omega⟩
  by_cases hjg : j = g
  ·subst hjg; rw [if_pos rfl,filT_in (by omega),lsV_eq]
  ·rw [if_neg hjg]
   by_cases h : j < g
   ·rw [filT_in h,filT_in (by omega)]
   ·rw [filT_out (by omega),filT_out (by omega)]
 ·obtain rfl : g = n:=by omega
  have ht:=tdiv_in (sumN (lsV c g w) g + m - 1) m (by omega) (by simp; omega)
  simp at ht
  exact ⟨by omega,by omega,by omega,by omega,by omega,ht.1,ht.2,fun j hj=>filT_in hj,(lsT_eq c g w m).symm⟩
end
end Abs
end Go.Proofs.YtlacopdaibhkkaaGreat

namespace Go.Proofs.YtlacopdaibhkkaaGreat
namespace Abs
open Go Go.RowKit
noncomputable section
theorem inAt_in {m : Nat} {f : Nat -> Int} (h : ∀ k,k < m -> -2000 <= f k /\ f k <= 2000) : ∀ g : Nat,-2000 <= inAt m f g /\ inAt m f g <= 2000
 | 0=>by simp
 | g + 1=>by
   rw [inAt_succ]
   by_cases hg : g < m
   ·rw [flAt_in hg]; exact h g hg
   ·rw [flAt_out (by omega)]; omega
def ptops : Nat -> List AV -> List AV
 | 0,l=>l
 | n + 1,l=>.top :: ptops n l
def mvI : SpecI [.ptr [lvlSh],.ptr [lvlSh]]:=⟨fun (((n,c),_),((m,f),_),_)=>n <= 16 /\ m <= 16 /\ (∀ k,k < n -> 0 <= (c k).1 /\ (c k).1 <= 100) /\ ∀ k,k < m -> -2000 <= (f k).1 /\ (f k).1 <= 2000,fun (((n,_),_),_,_)=>n,
 fun (((_,c),_),((m,f),_),_) i=>[.si .i64 (icast i),.si .i64 (bhV (fun k=>(c k).1) m (fun k=>(f k).1) i)]⟩
def mvF (Y : Value) (x : DatL [.ptr [lvlSh],.ptr [lvlSh]]) (g : Nat) : List AV:=.v Y :: .xp (encL [lvlSh] x.1) :: .xp (encL [lvlSh] x.2.1) :: .top :: .si .i64 (inAt x.2.1.1.1 (fun k=>(x.2.1.1.2 k).1) g) :: ptops 3 (enc lvlSh x.1.1 :: .si .i64 (icast x.1.1.1) :: .si .i64 (icast g) :: ptops 23 [])
set_option maxRecDepth 100000 in
set_option maxHeartbeats 2000000 in
theorem mvd_ok : IterOK Tryz.prog 141 (mkIt [.ptr [lvlSh],.ptr [lvlSh]] mvI):=by
 refine IterOK.of S2_ok mixed rfl Tryz.func141 rfl rfl (by decide +kernel) rfl (by decide) (dat:=fun x g=>(g,x.1.1.1)) (q:=fun z : Nat × Nat=>z.1 <= z.2) (fr:=mvF) (fun Y x g t ht=>?_) ?_
 ·have : t = 0 \/ t = 1 \/ t = 2:=by simp at ht; omega
  rcases this with rfl | rfl | rfl <;> rfl
 rintro Y ⟨⟨⟨n,c'⟩,⟨⟩⟩,⟨⟨m,f'⟩,⟨⟩⟩,⟨⟩⟩ ⟨(h1 : n <= 16),(h2 : m <= 16),(h3 : ∀ k,k < n -> 0 <= (c' k).1 /\ (c' k).1 <= 100),(h4 : ∀ k,k < m -> -2000 <= (f' k).1 /\ (f' k).1 <= 2000)⟩
 obtain ⟨c,rfl⟩ : ∃ c : Nat -> Int,c' = fun k=>(c k,()):=⟨fun k=>(c' k).1,rfl⟩
 obtain ⟨f,rfl⟩ : ∃ f : Nat -> Int,f' = fun k=>(f k,()):=⟨fun k=>(f' k).1,rfl⟩
 conv=>arg 2; reduce
 simp [unitA,natA,ElEq,and_assoc]
 have h3 : ∀ k,k < n -> 0 <= c k /\ c k <= 100:=h3
 have h4 : ∀ k,k < m -> -2000 <= f k /\ f k <= 2000:=h4
 have e1 : (fun k=>c k) = c:=rfl
 have e2 : (fun k=>f k) = f:=rfl
 simp only [e1,e2]
 intro g hg
 have a:=inAt_in (m:=m) (f:=f) h4 g
 refine ⟨fun hlt=>⟨hlt,fun hm=>?_,fun hm=>?_⟩,fun h=>by omega⟩
 ·have b:=h3 g hlt
  have d:=h4 g hm
  have e3 : bhV c m f g = c g + inAt m f g - f g:=by rw [bhV_eq,flAt_in hm]
  rw [e3,flAt_in hm]
  exact ⟨hm,by omega,by omega,by omega,by omega,hlt,rfl,by omega,by omega,hlt,rfl,by omega⟩
 ·have b:=h3 g hlt
  have e3 : bhV c m f g = c g + inAt m f g:=by rw [bhV_eq,flAt_out hm]; omega
  rw [e3,flAt_out hm]
  exact ⟨by omega,by omega,by omega,by omega,hlt,rfl,by omega,by omega,hlt,rfl,by omega⟩
noncomputable def S5 : Sums:=⟨S4.one,S4.two,S4.lo,S4.eqs,(141,mkIt [.ptr [lvlSh],.ptr [lvlSh]] mvI) :: S4.its,S4.imm⟩
theorem S5_ok : SumsOK Tryz.prog S5:=S4_ok.addIt Tryz.func141 (by kernel_rfl) (by kernel_rfl) mvd_ok
def bhS : Spec [lvlSh,lvlSh]:=⟨fun ((n,c),(m,f),_)=>n <= 16 /\ m <= 16 /\ (∀ k,k < n -> 0 <= (c k).1 /\ (c k).1 <= 100) /\ ∀ k,k < m -> -2000 <= (f k).1 /\ (f k).1 <= 2000,fun ((n,c),(m,f),_)=>.slc (.sym n) 1 (fun k=>[.si .i64 (bhV (fun k=>(c k).1) m (fun k=>(f k).1) k)])⟩
def bhI : DatL [lvlSh,lvlSh] -> Anns:=fun ((n,c),(m,f),_)=>[
 (3,[],fun fr hp=>⟨Nat,fun g=>⟨frI [.k 7,.t 14] fr,setB hp 0 (.row 3 1 (.sym g) (fun k=>[.si .i64 (bhV (fun k=>(c k).1) m (fun k=>(f k).1) k)]))⟩,Nat × Nat,fun g=>(n,g),fun (n,g)=>g <= n,fun g=>g⟩)]
set_option maxRecDepth 100000 in
theorem bh_ok : FnSpec Tryz.prog 98 _ bhS:=by
 refine FnSpec.of S5_ok mixed (U:=0) (I:=bhI) Tryz.func98 rfl (by kernel_rfl) rfl rfl (by decide +kernel) ?_
 rintro ⟨⟨n,c'⟩,⟨m,f'⟩,⟨⟩⟩ ⟨(h1 : n <= 16),(h2 : m <= 16),(h3 : ∀ k,k < n -> 0 <= (c' k).1 /\ (c' k).1 <= 100),(h4 : ∀ k,k < m -> -2000 <= (f' k).1 /\ (f' k).1 <= 2000)⟩
 obtain ⟨c,rfl⟩ : ∃ c : Nat -> Int,c' = fun k=>(c k,()):=⟨fun k=>(c' k).1,rfl⟩
 obtain ⟨f,rfl⟩ : ∃ f : Nat -> Int,f' = fun k=>(f k,()):=⟨fun k=>(f' k).1,rfl⟩
 unfold FnSat
 conv=>arg 2; reduce
 simp [bhS,ElEq,getB,goneB,aliveB,maxRow,and_assoc]
 have h3 : ∀ k,k < n -> 0 <= c k /\ c k <= 100:=h3
 have h4 : ∀ k,k < m -> -2000 <= f k /\ f k <= 2000:=h4
 have e1 : (fun k=>c k) = c:=rfl
 have e2 : (fun k=>f k) = f:=rfl
 simp only [e1,e2]
 exact ⟨by omega,h1,h2,h3,h4,fun g hg=>⟨fun hlt=>⟨by omega,fun j hj=>app_one hj (fun _=>rfl) (fun e=>by subst e; rfl),by omega⟩,fun h=>by omega⟩⟩
noncomputable def S6 : Sums:=⟨(98,mkSum _ bhS) :: S5.one,S5.two,S5.lo,S5.eqs,S5.its,S5.imm⟩
theorem S6_ok : SumsOK Tryz.prog S6:=(S5_ok.cons Tryz.func98 (by kernel_rfl) (by kernel_rfl) bh_ok)
end
end Abs
end Go.Proofs.YtlacopdaibhkkaaGreat

namespace Go.Proofs.YtlacopdaibhkkaaGreat
namespace Abs
open Go
@[irreducible] def ftB (a p lo hi : Int) : Bool:=!(decide (0 < p) && !(decide (a = hi)) || decide (p < 0) && !(decide (a = lo)))
@[simp] theorem ftB_eq (a p lo hi : Int) : ftB a p lo hi = !(decide (0 < p) && !(decide (a = hi)) || decide (p < 0) && !(decide (a = lo))):=by unfold ftB; rfl
theorem ftB_t {a p lo hi : Int} : ftB a p lo hi = true ↔ (0 < p -> a = hi) /\ (p < 0 -> a = lo):=by
 simp
 constructor
 ·rintro ⟨h1,h2⟩; exact ⟨fun h=>by rcases h1 with h1 | h1 <;> omega,fun h=>by rcases h2 with h2 | h2 <;> omega⟩
 ·rintro ⟨h1,h2⟩
  refine ⟨?_,?_⟩
  ·by_cases h : 0 < p
   ·exact .inr (h1 h)
   ·exact .inl (by omega)
  ·by_cases h : p < 0
   ·exact .inr (h2 h)
   ·exact .inl (by omega)
@[irreducible] def pstB (f a b : Int) : Bool:=if 0 < f then decide (a - b = 1) else if f < 0 then decide (a - b = -1) else decide (max (a - b) (-(a - b)) <= 1)
theorem stB_p {f a b : Int} (h : 0 < f) : pstB f a b = decide (a - b = 1):=by unfold pstB; rw [if_pos h]
theorem stB_n {f a b : Int} (h : f < 0) : pstB f a b = decide (a - b = -1):=by unfold pstB; rw [if_neg (by omega),if_pos h]
theorem stB_z {f a b : Int} (h : ¬ 0 < f) (h' : ¬ f < 0) : pstB f a b = decide (max (a - b) (-(a - b)) <= 1):=by unfold pstB; rw [if_neg h,if_neg h']
def canV0 (a f : Nat -> Int) (lo hi : Int) : Nat -> Nat -> Bool
 | 0,p=>ftB (a 0) ((p : Int) - 16) lo hi
 | i + 1,p=>ftB (a (i + 1)) ((p : Int) - 16) lo hi && anyN (fun q=>canV0 a f lo hi i q && pstB (f i) ((q : Int) - 16) ((p : Int) - 16)) 33
@[irreducible] def canV (a f : Nat -> Int) (lo hi : Int) (i p : Nat) : Bool:=canV0 a f lo hi i p
@[irreducible] def srcB (a f : Nat -> Int) (lo hi : Int) (i p q : Nat) : Bool:=decide (i = 0) || canV a f lo hi (i - 1) q && pstB (f (i - 1)) ((q : Int) - 16) ((p : Int) - 16)
@[irreducible] def canS (a f : Nat -> Int) (lo hi : Int) (i p k : Nat) : Bool:=anyN (srcB a f lo hi i p) k
theorem canS_zero {a f : Nat -> Int} {lo hi : Int} {i p : Nat} : canS a f lo hi i p 0 = false:=by unfold canS; rw [anyN_false]; intro k hk; omega
theorem canS_succ {a f : Nat -> Int} {lo hi : Int} {i p k : Nat} (h : canS a f lo hi i p k = false) : canS a f lo hi i p (k + 1) = srcB a f lo hi i p k:=by
 unfold canS at h ⊢
 have h1:=anyN_false.1 h
 cases hs : srcB a f lo hi i p k with
 | true=>exact anyN_iff.2 ⟨k,by omega,hs⟩
 | false =>
   rw [anyN_false]
   intro j hj
   by_cases e : j = k
   ·subst e; exact hs
   ·exact h1 j (by omega)
theorem canS_mono {a f : Nat -> Int} {lo hi : Int} {i p k n : Nat} (hk : k <= n) (h : canS a f lo hi i p k = true) : canS a f lo hi i p n = true:=by
 unfold canS at h ⊢
 obtain ⟨j,hj,hs⟩:=anyN_iff.1 h
 exact anyN_iff.2 ⟨j,by omega,hs⟩
theorem canV_no {a f : Nat -> Int} {lo hi : Int} {i p : Nat} (h : ftB (a i) ((p : Int) - 16) lo hi = false) : canV a f lo hi i p = false:=by
 unfold canV
 cases i with
 | zero=>unfold canV0; exact h
 | succ i=>unfold canV0; rw [h]; rfl
theorem canV_at {a f : Nat -> Int} {lo hi : Int} {i p : Nat} (h : ftB (a i) ((p : Int) - 16) lo hi = true) : canV a f lo hi i p = canS a f lo hi i p 33:=by
 cases i with
 | zero =>
   have : canS a f lo hi 0 p 33 = true:=by
    unfold canS
    exact anyN_iff.2 ⟨0,by omega,by unfold srcB; simp⟩
   rw [this]; unfold canV; unfold canV0; exact h
 | succ i =>
   have e : srcB a f lo hi (i + 1) p = fun q=>canV0 a f lo hi i q && pstB (f i) ((q : Int) - 16) ((p : Int) - 16):=by
    funext q; unfold srcB canV; simp
   unfold canS
   rw [e]; unfold canV; rw [canV0,h,Bool.true_and]
@[irreducible] def filC (T : Nat -> Nat -> Bool) (i p a j : Nat) : Bool:=if a < i \/ (a = i /\ j < p) then T a j else false
theorem filC_in {T : Nat -> Nat -> Bool} {i p a j : Nat} (h : a < i \/ (a = i /\ j < p)) : filC T i p a j = T a j:=by unfold filC; rw [if_pos h]
theorem filC_out {T : Nat -> Nat -> Bool} {i p a j : Nat} (h : ¬ (a < i \/ (a = i /\ j < p))) : filC T i p a j = false:=by unfold filC; rw [if_neg h]
@[irreducible] def inC (T : Nat -> Nat -> Bool) (s : Bool) (i p a j : Nat) : Bool:=if a = i /\ j = p then s else filC T i p a j
theorem inC_at {T : Nat -> Nat -> Bool} {s : Bool} {i p : Nat} : inC T s i p i p = s:=by unfold inC; rw [if_pos ⟨rfl,rfl⟩]
theorem inC_ne {T : Nat -> Nat -> Bool} {s : Bool} {i p a j : Nat} (h : ¬ (a = i /\ j = p)) : inC T s i p a j = filC T i p a j:=by unfold inC; rw [if_neg h]
theorem filC_row {T : Nat -> Nat -> Bool} {i a j : Nat} (hj : j < 33) : filC T i 33 a j = filC T (i + 1) 0 a j:=by
 by_cases h : a <= i
 ·rw [filC_in (by omega),filC_in (by omega)]
 ·rw [filC_out (by omega),filC_out (by omega)]
theorem filC_next {T : Nat -> Nat -> Bool} {s : Bool} {i p a j : Nat} (h : s = T i p) : inC T s i p a j = filC T i (p + 1) a j:=by
 by_cases e : a = i /\ j = p
 ·obtain ⟨rfl,rfl⟩:=e
  rw [inC_at,filC_in (by omega),h]
 ·rw [inC_ne e]
  by_cases h : a < i \/ (a = i /\ j < p)
  ·rw [filC_in h,filC_in (by omega)]
  ·rw [filC_out h,filC_out (by omega)]
theorem inC_zero {T : Nat -> Nat -> Bool} {i p a j : Nat} : inC T false i p a j = filC T i p a j:=by
 by_cases e : a = i /\ j = p
 ·obtain ⟨rfl,rfl⟩:=e
  rw [inC_at,filC_out (by omega)]
 ·rw [inC_ne e]
def pkP (p : Nat -> Bool) : Int:=if firstN p 33 < 33 then (firstN p 33 : Int) - 16 else 0
def pri0 (T : Nat -> Nat -> Bool) (f : Nat -> Int) (n : Nat) : Nat -> Int
 | 0=>pkP (T (n - 1))
 | d + 1=>pkP fun p=>T (n - 2 - d) p && pstB (f (n - 2 - d)) ((p : Int) - 16) (pri0 T f n d)
@[irreducible] def priV (T : Nat -> Nat -> Bool) (f : Nat -> Int) (n i : Nat) : Int:=pri0 T f n (n - 1 - i)
@[irreducible] def pqB (T : Nat -> Nat -> Bool) (f : Nat -> Int) (n i p : Nat) : Bool:=T i p && (decide (i + 1 = n) || pstB (f i) ((p : Int) - 16) (priV T f n (i + 1)))
theorem pqB_eq (T : Nat -> Nat -> Bool) (f : Nat -> Int) (n i p : Nat) : pqB T f n i p = (T i p && (decide (i + 1 = n) || pstB (f i) ((p : Int) - 16) (priV T f n (i + 1)))):=by unfold pqB; rfl
theorem priV_eq {T : Nat -> Nat -> Bool} {f : Nat -> Int} {n i : Nat} (h : i < n) : priV T f n i = pkP (pqB T f n i):=by
 by_cases e : i + 1 = n
 ·subst e
  unfold priV
  rw [Nat.add_sub_cancel,Nat.sub_self]
  unfold pri0
  congr 1
  funext p
  rw [pqB_eq]; simp
 ·have e2 : pqB T f n i = fun p=>T i p && pstB (f i) ((p : Int) - 16) (priV T f n (i + 1)):=by
   funext p; rw [pqB_eq]; simp [e]
  rw [e2]
  unfold priV
  obtain ⟨d,hd⟩ : ∃ d,n - 1 - i = d + 1:=⟨n - 2 - i,by omega⟩
  rw [hd,pri0,show n - 2 - d = i by omega,show n - 1 - (i + 1) = d by omega]
theorem pkP_in (p : Nat -> Bool) : -16 <= pkP p /\ pkP p <= 16:=by
 unfold pkP; split <;> omega
@[irreducible] def frmV (V : Nat -> Int) (g k : Nat) : Int:=if g <= k then V k else 0
theorem frmV_in {V : Nat -> Int} {g k : Nat} (h : g <= k) : frmV V g k = V k:=by unfold frmV; rw [if_pos h]
theorem frmV_out {V : Nat -> Int} {g k : Nat} (h : k < g) : frmV V g k = 0:=by unfold frmV; rw [if_neg (by omega)]
end Abs
end Go.Proofs.YtlacopdaibhkkaaGreat

namespace Go.Proofs.YtlacopdaibhkkaaGreat
namespace Abs
open Go Go.RowKit
noncomputable section
theorem beq_dec (a b : Int) : (a == b) = decide (a = b):=by rw [Bool.eq_iff_iff]; simp
def ftS : Spec [.int .i64,.int .i64,.ptr [lvlSh],.ptr [lvlSh,.int .i64,.int .i64]]:=⟨fun ((i : Int),(p : Int),((n,_),_),_)=>0 <= i /\ i < n,
 fun ((i : Int),(p : Int),((n,a),_),(_,(lo : Int),(hi : Int),_),_)=>.sb (ftB (a (nat i)).1 p lo hi)⟩
set_option maxRecDepth 100000 in
theorem ft_ok : FnSpec Tryz.prog 99 _ ftS:=by
 refine FnSpec.of S5_ok mixed (U:=0) (I:=fun _=>[]) Tryz.func99 rfl (by kernel_rfl) rfl rfl (by decide +kernel) ?_
 rintro ⟨(i : Int),(p : Int),⟨⟨n,a'⟩,⟨⟩⟩,⟨⟨nc,c'⟩,(lo : Int),(hi : Int),⟨⟩⟩,⟨⟩⟩ ⟨(h1 : 0 <= i),(h2 : i < n)⟩
 obtain ⟨a,rfl⟩ : ∃ a : Nat -> Int,a' = fun k=>(a k,()):=⟨fun k=>(a' k).1,rfl⟩
 unfold FnSat
 conv=>arg 2; reduce
 simp [ftS,ElEq,getB,goneB,aliveB,and_assoc]
 refine ⟨fun _=>⟨h1,h2⟩,fun _ _=>⟨h1,h2⟩,fun a b=>⟨a,b⟩,fun h=>?_,?_⟩
 ·by_cases hp : 0 < p
  ·exact .inr (h hp)
  ·exact .inl (by omega)
 ·rw [beq_dec,beq_dec]
def stS : Spec [.int .i64,.int .i64,.int .i64,.ptr [lvlSh]]:=⟨fun ((i : Int),(x : Int),(y : Int),((m,_),_),_)=>0 <= i /\ i < m /\ -16 <= x /\ x <= 16 /\ -16 <= y /\ y <= 16,
 fun ((i : Int),(x : Int),(y : Int),((m,f),_),_)=>.sb (pstB (f (nat i)).1 x y)⟩
set_option maxRecDepth 100000 in
theorem st_ok : FnSpec Tryz.prog 100 _ stS:=by
 refine FnSpec.of S5_ok mixed (U:=0) (I:=fun _=>[]) Tryz.func100 rfl (by kernel_rfl) rfl rfl (by decide +kernel) ?_
 rintro ⟨(i : Int),(x : Int),(y : Int),⟨⟨m,f'⟩,⟨⟩⟩,⟨⟩⟩ ⟨(h1 : 0 <= i),(h2 : i < m),(h3 : -16 <= x),(h4 : x <= 16),(h5 : -16 <= y),(h6 : y <= 16)⟩
 obtain ⟨f,rfl⟩ : ∃ f : Nat -> Int,f' = fun k=>(f k,()):=⟨fun k=>(f' k).1,rfl⟩
 unfold FnSat
 conv=>arg 2; reduce
 simp [stS,amS,ElEq,getB,goneB,aliveB,and_assoc]
 refine ⟨by omega,by omega,h1,h2,fun h=>by rw [stB_p h,beq_dec],fun h=>⟨h1,h2,fun h5=>by rw [stB_n h5,beq_dec],fun h5=>⟨by omega,by omega,by rw [stB_z (by omega) (by omega)]⟩⟩⟩
noncomputable def S7a : Sums:=⟨S6.one,S6.two,S6.lo,S6.eqs,S6.its,[113,61]⟩
theorem S7a_ok : SumsOK Tryz.prog S7a:=S6_ok.setImm _
noncomputable def S7b : Sums:=⟨(100,mkSum _ stS) :: (99,mkSum _ ftS) :: S7a.one,S7a.two,S7a.lo,S7a.eqs,S7a.its,S7a.imm⟩
theorem S7b_ok : SumsOK Tryz.prog S7b:=((S7a_ok.cons Tryz.func99 (by kernel_rfl) (by kernel_rfl) ft_ok).cons Tryz.func100 (by kernel_rfl) (by kernel_rfl) st_ok)
theorem zero102 : ZeroIs Tryz.prog (160,33,.lb false):=⟨by kernel_rfl,rfl⟩
theorem big102 : bigT Tryz.prog 160 = some (33,.lb false):=by kernel_rfl
noncomputable def S7 : Sums:=⟨S7b.one,S7b.two,S7b.lo,[(160 + 1048576,[])],S7b.its,S7b.imm⟩
theorem S7_ok : SumsOK Tryz.prog S7:=S7b_ok.setEqs fun t ks h=>by
 simp only [findS] at h
 split at h
 ·rename_i e
  obtain rfl:=Nat.eq_of_beq_eq_true e
  exact EqOK.zero big102 zero102
 ·cases h
@[irreducible] def pcT (c : Nat -> Int) (m : Nat) (f : Nat -> Int) (lo hi : Int) (i p : Nat) : Bool:=canV (bhV c m f) f lo hi i p
@[irreducible] def prcS (c : Nat -> Int) (m : Nat) (f : Nat -> Int) (lo hi : Int) (i p k : Nat) : Bool:=canS (bhV c m f) f lo hi i p k
@[irreducible] def prc (n : Nat) (c : Nat -> Int) (m : Nat) (f : Nat -> Int) (lo hi : Int) (k : Nat) : Int:=priV (pcT c m f lo hi) f n k
@[irreducible] def prQ (n : Nat) (c : Nat -> Int) (m : Nat) (f : Nat -> Int) (lo hi : Int) (i p : Nat) : Bool:=pqB (pcT c m f lo hi) f n i p
@[irreducible] def prG (n : Nat) (c : Nat -> Int) (m : Nat) (f : Nat -> Int) (lo hi : Int) (g k : Nat) : Int:=frmV (prc n c m f lo hi) g k
@[irreducible] def frsQ (p : Nat -> Bool) : Nat:=firstN p 33
@[irreducible] def ixP (x : Int) : Nat:=(x + 16).toNat
def pcA : Spec [tkSh,lvlSh]:=⟨fun (((n,c),(lo : Int),(hi : Int),_),(m,f),_)=>1 <= n /\ n <= 16 /\ m + 1 = n /\ (∀ k,k < n -> 0 <= (c k).1 /\ (c k).1 <= 100) /\ ∀ k,k < m -> -2000 <= (f k).1 /\ (f k).1 <= 2000,
 fun (((n,c),(lo : Int),(hi : Int),_),(m,f),_)=>.slc (.sym n) 1 (fun k=>[.si .i64 (prc n (fun k=>(c k).1) m (fun k=>(f k).1) lo hi k)])⟩
def pcI : DatL [tkSh,lvlSh] -> Anns:=fun (((n,c),(lo : Int),(hi : Int),_),(m,f),_)=>[
 (2097152 + 4,[(5,0,0)],fun _ _=>⟨Unit,fun _=>⟨[],[]⟩,Unit,fun _=>(),fun _=>True,fun _=>0⟩),
 (7,[],fun fr hp=>⟨Nat,fun g=>⟨frI [.k 10,.t 3,.k 15,.s (.si .i64 (icast g)),.t 93] fr,setB hp 1 (.mat 160 33 (.sym n) (fun a j=>.sb (filC (pcT (fun k=>(c k).1) m (fun k=>(f k).1) lo hi) g 0 a j)))⟩,Nat × Nat,fun g=>(n,g),fun (n,g)=>g <= n,fun g=>nsub n g⟩),
 (10,[],fun fr hp=>⟨Nat,fun p=>⟨frI [.k 11,.s (.si .i64 (isub (icast p) 16)),.t 1,.k 18,.t 91] fr,setB hp 1 (.mat 160 33 (.sym n) (fun a j=>.sb (filC (pcT (fun k=>(c k).1) m (fun k=>(f k).1) lo hi) (nat (intOf (getL fr 10))) p a j)))⟩,Nat,fun p=>p,fun p=>p <= 33,fun p=>nsub 33 p⟩),
 (14,[],fun fr hp=>⟨Nat,fun k=>⟨frI [.k 12,.s (.si .i64 (isub (icast k) 16)),.k 27,.t 82] fr,setB hp 1 (.mat 160 33 (.sym n) (fun a j=>.sb (inC (pcT (fun k=>(c k).1) m (fun k=>(f k).1) lo hi) (prcS (fun k=>(c k).1) m (fun k=>(f k).1) lo hi (nat (intOf (getL fr 10))) (ixP (intOf (getL fr 11))) k) (nat (intOf (getL fr 10))) (ixP (intOf (getL fr 11))) a j)))⟩,Nat,fun k=>k,fun k=>k <= 33,fun k=>nsub 33 k⟩),
 (20,[],fun fr hp=>⟨Nat,fun g=>⟨frI [.k 14,.s (.si .i64 (isub (icast g) 1)),.t 1,.k 69,.t 37] fr,setB hp 2 (.row 3 1 (.sym n) (fun k=>[.si .i64 (prG n (fun k=>(c k).1) m (fun k=>(f k).1) lo hi g k)]))⟩,Nat × Nat,fun g=>(n,g),fun (n,g)=>g <= n,fun g=>g⟩),
 (23,[],fun fr hp=>⟨Nat,fun p=>⟨frI [.k 15,.s (.si .i64 (isub (icast p) 16)),.k 73,.t 33] fr,hp⟩,Nat × Nat,fun p=>(p,frsQ (prQ n (fun k=>(c k).1) m (fun k=>(f k).1) lo hi (nat (intOf (getL fr 14))))),fun (p,q)=>p <= q,fun p=>nsub 33 p⟩)]
set_option maxRecDepth 100000 in
set_option maxHeartbeats 2000000 in
theorem prc_ok : FnSpec Tryz.prog 65 _ pcA:=by
 refine FnSpec.of S7_ok mixed (U:=0) (I:=pcI) Tryz.func65 rfl (by kernel_rfl) rfl rfl (by decide +kernel) ?_
 rintro ⟨⟨⟨n,c'⟩,(lo : Int),(hi : Int),⟨⟩⟩,⟨m,f'⟩,⟨⟩⟩ ⟨(h1 : 1 <= n),(h2 : n <= 16),(h3 : m + 1 = n),(h4 : ∀ k,k < n -> 0 <= (c' k).1 /\ (c' k).1 <= 100),(h5 : ∀ k,k < m -> -2000 <= (f' k).1 /\ (f' k).1 <= 2000)⟩
 obtain ⟨c,rfl⟩ : ∃ c : Nat -> Int,c' = fun k=>(c k,()):=⟨fun k=>(c' k).1,rfl⟩
 obtain ⟨f,rfl⟩ : ∃ f : Nat -> Int,f' = fun k=>(f k,()):=⟨fun k=>(f' k).1,rfl⟩
 unfold FnSat
 conv=>arg 2; reduce
 have h4 : ∀ k,k < n -> 0 <= c k /\ c k <= 100:=h4
 have h5 : ∀ k,k < m -> -2000 <= f k /\ f k <= 2000:=h5
 simp [pcA,bhS,ftS,stS,ElEq,MatEq,getB,goneB,aliveB,maxRow,and_assoc]
 have e1 : (fun k=>c k) = c:=rfl
 have e2 : (fun k=>f k) = f:=rfl
 have hx : ∀ p : Nat,ixP ((p : Int) - 16) = p:=fun p=>by unfold ixP; omega
 simp only [e1,e2,hx]
 have hno : ∀ i p : Nat,ftB (bhV c m f i) ((p : Int) - 16) lo hi = false -> pcT c m f lo hi i p = false:=fun i p h=>by unfold pcT; exact canV_no h
 have hat : ∀ i p : Nat,ftB (bhV c m f i) ((p : Int) - 16) lo hi = true -> pcT c m f lo hi i p = prcS c m f lo hi i p 33:=fun i p h=>by unfold pcT prcS; exact canV_at h
 have hS0 : ∀ i p : Nat,prcS c m f lo hi i p 0 = false:=fun i p=>by unfold prcS; exact canS_zero
 have hS1 : ∀ i p k : Nat,prcS c m f lo hi i p k = false -> prcS c m f lo hi i p (k + 1) = (decide (i = 0) || pcT c m f lo hi (i - 1) k && pstB (f (i - 1)) ((k : Int) - 16) ((p : Int) - 16)):=fun i p k h=>by
  unfold prcS at h ⊢
  rw [canS_succ h]; unfold srcB pcT; rfl
 have hSm : ∀ i p k : Nat,k <= 33 -> prcS c m f lo hi i p k = true -> prcS c m f lo hi i p 33 = true:=fun i p k hk h=>by unfold prcS at h ⊢; exact canS_mono hk h
 have hpr : ∀ g,prG n c m f lo hi g = frmV (prc n c m f lo hi) g:=fun g=>by funext k; unfold prG; rfl
 have hpc : ∀ i,i < n -> prc n c m f lo hi i = pkP (prQ n c m f lo hi i):=fun i hin=>by
  have : prQ n c m f lo hi i = pqB (pcT c m f lo hi) f n i:=by funext p; unfold prQ; rfl
  unfold prc; rw [this]; exact priV_eq hin
 have hpq : ∀ i p,prQ n c m f lo hi i p = (pcT c m f lo hi i p && (decide (i + 1 = n) || pstB (f i) ((p : Int) - 16) (prc n c m f lo hi (i + 1)))):=fun i p=>by unfold prQ prc; exact pqB_eq ..
 have hpb : ∀ i,i < n -> -16 <= prc n c m f lo hi i /\ prc n c m f lo hi i <= 16:=fun i hin=>by rw [hpc i hin]; exact pkP_in _
 simp only [hpr]
 generalize prc n c m f lo hi = V at *
 generalize hQ : prQ n c m f lo hi = Qf at *
 generalize prcS c m f lo hi = S at *
 generalize pcT c m f lo hi = T at *
 refine ⟨h2,by omega,h4,h5,by omega,⟨0,rfl,fun a ha j hj=>filC_out (by omega),by omega⟩,fun g hg=>⟨fun hlt=>⟨⟨0,by omega,fun a ha j hj=>rfl,by omega⟩,fun p hp=>⟨fun hp16=>⟨hlt,fun hnot=>?_,fun y1 y2=>⟨⟨0,by omega,?_,by omega⟩,fun k hk=>⟨fun _=>by omega,fun _=>hlt,fun _=>by omega,fun _=>by omega,fun hk16 hf=>?_,fun hor=>?_⟩⟩⟩,fun hp33=>?_⟩⟩,fun hge=>?_⟩⟩
 ·have h0 : T g p = false:=hno g p (by
   cases h : ftB (bhV c m f g) ((p : Int) - 16) lo hi with
   | false=>rfl
   | true=>have:=ftB_t.1 h; omega)
  refine ⟨by omega,by omega,p + 1,by omega,fun a ha j hj=>?_,by omega,by omega⟩
  rw [<- inC_zero]; exact filC_next h0.symm
 ·intro a ha j hj
  rw [hS0,inC_zero]
 ·have hSf : S g p k = false:=by rw [inC_at] at hf; exact hf
  have hq : ¬ g = 0 -> inC T (S g p k) g p (g - 1) k = T (g - 1) k:=fun h=>by rw [inC_ne (by omega),filC_in (by omega)]
  refine ⟨by omega,fun h=>by omega,fun _=>by omega,fun h=>by omega,fun _=>by omega,fun _=>by omega,fun h _=>by omega,fun h _=>by omega,fun h h'=>⟨h,h'⟩,hlt,by omega,by omega,by omega,by omega,k + 1,by omega,fun a ha j hj=>?_,by omega,by omega⟩
  unfold selMB
  by_cases e : a = g /\ j = p
  ·obtain ⟨rfl,rfl⟩:=e
   rw [if_pos ⟨rfl,rfl⟩,inC_at,hS1 _ _ _ hSf]
   by_cases ha0 : a = 0
   ·subst ha0; simp
   ·rw [hq ha0]
    have : ((a : Int) == 0) = decide (a = 0):=by rw [Bool.eq_iff_iff]; simp
    rw [this]
  ·rw [if_neg e,inC_ne e,inC_ne e]
 ·have hft : ftB (bhV c m f g) ((p : Int) - 16) lo hi = true:=ftB_t.2 ⟨fun h=>y1 (by omega),fun h=>y2 (by omega)⟩
  have hT : S g p k = T g p:=by
   rw [hat g p hft]
   by_cases hk33 : k = 33
   ·rw [hk33]
   ·have:=hor (by omega)
    rw [inC_at] at this
    rw [this,hSm g p k hk this]
  refine ⟨by omega,by omega,p + 1,by omega,fun a ha j hj=>filC_next hT,by omega,by omega⟩
 ·obtain rfl : p = 33:=by omega
  exact ⟨by omega,by omega,g + 1,by omega,fun a ha j hj=>filC_row hj,by omega,by omega⟩
 ·obtain rfl : g = n:=by omega
  have hV : ∀ i,frmV V i i = V i:=fun i=>frmV_in (Nat.le_refl _)
  refine ⟨by omega,by omega,by omega,⟨g,rfl,fun j hj=>(frmV_out hj).symm,by omega⟩,fun i hin=>⟨fun hi1=>⟨⟨0,by omega,by omega⟩,fun p hp=>?_⟩,fun hi0 j hj=>by rw [frmV_in (by omega)]⟩⟩
  have hTi : filC T g 0 (i - 1) p = T (i - 1) p:=filC_in (by omega)
  rw [hTi,hV]
  have hpq':=hpq (i - 1) p
  rw [show i - 1 + 1 = i by omega] at hpq'
  have hfl:=firstN_le (Qf (i - 1)) 33
  have hpc':=hpc (i - 1) (by omega)
  unfold pkP at hpc'
  unfold frsQ at hp ⊢
  refine ⟨fun hp16=>⟨by omega,by omega,by omega,by omega,by omega,fun _=>by omega,fun _ _=>by omega,fun _ h=>by omega,fun _ h=>?_,fun h1 h2=>⟨h1,h2⟩,fun ht hs=>?_,fun hx=>?_⟩,fun hp33=>?_⟩
  ·have:=hpb i (by omega)
   omega
  ·have hq1 : Qf (i - 1) p = true:=by
    rw [hpq',ht]
    rcases hs with hs | hs
    ·simp; left; omega
    ·simp [hs]
   rw [firstN_at hp hq1,if_pos (by omega)] at hpc'
   refine ⟨by omega,by omega,by omega,by omega,i - 1,by omega,fun j hj=>?_,by omega,by omega⟩
   by_cases e : j = i - 1
   ·subst e; rw [if_pos rfl,hV,hpc']
   ·rw [if_neg e]
    by_cases h : i <= j
    ·rw [frmV_in h,frmV_in (by omega)]
    ·rw [frmV_out (by omega),frmV_out (by omega)]
  ·have hq0 : Qf (i - 1) p = false:=by
    rw [hpq']
    cases ht : T (i - 1) p with
    | false=>rfl
    | true =>
      obtain ⟨a,b⟩:=hx ht
      rw [b]
      simp; omega
   have:=firstN_ge hp hq0 (by omega)
   exact ⟨by omega,by omega,p + 1,by omega,this,by omega⟩
  ·have hf33 : firstN (Qf (i - 1)) 33 = 33:=by omega
   rw [hf33,if_neg (by omega)] at hpc'
   refine ⟨by omega,by omega,i - 1,by omega,fun j hj=>?_,by omega,by omega⟩
   by_cases e : j = i - 1
   ·subst e; rw [hV,hpc',frmV_out (by omega)]
   ·by_cases h : i <= j
    ·rw [frmV_in h,frmV_in (by omega)]
    ·rw [frmV_out (by omega),frmV_out (by omega)]
end
end Abs
end Go.Proofs.YtlacopdaibhkkaaGreat

namespace Go.Proofs.YtlacopdaibhkkaaGreat
namespace Abs
open Go
@[irreducible] def outD (c0 f hi : Int) (d : Nat) : Int:=c0 + f - (hi - d)
theorem outD_eq (c0 f hi : Int) (d : Nat) : outD c0 f hi d = c0 + f - (hi - d):=by unfold outD; rfl
@[irreducible] def fwB (n : Nat) (c : Nat -> Int) (lo hi : Int) (i : Nat) (f : Int) (d : Nat) : Bool:=isIn (-1600) (outD (c i) f hi d) 1600 && decide (amt (outD (c i) f hi d) + tab n c lo hi (i + 1) (outD (c i) f hi d + 1600).toNat = tab n c lo hi i (f + 1600).toNat)
theorem fwB_iff {n : Nat} {c : Nat -> Int} {lo hi : Int} {i : Nat} {f : Int} {d : Nat} {o : Int} (e : o = c i + f - (hi - d)) : fwB n c lo hi i f d = true ↔ (-1600 <= o /\ o <= 1600) /\ max o (-o) + tab n c lo hi (i + 1) (o + 1600).toNat = tab n c lo hi i (f + 1600).toNat:=by
 unfold fwB; rw [outD_eq,<- e]; simp
theorem fwB_no {n : Nat} {c : Nat -> Int} {lo hi : Int} {i : Nat} {f : Int} {d : Nat} {o : Int} (e : o = c i + f - (hi - d)) (h : ¬ ((-1600 <= o /\ o <= 1600) /\ max o (-o) + tab n c lo hi (i + 1) (o + 1600).toNat = tab n c lo hi i (f + 1600).toNat)) : fwB n c lo hi i f d = false:=by
 cases h' : fwB n c lo hi i f d with
 | false=>rfl
 | true=>exact absurd ((fwB_iff e).1 h') h
@[irreducible] def wid (lo hi : Int) : Nat:=(hi - lo + 1).toNat
theorem wid_eq (lo hi : Int) : wid lo hi = (hi - lo + 1).toNat:=by unfold wid; rfl
@[irreducible] def fwK (n : Nat) (c : Nat -> Int) (lo hi : Int) (i : Nat) (f : Int) : Nat:=firstN (fwB n c lo hi i f) (wid lo hi)
theorem fwK_eq (n : Nat) (c : Nat -> Int) (lo hi : Int) (i : Nat) (f : Int) : fwK n c lo hi i f = firstN (fwB n c lo hi i f) (wid lo hi):=by unfold fwK; rfl
@[irreducible] def fwS (n : Nat) (c : Nat -> Int) (lo hi : Int) (i : Nat) (f : Int) : Int:=if fwK n c lo hi i f < wid lo hi then outD (c i) f hi (fwK n c lo hi i f) else f
theorem fwS_at {n : Nat} {c : Nat -> Int} {lo hi : Int} {i d : Nat} {f : Int} (hd : d <= fwK n c lo hi i f) (hw : d < wid lo hi) (h : fwB n c lo hi i f d = true) : fwS n c lo hi i f = c i + f - (hi - d):=by
 have e : fwK n c lo hi i f = d:=by rw [fwK_eq] at hd ⊢; exact firstN_at hd h
 unfold fwS; rw [e,if_pos hw,outD_eq]
theorem fwS_no {n : Nat} {c : Nat -> Int} {lo hi : Int} {i : Nat} {f : Int} (hd : wid lo hi <= fwK n c lo hi i f) : fwS n c lo hi i f = f:=by
 unfold fwS; rw [if_neg (by omega)]
theorem fwS_in {n : Nat} {c : Nat -> Int} {lo hi : Int} {i : Nat} {f : Int} (h : -1600 <= f /\ f <= 1600) : -1600 <= fwS n c lo hi i f /\ fwS n c lo hi i f <= 1600:=by
 by_cases hk : fwK n c lo hi i f < wid lo hi
 ·have h1:=fwK_eq n c lo hi i f
  have h2:=firstN_is (fwB n c lo hi i f) (wid lo hi) (by omega)
  rw [<- h1] at h2
  have h3:=(fwB_iff rfl).1 h2
  rw [fwS_at (Nat.le_refl _) hk h2]
  exact h3.1
 ·rw [fwS_no (by omega)]; exact h
def fwN0 (n : Nat) (c : Nat -> Int) (lo hi : Int) : Nat -> Int
 | 0=>0
 | i + 1=>fwS n c lo hi i (fwN0 n c lo hi i)
@[irreducible] def fwN (n : Nat) (c : Nat -> Int) (lo hi : Int) (i : Nat) : Int:=fwN0 n c lo hi i
@[simp] theorem fwN_zero (n : Nat) (c : Nat -> Int) (lo hi : Int) : fwN n c lo hi 0 = 0:=by unfold fwN; rfl
theorem fwN_succ (n : Nat) (c : Nat -> Int) (lo hi : Int) (i : Nat) : fwN n c lo hi (i + 1) = fwS n c lo hi i (fwN n c lo hi i):=by unfold fwN; rfl
theorem fwN_in {n : Nat} {c : Nat -> Int} {lo hi : Int} : ∀ i : Nat,-1600 <= fwN n c lo hi i /\ fwN n c lo hi i <= 1600
 | 0=>by simp
 | i + 1=>by rw [fwN_succ]; exact fwS_in (fwN_in i)
@[irreducible] def fwF (n : Nat) (c : Nat -> Int) (lo hi : Int) (i : Nat) : Int:=fwN n c lo hi (i + 1)
theorem fwF_eq (n : Nat) (c : Nat -> Int) (lo hi : Int) (i : Nat) : fwF n c lo hi i = fwN n c lo hi (i + 1):=by unfold fwF; rfl
@[irreducible] def fewE (n : Nat) (c : Nat -> Int) (lo hi : Int) : Int:=if bdE n c lo hi = 0 then (if posB n c lo hi = true then 0 else 18) else bdE n c lo hi
theorem fewE_bd {n : Nat} {c : Nat -> Int} {lo hi : Int} (h : bdE n c lo hi ≠ 0) : fewE n c lo hi = bdE n c lo hi:=by unfold fewE; rw [if_neg h]
theorem fewE_18 {n : Nat} {c : Nat -> Int} {lo hi : Int} (h : bdE n c lo hi = 0) (h' : posB n c lo hi = false) : fewE n c lo hi = 18:=by unfold fewE; rw [if_pos h,h']; rfl
theorem fewE_ok {n : Nat} {c : Nat -> Int} {lo hi : Int} (h : bdE n c lo hi = 0) (h' : posB n c lo hi = true) : fewE n c lo hi = 0:=by unfold fewE; rw [if_pos h,h']; rfl
@[irreducible] def okN (e : Int) (n : Nat) : Nat:=if e = 0 then n else 0
theorem okN_0 {e : Int} {n : Nat} (h : e = 0) : okN e n = n:=by unfold okN; rw [if_pos h]
theorem okN_e {e : Int} {n : Nat} (h : e ≠ 0) : okN e n = 0:=by unfold okN; rw [if_neg h]
@[irreducible] def okI (e x : Int) : Int:=if e = 0 then x else 0
theorem okI_0 {e x : Int} (h : e = 0) : okI e x = x:=by unfold okI; rw [if_pos h]
theorem okI_e {e x : Int} (h : e ≠ 0) : okI e x = 0:=by unfold okI; rw [if_neg h]
end Abs
end Go.Proofs.YtlacopdaibhkkaaGreat

namespace Go.Proofs.YtlacopdaibhkkaaGreat
namespace Abs
open Go Go.RowKit
noncomputable section
noncomputable def S8 : Sums:=⟨(65,mkSum _ pcA) :: (62,mkSum _ tbS) :: S7.one,S7.two,S7.lo,S7.eqs,S7.its,S7.imm⟩
theorem S8_ok : SumsOK Tryz.prog S8:=((S7_ok.cons Tryz.func62 (by kernel_rfl) (by kernel_rfl) tb_ok).cons Tryz.func65 (by kernel_rfl) (by kernel_rfl) prc_ok)
@[irreducible] def fewP (n : Nat) (c : Nat -> Int) (lo hi : Int) (k : Nat) : Int:=prc n c (n - 1) (fwF n c lo hi) lo hi k
def fwsS : Spec [lvlSh,.int .i64,.int .i64]:=⟨fun _=>True,fun ((n,c),(lo : Int),(hi : Int),_)=>.tup [.agg [.slc (.sym (okN (fewE n (fun k=>(c k).1) lo hi) (nsub n 1))) 1 (fun k=>[.si .i64 (fwF n (fun k=>(c k).1) lo hi k)]),
 .si .i64 (okI (fewE n (fun k=>(c k).1) lo hi) (movN (fwF n (fun k=>(c k).1) lo hi) (nsub n 1))),
 .slc (.sym (okN (fewE n (fun k=>(c k).1) lo hi) n)) 1 (fun k=>[.si .i64 (fewP n (fun k=>(c k).1) lo hi k)])],.si .i64 (fewE n (fun k=>(c k).1) lo hi)]⟩
def fewI : DatL [lvlSh,.int .i64,.int .i64] -> Anns:=fun ((n,c),(lo : Int),(hi : Int),_)=>[
 (2097152 + 10,[(11,3,5)],fun _ _=>⟨Unit,fun _=>⟨[],[]⟩,Unit,fun _=>(),fun _=>True,fun _=>0⟩),
 (11,[],fun fr hp=>⟨Nat,fun g=>⟨frI [.k 12,.s (.si .i64 (fwN n (fun k=>(c k).1) lo hi g)),.t 3,.k 19,.s (.si .i64 (icast g)),.t 68] fr,setB hp 3 (.row 3 1 (.sym g) (fun k=>[.si .i64 (fwF n (fun k=>(c k).1) lo hi k)]))⟩,Nat × Nat,fun g=>(n,g),fun (n,g)=>g + 1 <= n,fun g=>nsub n g⟩),
 (14,[],fun fr hp=>⟨Nat,fun d=>⟨frI [.k 14,.s (.si .i64 (isub hi (icast d))),.t 1,.k 23,.t 65] fr,hp⟩,Nat × Nat,fun d=>(d,fwK n (fun k=>(c k).1) lo hi (nat (intOf (getL fr 13))) (intOf (getL fr 12))),fun (d,q)=>d <= q,fun d=>nsub 101 d⟩)]
set_option maxRecDepth 100000 in
set_option maxHeartbeats 2000000 in
theorem fws_ok : FnSpec Tryz.prog 27 _ fwsS:=by
 refine FnSpec.of S8_ok mixed (U:=0) (I:=fewI) Tryz.func27 rfl (by kernel_rfl) rfl rfl (by decide +kernel) ?_
 rintro ⟨⟨n,c'⟩,(lo : Int),(hi : Int),⟨⟩⟩ -
 obtain ⟨c,rfl⟩ : ∃ c : Nat -> Int,c' = fun k=>(c k,()):=⟨fun k=>(c' k).1,rfl⟩
 unfold FnSat
 conv=>arg 2; reduce
 simp [fwsS,bdS,poS,tbS,cnS,pcA,amS,ElEq,MatEq,getB,goneB,aliveB,maxRow,and_assoc]
 have e1 : (fun k=>c k) = c:=rfl
 simp only [e1]
 refine ⟨fun h=>?_,fun h=>?_⟩
 ·have e:=fewE_bd (n:=n) (c:=c) (lo:=lo) (hi:=hi) h
  have he : fewE n c lo hi ≠ 0:=by rw [e]; exact h
  exact ⟨okN_e he,(okI_e he).symm,okN_e he,e.symm⟩
 obtain ⟨hl,b1,b2,b3⟩:=bdE_0.1 h
 obtain ⟨l1,l2,l3⟩:=lvE_0.1 hl
 refine ⟨l2,b1,by omega,by omega,b3,l3,fun hs=>?_,fun p1 p2=>?_⟩
 ·have e:=fewE_18 (n:=n) (c:=c) (lo:=lo) (hi:=hi) h (by simp; omega)
  have he : fewE n c lo hi ≠ 0:=by omega
  exact ⟨okN_e he,(okI_e he).symm,okN_e he,e.symm⟩
 have he:=fewE_ok (n:=n) (c:=c) (lo:=lo) (hi:=hi) h (by simp; omega)
 refine ⟨l1,l2,b1,b2,b3,l3,by omega,by omega,⟨0,by simp,rfl,rfl,by omega,by omega⟩,fun g hg=>⟨fun hlt=>⟨⟨0,by simp,by omega⟩,fun d hd=>?_⟩,fun hge=>?_⟩⟩
 ·have hf:=fwN_in (n:=n) (c:=c) (lo:=lo) (hi:=hi) g
  have hc:=l3 g (by omega)
  have hS:=fwN_succ n c lo hi g
  have hw:=wid_eq lo hi
  have hfl:=fwK_eq n c lo hi g (fwN n c lo hi g)
  have hle:=firstN_le (fwB n c lo hi g (fwN n c lo hi g)) (wid lo hi)
  have hv1:=tab_b (n:=n) (c:=c) (lo:=lo) (hi:=hi) (d:=n - (g + 1)) (i:=g + 1) rfl
  have hv2:=tab_b (n:=n) (c:=c) (lo:=lo) (hi:=hi) (d:=n - g) (i:=g) rfl
  have hv1:=hv1 (c g + fwN n c lo hi g - (hi - ↑d) + 1600).toNat
  have hv2:=hv2 (fwN n c lo hi g + 1600).toNat
  generalize hF : fwN n c lo hi g = F at *
  generalize hV1 : tab n c lo hi (g + 1) (c g + F - (hi - ↑d) + 1600).toNat = V1 at *
  generalize hV2 : tab n c lo hi g (F + 1600).toNat = V2 at *
  have hdw : lo <= hi - d -> d < wid lo hi:=fun h=>by omega
  have hfg : ∀ v,fwN n c lo hi (g + 1) = v -> ∀ j,j < g + 1 -> nrmL (catE g (fun k=>[AV.si IntKind.i64 (fwF n c lo hi k)]) (rowAt 1 [AV.si IntKind.i64 v]) j) = [AV.si IntKind.i64 (fwF n c lo hi j)]:=fun v hv j hj =>
   app_one hj (fun _=>rfl) (fun e=>by subst e; rw [fwF_eq,hv]; rfl)
  refine ⟨fun hdl=>?_,fun hdl=>?_⟩
  ·refine ⟨by omega,by omega,by omega,by omega,by omega,fun _ _=>by omega,fun _ _=>by omega,fun _ _=>by omega,fun _ _=>by omega,fun _ _=>by omega,fun _ _=>by omega,fun _ _=>by omega,fun _ _=>by omega,fun _ _=>by omega,fun a b hq=>?_,fun hx=>?_⟩
   ·have hB : fwB n c lo hi g F d = true:=(fwB_iff rfl).2 ⟨⟨a,b⟩,by rw [hV1,hV2]; exact hq⟩
    rw [fwS_at hd (hdw hdl) hB] at hS
    exact ⟨by omega,by omega,by omega,g + 1,hS.symm,by omega,rfl,hfg _ hS,by omega,by omega⟩
   ·have hB : fwB n c lo hi g F d = false:=fwB_no rfl fun h=>hx h.1.1 h.1.2 (by rw [hV1,hV2] at h; exact h.2)
    rw [hfl] at hd ⊢
    have:=firstN_ge hd hB (hdw hdl)
    exact ⟨by omega,by omega,d + 1,by omega,this,by omega⟩
  ·rw [fwS_no (by omega)] at hS
   exact ⟨by omega,by omega,by omega,g + 1,hS.symm,by omega,rfl,hfg _ hS,by omega,by omega⟩
 ·obtain rfl : g = n - 1:=by omega
  have hfi : ∀ k,-2000 <= fwF n c lo hi k /\ fwF n c lo hi k <= 2000:=fun k=>by
   have:=fwN_in (n:=n) (c:=c) (lo:=lo) (hi:=hi) (k + 1)
   rw [fwF_eq]; omega
  refine ⟨by omega,fun k _=>hfi k,l1,l2,by omega,l3,fun k _=>hfi k,(okN_0 he).symm,(okI_0 he).symm,(okN_0 he).symm,fun j _=>?_,he.symm⟩
  unfold fewP; rfl
noncomputable def S9 : Sums:=⟨(27,mkSum _ fwsS) :: S8.one,S8.two,S8.lo,S8.eqs,S8.its,S8.imm⟩
theorem S9_ok : SumsOK Tryz.prog S9:=(S8_ok.cons Tryz.func27 (by kernel_rfl) (by kernel_rfl) fws_ok)
end
end Abs
end Go.Proofs.YtlacopdaibhkkaaGreat

namespace Go.Proofs.YtlacopdaibhkkaaGreat
namespace Abs
open Go
@[irreducible] def segN (c : Nat -> Int) (a k : Nat) : Int:=sumN (fun j=>c (a + j)) k
@[simp] theorem segN_zero (c : Nat -> Int) (a : Nat) : segN c a 0 = 0:=by unfold segN; simp
@[simp] theorem segN_succ (c : Nat -> Int) (a k : Nat) : segN c a (k + 1) = segN c a k + c (a + k):=by unfold segN; simp
theorem segN_in {c : Nat -> Int} {a k n : Nat} (h : ∀ j,j < n -> 0 <= c j /\ c j <= 100) (hk : a + k <= n) : 0 <= segN c a k /\ segN c a k <= k * 100:=by
 unfold segN
 exact ⟨sumN_nn fun j hj=>(h _ (by omega)).1,(sumN_in (M:=100) fun j hj=>by have:=h (a + j) (by omega); omega).2⟩
@[irreducible] def endsN (n a b : Nat) : Int:=(if 0 < a then 1 else 0) + (if b + 1 < n then 1 else 0)
theorem endsN_eq (n a b : Nat) : endsN n a b = (if 0 < a then 1 else 0) + (if b + 1 < n then 1 else 0):=by unfold endsN; rfl
theorem endsN_in (n a b : Nat) : 0 <= endsN n a b /\ endsN n a b <= 2:=by rw [endsN_eq]; split <;> split <;> omega
@[irreducible] def excN (c : Nat -> Int) (lo hi : Int) (a b : Nat) : Int:=max (max 0 (segN c a (b - a + 1) - ((b : Int) - a + 1) * hi)) (((b : Int) - a + 1) * lo - segN c a (b - a + 1))
theorem excN_eq (c : Nat -> Int) (lo hi : Int) (a b : Nat) : excN c lo hi a b = max (max 0 (segN c a (b - a + 1) - ((b : Int) - a + 1) * hi)) (((b : Int) - a + 1) * lo - segN c a (b - a + 1)):=by unfold excN; rfl
@[irreducible] def ndN (n : Nat) (c : Nat -> Int) (lo hi : Int) (a b : Nat) : Int:=if endsN n a b = 0 then 0 else (excN c lo hi a b + endsN n a b - 1).tdiv (endsN n a b)
theorem ndN_0 {n : Nat} {c : Nat -> Int} {lo hi : Int} {a b : Nat} (h : endsN n a b = 0) : ndN n c lo hi a b = 0:=by unfold ndN; rw [if_pos h]
theorem ndN_n {n : Nat} {c : Nat -> Int} {lo hi : Int} {a b : Nat} (h : endsN n a b ≠ 0) : ndN n c lo hi a b = (excN c lo hi a b + endsN n a b - 1).tdiv (endsN n a b):=by unfold ndN; rw [if_neg h]
@[irreducible] def ndB (n : Nat) (c : Nat -> Int) (lo hi : Int) (a b : Nat) : Bool:=!(decide (endsN n a b = 0)) || decide (excN c lo hi a b = 0)
theorem ndB_0 {n : Nat} {c : Nat -> Int} {lo hi : Int} {a b : Nat} (h : endsN n a b = 0) : ndB n c lo hi a b = decide (excN c lo hi a b = 0):=by unfold ndB; simp [h]
theorem ndB_n {n : Nat} {c : Nat -> Int} {lo hi : Int} {a b : Nat} (h : endsN n a b ≠ 0) : ndB n c lo hi a b = true:=by unfold ndB; simp [h]
theorem mul_b {x h : Int} (h0 : 0 <= x) (h1 : x <= 16) (h2 : 0 <= h) (h3 : h <= 100) : 0 <= x * h /\ x * h <= 1600:=by
 have a:=Int.mul_nonneg h0 h2
 have b : x * h <= 16 * h:=Int.mul_le_mul_of_nonneg_right h1 h2
 omega
theorem excN_in {c : Nat -> Int} {lo hi : Int} {a b n : Nat} (hn : n <= 16) (hab : a <= b) (hb : b < n) (h : ∀ j,j < n -> 0 <= c j /\ c j <= 100) (l0 : 0 <= lo) (l1 : lo <= 100) (h0 : 0 <= hi) (h1 : hi <= 100) : 0 <= excN c lo hi a b /\ excN c lo hi a b <= 1600:=by
 rw [excN_eq]
 have p1:=mul_b (x:=(b : Int) - a + 1) (h:=hi) (by omega) (by omega) h0 h1
 have p2:=mul_b (x:=(b : Int) - a + 1) (h:=lo) (by omega) (by omega) l0 l1
 have p3:=segN_in (a:=a) (k:=b - a + 1) h (by omega)
 omega
theorem ndN_in {c : Nat -> Int} {lo hi : Int} {a b n : Nat} (hn : n <= 16) (hab : a <= b) (hb : b < n) (h : ∀ j,j < n -> 0 <= c j /\ c j <= 100) (l0 : 0 <= lo) (l1 : lo <= 100) (h0 : 0 <= hi) (h1 : hi <= 100) : 0 <= ndN n c lo hi a b /\ ndN n c lo hi a b <= 1600:=by
 have he:=excN_in hn hab hb h l0 l1 h0 h1
 have hd:=endsN_in n a b
 by_cases e : endsN n a b = 0
 ·rw [ndN_0 e]; omega
 ·rw [ndN_n e]
  rcases (show endsN n a b = 1 \/ endsN n a b = 2 by omega) with e1 | e1
  ·rw [e1,Int.tdiv_one]; omega
  ·rw [e1,Int.tdiv_eq_ediv_of_nonneg (by omega)]; omega
structure Qk where
 t : Int
 a : Int
 b : Int
def qStep (n : Nat) (c : Nat -> Int) (lo hi : Int) (q : Qk) (a b : Nat) : Qk:=if q.t < ndN n c lo hi a b \/ a + b = 0 then ⟨ndN n c lo hi a b,a,b⟩ else q
def qIn (n : Nat) (c : Nat -> Int) (lo hi : Int) (q : Qk) (a : Nat) : Nat -> Qk
 | 0=>q
 | k + 1=>qStep n c lo hi (qIn n c lo hi q a k) a (a + k)
def qOut (n : Nat) (c : Nat -> Int) (lo hi : Int) : Nat -> Qk
 | 0=>⟨0,0,0⟩
 | a + 1=>qIn n c lo hi (qOut n c lo hi a) a (n - a)
def qAt (n : Nat) (c : Nat -> Int) (lo hi : Int) (a k : Nat) : Qk:=qIn n c lo hi (qOut n c lo hi a) a k
@[irreducible] def qT (n : Nat) (c : Nat -> Int) (lo hi : Int) (a k : Nat) : Int:=(qAt n c lo hi a k).t
@[irreducible] def qF (n : Nat) (c : Nat -> Int) (lo hi : Int) (a k : Nat) : Int:=(qAt n c lo hi a k).a
@[irreducible] def qO (n : Nat) (c : Nat -> Int) (lo hi : Int) (a k : Nat) : Int:=(qAt n c lo hi a k).b
theorem qAt_00 (n : Nat) (c : Nat -> Int) (lo hi : Int) : qT n c lo hi 0 0 = 0 /\ qF n c lo hi 0 0 = 0 /\ qO n c lo hi 0 0 = 0:=by unfold qT qF qO; exact ⟨rfl,rfl,rfl⟩
theorem qAt_row (n : Nat) (c : Nat -> Int) (lo hi : Int) (a : Nat) : qT n c lo hi (a + 1) 0 = qT n c lo hi a (n - a) /\ qF n c lo hi (a + 1) 0 = qF n c lo hi a (n - a) /\ qO n c lo hi (a + 1) 0 = qO n c lo hi a (n - a):=by unfold qT qF qO; exact ⟨rfl,rfl,rfl⟩
theorem qAt_yes {n : Nat} {c : Nat -> Int} {lo hi : Int} {a k : Nat} (h : qT n c lo hi a k < ndN n c lo hi a (a + k) \/ a + (a + k) = 0) : qT n c lo hi a (k + 1) = ndN n c lo hi a (a + k) /\ qF n c lo hi a (k + 1) = a /\ qO n c lo hi a (k + 1) = a + k:=by
 have e : qAt n c lo hi a (k + 1) = ⟨ndN n c lo hi a (a + k),a,((a + k : Nat) : Int)⟩:=by
  show qStep n c lo hi (qAt n c lo hi a k) a (a + k) = _
  unfold qT at h
  unfold qStep; rw [if_pos h]
 unfold qT qF qO; rw [e]; exact ⟨rfl,rfl,by simp⟩
theorem qAt_no {n : Nat} {c : Nat -> Int} {lo hi : Int} {a k : Nat} (h : ¬ (qT n c lo hi a k < ndN n c lo hi a (a + k) \/ a + (a + k) = 0)) : qT n c lo hi a (k + 1) = qT n c lo hi a k /\ qF n c lo hi a (k + 1) = qF n c lo hi a k /\ qO n c lo hi a (k + 1) = qO n c lo hi a k:=by
 have e : qAt n c lo hi a (k + 1) = qAt n c lo hi a k:=by
  show qStep n c lo hi (qAt n c lo hi a k) a (a + k) = _
  unfold qT at h
  unfold qStep; rw [if_neg h]
 unfold qT qF qO; rw [e]; exact ⟨rfl,rfl,rfl⟩
def wdL0 (n : Nat) (c : Nat -> Int) (lo t : Int) : Nat -> Int
 | 0=>0
 | d + 1=>max (-t) (wdL0 n c lo t d + lo - c (n - 1 - d))
def wdH0 (n : Nat) (c : Nat -> Int) (hi t : Int) : Nat -> Int
 | 0=>0
 | d + 1=>min t (wdH0 n c hi t d + hi - c (n - 1 - d))
@[irreducible] def wdL (n : Nat) (c : Nat -> Int) (lo t : Int) (i : Nat) : Int:=wdL0 n c lo t (n - i)
@[irreducible] def wdH (n : Nat) (c : Nat -> Int) (hi t : Int) (i : Nat) : Int:=wdH0 n c hi t (n - i)
theorem wdL_n (n : Nat) (c : Nat -> Int) (lo t : Int) : wdL n c lo t n = 0:=by unfold wdL; rw [Nat.sub_self]; rfl
theorem wdH_n (n : Nat) (c : Nat -> Int) (hi t : Int) : wdH n c hi t n = 0:=by unfold wdH; rw [Nat.sub_self]; rfl
theorem wdL_at {n : Nat} {c : Nat -> Int} {lo t : Int} {i : Nat} (h : i < n) : wdL n c lo t i = max (-t) (wdL n c lo t (i + 1) + lo - c i):=by
 unfold wdL
 obtain ⟨d,e⟩ : ∃ d,n - i = d + 1:=⟨n - i - 1,by omega⟩
 rw [e,wdL0,show n - 1 - d = i by omega,show n - (i + 1) = d by omega]
theorem wdH_at {n : Nat} {c : Nat -> Int} {hi t : Int} {i : Nat} (h : i < n) : wdH n c hi t i = min t (wdH n c hi t (i + 1) + hi - c i):=by
 unfold wdH
 obtain ⟨d,e⟩ : ∃ d,n - i = d + 1:=⟨n - i - 1,by omega⟩
 rw [e,wdH0,show n - 1 - d = i by omega,show n - (i + 1) = d by omega]
theorem wdL_in {n : Nat} {c : Nat -> Int} {lo t : Int} (h : ∀ j,j < n -> 0 <= c j /\ c j <= 100) (l0 : 0 <= lo) (l1 : lo <= 100) (t0 : 0 <= t) : ∀ {d i : Nat},n - i = d -> i <= n -> -t <= wdL n c lo t i /\ wdL n c lo t i <= 100 * d
 | 0,i,e,hi=>by obtain rfl : i = n:=by omega
                rw [wdL_n]; omega
 | d + 1,i,e,hi=>by
   have ih:=wdL_in h l0 l1 t0 (d:=d) (i:=i + 1) (by omega) (by omega)
   have hc:=h i (by omega)
   rw [wdL_at (by omega)]; omega
theorem wdH_in {n : Nat} {c : Nat -> Int} {hi t : Int} (h : ∀ j,j < n -> 0 <= c j /\ c j <= 100) (l0 : 0 <= hi) (l1 : hi <= 100) (t0 : 0 <= t) : ∀ {d i : Nat},n - i = d -> i <= n -> -(100 * d) <= wdH n c hi t i /\ wdH n c hi t i <= t
 | 0,i,e,hi'=>by obtain rfl : i = n:=by omega
                 rw [wdH_n]; omega
 | d + 1,i,e,hi'=>by
   have ih:=wdH_in h l0 l1 t0 (d:=d) (i:=i + 1) (by omega) (by omega)
   have hc:=h i (by omega)
   rw [wdH_at (by omega)]; omega
@[irreducible] def wdX (n : Nat) (c : Nat -> Int) (lo hi t : Int) (i : Nat) : Bool:=decide (wdH n c hi t i < wdL n c lo t i)
theorem wdX_f {n : Nat} {c : Nat -> Int} {lo hi t : Int} {i : Nat} : wdX n c lo hi t i = false ↔ wdL n c lo t i <= wdH n c hi t i:=by unfold wdX; simp
@[irreducible] def slB (n : Nat) (c : Nat -> Int) (lo hi t : Int) : Bool:=!(anyN (wdX n c lo hi t) n) && isIn (wdL n c lo t 0) 0 (wdH n c hi t 0)
theorem slB_t {n : Nat} {c : Nat -> Int} {lo hi t : Int} : slB n c lo hi t = true ↔ (∀ i,i < n -> wdL n c lo t i <= wdH n c hi t i) /\ wdL n c lo t 0 <= 0 /\ 0 <= wdH n c hi t 0:=by
 unfold slB
 rw [Bool.and_eq_true,Bool.not_eq_true',anyN_false]
 simp only [isIn_eq,Bool.and_eq_true,decide_eq_true_eq]
 exact ⟨fun h=>⟨fun i hi=>wdX_f.1 (h.1 i hi),h.2⟩,fun h=>⟨fun i hi=>wdX_f.2 (h.1 i hi),h.2⟩⟩
theorem slB_f {n : Nat} {c : Nat -> Int} {lo hi t : Int} (h : ¬ ((∀ i,i < n -> wdL n c lo t i <= wdH n c hi t i) /\ wdL n c lo t 0 <= 0 /\ 0 <= wdH n c hi t 0)) : slB n c lo hi t = false:=by
 cases h' : slB n c lo hi t with
 | false=>rfl
 | true=>exact absurd (slB_t.1 h') h
def slN0 (n : Nat) (c : Nat -> Int) (lo hi t : Int) : Nat -> Int
 | 0=>0
 | i + 1=>max (wdL n c lo t (i + 1)) (c i + slN0 n c lo hi t i - hi)
@[irreducible] def slN (n : Nat) (c : Nat -> Int) (lo hi t : Int) (i : Nat) : Int:=slN0 n c lo hi t i
@[simp] theorem slN_zero (n : Nat) (c : Nat -> Int) (lo hi t : Int) : slN n c lo hi t 0 = 0:=by unfold slN; rfl
theorem slN_succ (n : Nat) (c : Nat -> Int) (lo hi t : Int) (i : Nat) : slN n c lo hi t (i + 1) = max (wdL n c lo t (i + 1)) (c i + slN n c lo hi t i - hi):=by unfold slN; rfl
@[irreducible] def slF (n : Nat) (c : Nat -> Int) (lo hi t : Int) (i : Nat) : Int:=slN n c lo hi t (i + 1)
theorem slF_eq (n : Nat) (c : Nat -> Int) (lo hi t : Int) (i : Nat) : slF n c lo hi t i = slN n c lo hi t (i + 1):=by unfold slF; rfl
theorem slN_in {n : Nat} {c : Nat -> Int} {lo hi t : Int} (h : ∀ j,j < n -> 0 <= c j /\ c j <= 100) (l0 : 0 <= lo) (l1 : lo <= 100) (h0 : 0 <= hi) (t0 : 0 <= t) : ∀ {i : Nat},i <= n -> -t <= slN n c lo hi t i /\ slN n c lo hi t i <= 100 * n + 100 * i
 | 0,_=>by simp; omega
 | i + 1,hi'=>by
   have ih:=slN_in h l0 l1 h0 t0 (i:=i) (by omega)
   have hw:=wdL_in (c:=c) (lo:=lo) (t:=t) h l0 l1 t0 (d:=n - (i + 1)) (i:=i + 1) rfl hi'
   have hc:=h i (by omega)
   rw [slN_succ]; omega
@[irreducible] def slL (n : Nat) (c : Nat -> Int) (lo hi t : Int) : Nat:=if slB n c lo hi t = true then n - 1 else 0
theorem slL_t {n : Nat} {c : Nat -> Int} {lo hi t : Int} (h : slB n c lo hi t = true) : slL n c lo hi t = n - 1:=by unfold slL; rw [if_pos h]
theorem slL_f {n : Nat} {c : Nat -> Int} {lo hi t : Int} (h : slB n c lo hi t = false) : slL n c lo hi t = 0:=by unfold slL; rw [h]; rfl
@[irreducible] def qckT (n : Nat) (c : Nat -> Int) (lo hi : Int) : Int:=qT n c lo hi n 0
theorem qckT_eq (n : Nat) (c : Nat -> Int) (lo hi : Int) : qckT n c lo hi = qT n c lo hi n 0:=by unfold qckT; rfl
end Abs
end Go.Proofs.YtlacopdaibhkkaaGreat

namespace Go.Proofs.YtlacopdaibhkkaaGreat
namespace Abs
open Go Go.RowKit
noncomputable section
def ndS : Spec [tkSh,.int .i64,.int .i64]:=⟨fun (((n,c),(lo : Int),(hi : Int),_),(a : Int),(b : Int),_)=>n <= 16 /\ 0 <= lo /\ lo <= 100 /\ 0 <= hi /\ hi <= 100 /\ (∀ k,k < n -> 0 <= (c k).1 /\ (c k).1 <= 100) /\ 0 <= a /\ a <= b /\ b < n,
 fun (((n,c),(lo : Int),(hi : Int),_),(a : Int),(b : Int),_)=>.tup [.si .i64 (ndN n (fun k=>(c k).1) lo hi (nat a) (nat b)),.sb (ndB n (fun k=>(c k).1) lo hi (nat a) (nat b))]⟩
def ndI : DatL [tkSh,.int .i64,.int .i64] -> Anns:=fun (((n,c),(lo : Int),(hi : Int),_),(a : Int),(b : Int),_)=>[
 (3,[],fun fr hp=>⟨Nat,fun g=>⟨frI [.k 8,.s (.si .i64 (segN (fun k=>(c k).1) (nat a) g)),.k 2,.t 1,.k 9,.s (.si .i64 (icast g)),.t 46] fr,hp⟩,Nat × Int,fun g=>(g,isub b a),fun (g,q)=>g <= q + 1,fun g=>nsub 17 g⟩)]
set_option maxRecDepth 100000 in
theorem nd_ok : FnSpec Tryz.prog 101 _ ndS:=by
 refine FnSpec.of S9_ok mixed (U:=0) (I:=ndI) Tryz.func101 rfl (by kernel_rfl) rfl rfl (by decide +kernel) ?_
 rintro ⟨⟨⟨n,c'⟩,(lo : Int),(hi : Int),⟨⟩⟩,(a : Int),(b : Int),⟨⟩⟩ ⟨(h1 : n <= 16),(h2 : 0 <= lo),(h3 : lo <= 100),(h4 : 0 <= hi),(h5 : hi <= 100),(h6 : ∀ k,k < n -> 0 <= (c' k).1 /\ (c' k).1 <= 100),(h7 : 0 <= a),(h8 : a <= b),(h9 : b < n)⟩
 obtain ⟨c,rfl⟩ : ∃ c : Nat -> Int,c' = fun k=>(c k,()):=⟨fun k=>(c' k).1,rfl⟩
 have h6 : ∀ k,k < n -> 0 <= c k /\ c k <= 100:=h6
 unfold FnSat
 conv=>arg 2; reduce
 simp [ndS,ElEq,getB,goneB,aliveB,and_assoc]
 have e1 : (fun k=>c k) = c:=rfl
 simp only [e1]
 obtain ⟨x,rfl⟩:=Int.eq_ofNat_of_zero_le h7
 obtain ⟨y,rfl⟩:=Int.eq_ofNat_of_zero_le (Int.le_trans h7 h8)
 simp only [Int.toNat_natCast]
 have p1:=mul_b (x:=(y : Int) - x + 1) (h:=hi) (by omega) (by omega) h4 h5
 have p2:=mul_b (x:=(y : Int) - x + 1) (h:=lo) (by omega) (by omega) h2 h3
 refine ⟨by omega,by omega,by omega,by omega,by omega,⟨0,by simp,by omega,by omega⟩,fun g hg=>?_⟩
 have hs:=segN_in (a:=x) (k:=g) h6 (by omega)
 refine ⟨fun hlt=>?_,fun hge=>?_⟩
 ·have hc:=h6 (x + g) (by omega)
  exact ⟨hlt,by omega,by omega,by omega,by omega,g + 1,by simp,by omega,by omega,by omega⟩
 obtain rfl : g = y - x + 1:=by omega
 have E : max 0 (max (segN c x (y - x + 1) - ((y : Int) - x + 1) * hi) (((y : Int) - x + 1) * lo - segN c x (y - x + 1))) = excN c lo hi x y:=by rw [excN_eq]; omega
 have he:=excN_in (c:=c) (lo:=lo) (hi:=hi) (a:=x) (b:=y) h1 (by omega) (by omega) h6 h2 h3 h4 h5
 rw [E]
 have n0 : endsN n x y = 0 -> ndN n c lo hi x y = 0 /\ ndB n c lo hi x y = decide (excN c lo hi x y = 0):=fun h=>⟨ndN_0 h,ndB_0 h⟩
 have n1 : endsN n x y ≠ 0 -> ndN n c lo hi x y = (excN c lo hi x y + endsN n x y - 1).tdiv (endsN n x y) /\ ndB n c lo hi x y = true:=fun h=>⟨ndN_n h,ndB_n h⟩
 have en:=endsN_eq n x y
 generalize excN c lo hi x y = X at *
 refine ⟨fun hx=>⟨by omega,by omega,fun hy=>?_,fun hy=>?_⟩,fun hx=>⟨by omega,by omega,fun hy=>?_,fun hy=>?_⟩⟩
 ·rw [if_pos (by omega),if_pos (by omega)] at en
  have en : endsN n x y = 2:=en
  rw [en] at n1
  obtain ⟨q1,q2⟩:=n1 (by omega)
  have hq : (X + 2 - 1).tdiv 2 = (X + 2 - 1) / 2:=Int.tdiv_eq_ediv_of_nonneg (by omega)
  rw [hq] at q1 ⊢
  repeat' refine And.intro ?_ ?_
  all_goals first | omega | exact q2
 ·rw [if_pos (by omega),if_neg (by omega)] at en
  have en : endsN n x y = 1:=en
  rw [en] at n1
  obtain ⟨q1,q2⟩:=n1 (by omega)
  rw [Int.tdiv_one] at q1
  repeat' refine And.intro ?_ ?_
  all_goals first | omega | exact q2
 ·rw [if_neg (by omega),if_pos (by omega)] at en
  have en : endsN n x y = 1:=en
  rw [en] at n1
  obtain ⟨q1,q2⟩:=n1 (by omega)
  rw [Int.tdiv_one] at q1
  repeat' refine And.intro ?_ ?_
  all_goals first | omega | exact q2
 ·rw [if_neg (by omega),if_neg (by omega)] at en
  have en : endsN n x y = 0:=en
  obtain ⟨q1,q2⟩:=n0 en
  rw [q2]
  repeat' refine And.intro ?_ ?_
  all_goals first | omega | exact beq_dec _ _ | skip
  all_goals trace_state
noncomputable def S10 : Sums:=⟨(101,mkSum _ ndS) :: S9.one,S9.two,S9.lo,S9.eqs,S9.its,S9.imm⟩
theorem S10_ok : SumsOK Tryz.prog S10:=(S9_ok.cons Tryz.func101 (by kernel_rfl) (by kernel_rfl) nd_ok)
def gsS : Spec [tkSh]:=⟨fun (((n,c),(lo : Int),(hi : Int),_),_)=>n <= 16 /\ 0 <= lo /\ lo <= 100 /\ 0 <= hi /\ hi <= 100 /\ (∀ k,k < n -> 0 <= (c k).1 /\ (c k).1 <= 100),
 fun (((n,c),(lo : Int),(hi : Int),_),_)=>.agg [.v (.slice none 0 0),.si .i64 (qT n (fun k=>(c k).1) lo hi n 0),.si .i64 (qF n (fun k=>(c k).1) lo hi n 0),.si .i64 (qO n (fun k=>(c k).1) lo hi n 0)]⟩
def gsI : DatL [tkSh] -> Anns:=fun (((n,c),(lo : Int),(hi : Int),_),_)=>[
 (2,[],fun fr hp=>⟨Nat,fun g=>⟨frI [.k 3,.t 4,.k 3,.s (.si .i64 (icast g)),.t 33] fr,setB hp 0 (.cells 67 [.v (.slice none 0 0),.si .i64 (qT n (fun k=>(c k).1) lo hi g 0),.si .i64 (qF n (fun k=>(c k).1) lo hi g 0),.si .i64 (qO n (fun k=>(c k).1) lo hi g 0)])⟩,Nat × Nat,fun g=>(n,g),fun (n,g)=>g <= n,fun g=>nsub n g⟩),
 (5,[],fun fr hp=>⟨Nat,fun k=>⟨frI [.k 4,.s (.si .i64 (iadd (intOf (getL fr 3)) (icast k))),.t 2,.k 7,.t 30] fr,setB hp 0 (.cells 67 [.v (.slice none 0 0),.si .i64 (qT n (fun k=>(c k).1) lo hi (nat (intOf (getL fr 3))) k),.si .i64 (qF n (fun k=>(c k).1) lo hi (nat (intOf (getL fr 3))) k),.si .i64 (qO n (fun k=>(c k).1) lo hi (nat (intOf (getL fr 3))) k)])⟩,Nat × Nat,fun k=>(k,nsub n (nat (intOf (getL fr 3)))),fun (k,q)=>k <= q,fun k=>nsub 17 k⟩)]
set_option maxRecDepth 100000 in
theorem gs_ok : FnSpec Tryz.prog 66 _ gsS:=by
 refine FnSpec.of S10_ok mixed (U:=0) (I:=gsI) Tryz.func66 rfl (by kernel_rfl) rfl rfl (by decide +kernel) ?_
 rintro ⟨⟨⟨n,c'⟩,(lo : Int),(hi : Int),⟨⟩⟩,⟨⟩⟩ ⟨(h1 : n <= 16),(h2 : 0 <= lo),(h3 : lo <= 100),(h4 : 0 <= hi),(h5 : hi <= 100),(h6 : ∀ k,k < n -> 0 <= (c' k).1 /\ (c' k).1 <= 100)⟩
 obtain ⟨c,rfl⟩ : ∃ c : Nat -> Int,c' = fun k=>(c k,()):=⟨fun k=>(c' k).1,rfl⟩
 have h6 : ∀ k,k < n -> 0 <= c k /\ c k <= 100:=h6
 unfold FnSat
 conv=>arg 2; reduce
 simp [gsS,ndS,ElEq,getB,goneB,aliveB,and_assoc]
 have e1 : (fun k=>c k) = c:=rfl
 simp only [e1]
 have q0:=qAt_00 n c lo hi
 refine ⟨⟨0,rfl,q0.1.symm,q0.2.1.symm,q0.2.2.symm,by omega⟩,fun g hg=>⟨fun hlt=>⟨⟨0,by omega,rfl,rfl,rfl,by omega⟩,fun k hk=>⟨fun hkl=>?_,fun hkg=>?_⟩⟩,fun hge=>?_⟩⟩
 ·have hN : ((g : Int) + k).toNat = g + k:=by omega
  rw [hN]
  refine ⟨h1,h2,h3,h4,h5,h6,by omega,by omega,fun _=>by omega,fun hy=>?_,fun hn hz=>?_⟩
  ·obtain ⟨a1,a2,a3⟩:=qAt_yes (n:=n) (c:=c) (lo:=lo) (hi:=hi) (a:=g) (k:=k) (by omega)
   exact ⟨by omega,by omega,k + 1,by omega,a1.symm,a2.symm,a3.symm,by omega,by omega⟩
  ·obtain ⟨a1,a2,a3⟩:=qAt_no (n:=n) (c:=c) (lo:=lo) (hi:=hi) (a:=g) (k:=k) (by omega)
   exact ⟨by omega,by omega,k + 1,by omega,a1.symm,a2.symm,a3.symm,by omega,by omega⟩
 ·obtain rfl : k = n - g:=by omega
  obtain ⟨a1,a2,a3⟩:=qAt_row n c lo hi g
  exact ⟨by omega,by omega,g + 1,by omega,a1.symm,a2.symm,a3.symm,by omega,by omega⟩
 ·obtain rfl : g = n:=by omega
  exact ⟨rfl,rfl,rfl⟩
noncomputable def S11 : Sums:=⟨(66,mkSum _ gsS) :: S10.one,S10.two,S10.lo,S10.eqs,S10.its,S10.imm⟩
theorem S11_ok : SumsOK Tryz.prog S11:=(S10_ok.cons Tryz.func66 (by kernel_rfl) (by kernel_rfl) gs_ok)
end
end Abs
end Go.Proofs.YtlacopdaibhkkaaGreat

namespace Go.Proofs.YtlacopdaibhkkaaGreat
namespace Abs
open Go Go.RowKit
noncomputable section
@[irreducible] def frmL (n : Nat) (c : Nat -> Int) (lo t : Int) (g k : Nat) : Int:=frmV (wdL n c lo t) g k
@[irreducible] def frmH (n : Nat) (c : Nat -> Int) (hi t : Int) (g k : Nat) : Int:=frmV (wdH n c hi t) g k
def slS : Spec [tkSh,.int .i64]:=⟨fun (((n,c),(lo : Int),(hi : Int),_),(t : Int),_)=>1 <= n /\ n <= 16 /\ 0 <= lo /\ lo <= hi /\ hi <= 100 /\ (∀ k,k < n -> 0 <= (c k).1 /\ (c k).1 <= 100) /\ 0 <= t /\ t <= 1600,
 fun (((n,c),(lo : Int),(hi : Int),_),(t : Int),_)=>.tup [.slc (.sym (slL n (fun k=>(c k).1) lo hi t)) 1 (fun k=>[.si .i64 (slF n (fun k=>(c k).1) lo hi t k)]),.sb (slB n (fun k=>(c k).1) lo hi t)]⟩
def slI : DatL [tkSh,.int .i64] -> Anns:=fun (((n,c),(lo : Int),(hi : Int),_),(t : Int),_)=>[
 (4,[],fun fr hp=>⟨Nat,fun g=>⟨frI [.k 8,.s (.si .i64 (isub (icast g) 1)),.t 1,.k 11,.t 89] fr,setB hp 0 (.row 165 2 (.sym (nadd n 1)) (fun k=>[.si .i64 (frmL n (fun k=>(c k).1) lo t g k),.si .i64 (frmH n (fun k=>(c k).1) hi t g k)]))⟩,Nat × Nat × (Nat -> Bool),fun g=>(n,g,wdX n (fun k=>(c k).1) lo hi t),fun (n,g,p)=>g <= n /\ ∀ k,g <= k -> k < n -> p k = false,fun g=>g⟩),
 (15,[(10,3,1)],fun fr hp=>⟨Nat,fun g=>⟨frI [.k 11,.s (.si .i64 (slN n (fun k=>(c k).1) lo hi t g)),.t 1,.k 71,.s (.si .i64 (icast g)),.t 25] fr,setB hp 1 (.row 3 1 (.sym g) (fun k=>[.si .i64 (slF n (fun k=>(c k).1) lo hi t k)]))⟩,Nat × Nat,fun g=>(n,g),fun (n,g)=>g + 1 <= n,fun g=>nsub n g⟩)]
set_option maxRecDepth 100000 in
theorem sl_ok : FnSpec Tryz.prog 67 _ slS:=by
 refine FnSpec.of S11_ok mixed (U:=0) (I:=slI) Tryz.func67 rfl (by kernel_rfl) rfl rfl (by decide +kernel) ?_
 rintro ⟨⟨⟨n,c'⟩,(lo : Int),(hi : Int),⟨⟩⟩,(t : Int),⟨⟩⟩ ⟨(h0 : 1 <= n),(h1 : n <= 16),(h2 : 0 <= lo),(h3 : lo <= hi),(h5 : hi <= 100),(h6 : ∀ k,k < n -> 0 <= (c' k).1 /\ (c' k).1 <= 100),(t0 : 0 <= t),(t1 : t <= 1600)⟩
 obtain ⟨c,rfl⟩ : ∃ c : Nat -> Int,c' = fun k=>(c k,()):=⟨fun k=>(c' k).1,rfl⟩
 have h6 : ∀ k,k < n -> 0 <= c k /\ c k <= 100:=h6
 unfold FnSat
 conv=>arg 2; reduce
 simp [slS,ElEq,getB,goneB,aliveB,maxRow,and_assoc]
 have e1 : (fun k=>c k) = c:=rfl
 simp only [e1]
 have hL : ∀ g,frmL n c lo t g = frmV (wdL n c lo t) g:=fun g=>by funext k; unfold frmL; rfl
 have hH : ∀ g,frmH n c hi t g = frmV (wdH n c hi t) g:=fun g=>by funext k; unfold frmH; rfl
 simp only [hL,hH]
 refine ⟨by omega,by omega,by omega,by omega,by omega,by omega,⟨n,rfl,fun j hj=>?_,by omega,fun k _ _=>by omega⟩,fun g hg hall=>⟨fun hg1=>?_,fun hg0=>?_⟩⟩
 ·by_cases e : j = n
  ·subst e; rw [frmV_in (by omega),frmV_in (by omega),wdL_n,wdH_n]; exact ⟨rfl,rfl⟩
  ·rw [frmV_out (by omega),frmV_out (by omega)]; exact ⟨rfl,rfl⟩
 ·have bL:=wdL_in (c:=c) (lo:=lo) (t:=t) h6 h2 (by omega) t0 (d:=n - g) (i:=g) rfl hg
  have bH:=wdH_in (c:=c) (hi:=hi) (t:=t) h6 (by omega) h5 t0 (d:=n - g) (i:=g) rfl hg
  have hc:=h6 (g - 1) (by omega)
  have aL:=wdL_at (c:=c) (lo:=lo) (t:=t) (n:=n) (i:=g - 1) (by omega)
  have aH:=wdH_at (c:=c) (hi:=hi) (t:=t) (n:=n) (i:=g - 1) (by omega)
  rw [show g - 1 + 1 = g by omega] at aL aH
  have eL : frmV (wdL n c lo t) g g = wdL n c lo t g:=frmV_in (Nat.le_refl _)
  have eH : frmV (wdH n c hi t) g g = wdH n c hi t g:=frmV_in (Nat.le_refl _)
  rw [eL,eH]
  refine ⟨by omega,by omega,by omega,by omega,by omega,by omega,by omega,by omega,by omega,by omega,by omega,by omega,by omega,by omega,by omega,by omega,by omega,by omega,fun hx=>?_,fun hy=>?_⟩
  ·have hf:=slB_f (n:=n) (c:=c) (lo:=lo) (hi:=hi) (t:=t) fun h=>by have:=h.1 (g - 1) (by omega); omega
   exact ⟨slL_f hf,hf⟩
  ·refine ⟨by omega,by omega,by omega,by omega,g - 1,by omega,fun j hj=>?_,by omega,fun k h1 h2=>?_,by omega⟩
   ·by_cases e : j = g - 1
    ·subst e; rw [if_pos rfl,if_pos rfl,frmV_in (Nat.le_refl _),frmV_in (Nat.le_refl _)]; exact ⟨aL.symm,aH.symm⟩
    ·rw [if_neg e,if_neg e]
     by_cases h : g <= j
     ·rw [frmV_in h,frmV_in h,frmV_in (by omega),frmV_in (by omega)]; exact ⟨rfl,rfl⟩
     ·rw [frmV_out (by omega),frmV_out (by omega),frmV_out (by omega),frmV_out (by omega)]; exact ⟨rfl,rfl⟩
   ·by_cases e : k = g - 1
    ·subst e; exact wdX_f.2 (by omega)
    ·exact hall k (by omega) h2
 ·obtain rfl : g = 0:=by omega
  have eV : ∀ (V : Nat -> Int) k,frmV V 0 k = V k:=fun V k=>frmV_in (by omega)
  simp only [eV]
  have hx : ∀ i,i < n -> wdL n c lo t i <= wdH n c hi t i:=fun i hi=>wdX_f.1 (hall i (by omega) hi)
  refine ⟨fun hb=>?_,fun hb1 hb2=>?_⟩
  ·have hf:=slB_f (n:=n) (c:=c) (lo:=lo) (hi:=hi) (t:=t) fun h=>by omega
   exact ⟨slL_f hf,hf⟩
  have ht:=slB_t.2 ⟨hx,hb1,hb2⟩
  refine ⟨by omega,by omega,⟨0,by simp,rfl,rfl,by omega,by omega⟩,fun g hg=>⟨fun hlt=>?_,fun hge=>⟨by rw [slL_t ht]; omega,ht⟩⟩⟩
  have hs:=slN_in (c:=c) (lo:=lo) (hi:=hi) (t:=t) h6 h2 (by omega) (by omega) t0 (i:=g) (by omega)
  have hc:=h6 g (by omega)
  have hS:=slN_succ n c lo hi t g
  refine ⟨by omega,by omega,by omega,by omega,by omega,by omega,by omega,by omega,by omega,by omega,by omega,g + 1,hS.symm,by omega,rfl,fun j hj=>app_one hj (fun _=>rfl) (fun e=>by subst e; rw [slF_eq,hS]; rfl),by omega,by omega⟩
noncomputable def S12 : Sums:=⟨(67,mkSum _ slS) :: S11.one,S11.two,S11.lo,S11.eqs,S11.its,S11.imm⟩
theorem S12_ok : SumsOK Tryz.prog S12:=(S11_ok.cons Tryz.func67 (by kernel_rfl) (by kernel_rfl) sl_ok)
@[irreducible] def qckL (n : Nat) (c : Nat -> Int) (lo hi : Int) : Nat:=okN (fewE n c lo hi) (slL n c lo hi (qckT n c lo hi))
@[irreducible] def qckF (n : Nat) (c : Nat -> Int) (lo hi : Int) (k : Nat) : Int:=slF n c lo hi (qckT n c lo hi) k
def qckS : Spec [lvlSh,.int .i64,.int .i64]:=⟨fun _=>True,fun ((n,c),(lo : Int),(hi : Int),_)=>.tup [.agg [.slc (.sym (qckL n (fun k=>(c k).1) lo hi)) 1 (fun k=>[.si .i64 (qckF n (fun k=>(c k).1) lo hi k)]),
 .si .i64 (okI (fewE n (fun k=>(c k).1) lo hi) (qckT n (fun k=>(c k).1) lo hi)),.si .i64 (okI (fewE n (fun k=>(c k).1) lo hi) (qF n (fun k=>(c k).1) lo hi n 0)),.si .i64 (okI (fewE n (fun k=>(c k).1) lo hi) (qO n (fun k=>(c k).1) lo hi n 0))],.si .i64 (fewE n (fun k=>(c k).1) lo hi)]⟩
theorem qAt_in {n : Nat} {c : Nat -> Int} {lo hi : Int} (h1 : n <= 16) (h6 : ∀ k,k < n -> 0 <= c k /\ c k <= 100) (h2 : 0 <= lo) (h3 : lo <= 100) (h4 : 0 <= hi) (h5 : hi <= 100) : ∀ g k : Nat,(g < n -> k <= n - g) -> g <= n -> (g = n -> k = 0) -> 0 <= qT n c lo hi g k /\ qT n c lo hi g k <= 1600
 | 0,0,_,_,_=>by rw [(qAt_00 n c lo hi).1]; omega
 | g + 1,0,_,hg,_=>by rw [(qAt_row n c lo hi g).1]; exact qAt_in h1 h6 h2 h3 h4 h5 g (n - g) (fun _=>Nat.le_refl _) (by omega) (fun e=>by omega)
 | g,k + 1,hk,hg,he=>by
   have ih:=qAt_in h1 h6 h2 h3 h4 h5 g k (fun h=>by have:=hk h; omega) hg (fun e=>by have:=he e; omega)
   have hgn : g < n:=by rcases Nat.lt_or_ge g n with h | h
                        ·exact h
                        ·have:=he (by omega); omega
   have:=hk hgn
   have hN:=ndN_in (a:=g) (b:=g + k) (lo:=lo) (hi:=hi) h1 (by omega) (by omega) h6 h2 h3 h4 h5
   by_cases h : qT n c lo hi g k < ndN n c lo hi g (g + k) \/ g + (g + k) = 0
   ·rw [(qAt_yes h).1]; exact hN
   ·rw [(qAt_no h).1]; exact ih
termination_by g k=>(g,k)
set_option maxRecDepth 100000 in
theorem qck_ok : FnSpec Tryz.prog 28 _ qckS:=by
 refine FnSpec.of S12_ok mixed (U:=0) (I:=fun _=>[]) Tryz.func28 rfl (by kernel_rfl) rfl rfl (by decide +kernel) ?_
 rintro ⟨⟨n,c'⟩,(lo : Int),(hi : Int),⟨⟩⟩ -
 obtain ⟨c,rfl⟩ : ∃ c : Nat -> Int,c' = fun k=>(c k,()):=⟨fun k=>(c' k).1,rfl⟩
 unfold FnSat
 conv=>arg 2; reduce
 simp [qckS,bdS,poS,gsS,slS,ElEq,getB,goneB,aliveB,maxRow,and_assoc]
 have e1 : (fun k=>c k) = c:=rfl
 simp only [e1]
 refine ⟨fun h=>?_,fun h=>?_⟩
 ·have e:=fewE_bd (n:=n) (c:=c) (lo:=lo) (hi:=hi) h
  have he : fewE n c lo hi ≠ 0:=by rw [e]; exact h
  exact ⟨by unfold qckL; exact okN_e he,(okI_e he).symm,(okI_e he).symm,(okI_e he).symm,e.symm⟩
 obtain ⟨hl,b1,b2,b3⟩:=bdE_0.1 h
 obtain ⟨l1,l2,l3⟩:=lvE_0.1 hl
 refine ⟨l2,b1,by omega,by omega,b3,l3,fun hs=>?_,fun p1 p2=>?_⟩
 ·have e:=fewE_18 (n:=n) (c:=c) (lo:=lo) (hi:=hi) h (by simp; omega)
  have he : fewE n c lo hi ≠ 0:=by omega
  exact ⟨by unfold qckL; exact okN_e he,(okI_e he).symm,(okI_e he).symm,(okI_e he).symm,e.symm⟩
 have he:=fewE_ok (n:=n) (c:=c) (lo:=lo) (hi:=hi) h (by simp; omega)
 have hq:=qAt_in (c:=c) (lo:=lo) (hi:=hi) l2 l3 b1 (by omega) (by omega) b3 n 0 (fun _=>by omega) (Nat.le_refl _) (fun _=>rfl)
 refine ⟨l2,b1,by omega,by omega,b3,l3,l1,l2,b1,b2,b3,l3,hq.1,hq.2,?_,fun j _=>?_,?_,(okI_0 he).symm,(okI_0 he).symm,he.symm⟩
 ·unfold qckL; rw [okN_0 he,qckT_eq]
 ·unfold qckF; rw [qckT_eq]
 ·rw [okI_0 he,qckT_eq]
noncomputable def S13 : Sums:=⟨(28,mkSum _ qckS) :: S12.one,S12.two,S12.lo,S12.eqs,S12.its,S12.imm⟩
theorem S13_ok : SumsOK Tryz.prog S13:=(S12_ok.cons Tryz.func28 (by kernel_rfl) (by kernel_rfl) qck_ok)
end
end Abs
end Go.Proofs.YtlacopdaibhkkaaGreat

namespace Go.Proofs.YtlacopdaibhkkaaGreat
namespace Abs
open Go
@[irreducible] def pkG (V : Nat -> Int) (n q : Nat) : Int:=firstN (fun i=>decide ((q : Int) < sumN V (i + 1))) n
theorem sumN_mono {V : Nat -> Int} {n i j : Nat} (h : ∀ k,k < n -> 0 <= V k) (hij : i <= j) (hj : j <= n) : sumN V i <= sumN V j:=by
 induction j with
 | zero=>obtain rfl : i = 0:=by omega
         exact Int.le_refl _
 | succ j ih =>
   by_cases e : i = j + 1
   ·rw [e]; exact Int.le_refl _
   ·have a:=ih (by omega) (by omega)
    have b:=h j (by omega)
    rw [sumN_succ]; omega
theorem pkG_at {V : Nat -> Int} {n q i : Nat} (h : ∀ k,k < n -> 0 <= V k) (hi : i < n) (h1 : sumN V i <= q) (h2 : (q : Int) < sumN V (i + 1)) : pkG V n q = i:=by
 unfold pkG
 have : firstN (fun i=>decide ((q : Int) < sumN V (i + 1))) n = i:=firstN_uniq (by omega) (fun j hj=>by
  have:=sumN_mono h (show j + 1 <= i by omega) (by omega)
  exact decide_eq_false (by omega)) (fun _=>by simpa using h2)
 rw [this]
@[irreducible] def rwL (T q t : Nat) : Nat:=q / T + (if t < q % T then 1 else 0)
theorem rwL_eq (T q t : Nat) : rwL T q t = q / T + (if t < q % T then 1 else 0):=by unfold rwL; rfl
@[irreducible] def rwA (T q : Nat) : Nat:=q % T
theorem rwA_eq (T q : Nat) : rwA T q = q % T:=by unfold rwA; rfl
theorem rwA_lt {T q : Nat} (h : 0 < T) : rwA T q < T:=by rw [rwA_eq]; exact Nat.mod_lt _ h
theorem rwL_zero {T t : Nat} : rwL T 0 t = 0:=by rw [rwL_eq,Nat.zero_div,Nat.zero_mod,if_neg (by omega)]
theorem rwL_here {T q : Nat} : rwL T q (rwA T q) = q / T:=by rw [rwL_eq,rwA_eq,if_neg (by omega)]; rfl
theorem dm_lt {T q : Nat} (h : q % T + 1 < T) : (q + 1) / T = q / T /\ (q + 1) % T = q % T + 1:=by
 have e:=Nat.div_add_mod q T
 have e1 : q + 1 = T * (q / T) + (q % T + 1):=by omega
 have hT : 0 < T:=by omega
 constructor
 ·rw [e1,Nat.mul_add_div hT,Nat.div_eq_of_lt h]; rfl
 ·rw [e1,Nat.mul_add_mod,Nat.mod_eq_of_lt h]
theorem dm_eq {T q : Nat} (h : q % T + 1 = T) : (q + 1) / T = q / T + 1 /\ (q + 1) % T = 0:=by
 have e:=Nat.div_add_mod q T
 have e1 : q + 1 = T * (q / T + 1):=by rw [Nat.mul_add,Nat.mul_one]; omega
 have hT : 0 < T:=by omega
 constructor
 ·rw [e1,Nat.mul_div_cancel_left _ hT]
 ·rw [e1,Nat.mul_mod_right]
theorem rwL_succ {T q t : Nat} (h : 0 < T) (ht : t < T) : rwL T (q + 1) t = if t = rwA T q then rwL T q t + 1 else rwL T q t:=by
 have hm:=Nat.mod_lt q h
 rw [rwL_eq,rwL_eq,rwA_eq]
 by_cases hc : q % T + 1 < T
 ·obtain ⟨a,b⟩:=dm_lt hc
  rw [a,b]
  by_cases h1 : t = q % T
  ·rw [if_pos h1,if_pos (by omega),if_neg (by omega)]
  ·rw [if_neg h1]
   by_cases h2 : t < q % T
   ·rw [if_pos h2,if_pos (by omega)]
   ·rw [if_neg h2,if_neg (by omega)]
 ·obtain ⟨a,b⟩:=dm_eq (show q % T + 1 = T by omega)
  rw [a,b,if_neg (by omega)]
  by_cases h1 : t = q % T
  ·rw [if_pos h1,if_neg (by omega)]
  ·rw [if_neg h1,if_pos (by omega)]
@[irreducible] def rwV (V : Nat -> Int) (n T t j : Nat) : Int:=pkG V n (t + j * T)
theorem rwV_here {V : Nat -> Int} {n T q : Nat} : rwV V n T (rwA T q) (q / T) = pkG V n q:=by
 unfold rwV
 rw [rwA_eq,Nat.mul_comm,Nat.mod_add_div]
@[irreducible] def cumQ (V : Nat -> Int) (i k : Nat) : Nat:=(sumN V i).toNat + k
theorem cumQ_eq (V : Nat -> Int) (i k : Nat) : cumQ V i k = (sumN V i).toNat + k:=by unfold cumQ; rfl
end Abs
end Go.Proofs.YtlacopdaibhkkaaGreat

namespace Go.Proofs.YtlacopdaibhkkaaGreat
namespace Abs
open Go Go.RowKit
noncomputable section
noncomputable def S14 : Sums:=⟨(69,mkSum _ lsS) :: (68,mkSum _ blS) :: S13.one,S13.two,S13.lo,S13.eqs,S13.its,S13.imm⟩
theorem S14_ok : SumsOK Tryz.prog S14:=((S13_ok.cons Tryz.func68 (by kernel_rfl) (by kernel_rfl) bl_ok).cons Tryz.func69 (by kernel_rfl) (by kernel_rfl) ls_ok)
@[irreducible] def blT (n : Nat) (c : Nat -> Int) (w m : Int) : Nat:=(lsT c n w m).toNat
@[irreducible] def blQ (n : Nat) (c : Nat -> Int) (w m : Int) (i k : Nat) : Nat:=cumQ (lsV c n w) i k
@[irreducible] def blA (n : Nat) (c : Nat -> Int) (w m : Int) (i k : Nat) : Nat:=rwA (blT n c w m) (blQ n c w m i k)
@[irreducible] def blL (n : Nat) (c : Nat -> Int) (w m : Int) (i k t : Nat) : Nat:=rwL (blT n c w m) (blQ n c w m i k) t
@[irreducible] def blV (n : Nat) (c : Nat -> Int) (w m : Int) (t j : Nat) : Int:=rwV (lsV c n w) n (blT n c w m) t j
theorem maxN_ge {V : Nat -> Int} : ∀ {n k : Nat},k < n -> V k <= maxN V n
 | 0,k,h=>by omega
 | n + 1,k,h=>by
   rw [maxN_succ]
   by_cases e : k = n
   ·subst e; omega
   ·have:=maxN_ge (V:=V) (show k < n by omega); omega
theorem maxN_le {V : Nat -> Int} {M : Int} (h0 : 0 <= M) : ∀ {n : Nat},(∀ k,k < n -> V k <= M) -> maxN V n <= M
 | 0,_=>by rw [maxN_zero]; exact h0
 | n + 1,h=>by
   have a:=maxN_le h0 (n:=n) fun k hk=>h k (by omega)
   have b:=h n (by omega)
   rw [maxN_succ]; omega
theorem maxN_nn {V : Nat -> Int} : ∀ {n : Nat},0 <= maxN V n
 | 0=>by simp
 | n + 1=>by have:=maxN_nn (V:=V) (n:=n); rw [maxN_succ]; omega
theorem tdiv_b {a m M : Int} (h0 : 0 <= a) (h1 : a <= M) (hm : 1 <= m) : 0 <= a.tdiv m /\ a.tdiv m <= M:=by
 rw [Int.tdiv_eq_ediv_of_nonneg h0]
 have a1 : 0 <= a / m:=Int.ediv_nonneg h0 (by omega)
 have a2 : a / m <= a:=Int.ediv_le_self m h0
 omega
structure LosK (n : Nat) (c : Nat -> Int) (w m : Int) : Prop where
 V : ∀ k,k < n -> 0 <= lsV c n w k /\ lsV c n w k <= 100
 T : lsT c n w m = blT n c w m
 Tb : blT n c w m <= 1700
 ge : ∀ k,k < n -> lsV c n w k <= blT n c w m
 sm : ∀ g,g <= n -> 0 <= sumN (lsV c n w) g /\ sumN (lsV c n w) g <= 1600
theorem losK {n : Nat} {c : Nat -> Int} {w m : Int} (h : blE n c w m = 0) : LosK n c w m:=by
 obtain ⟨hl,w0,w1,m0,m1⟩:=blE_0.1 h
 obtain ⟨l1,l2,l3⟩:=lvE_0.1 hl
 have hm : ∀ g,g < n -> 0 <= minG c g /\ minG c g <= 100:=fun g=>by
  induction g with
  | zero=>intro h; simpa using l3 0 h
  | succ g ih=>intro h; have a:=ih (by omega); have b:=l3 (g + 1) h; rw [minG_succ]; omega
 have hm:=hm (n - 1) (by omega)
 have hV : ∀ k,k < n -> 0 <= lsV c n w k /\ lsV c n w k <= 100:=fun k hk=>by have:=l3 k hk; rw [lsV_eq]; omega
 have hS : ∀ g,g <= n -> 0 <= sumN (lsV c n w) g /\ sumN (lsV c n w) g <= 1600:=fun g hg=>by
  have a:=sumN_in (c:=lsV c n w) (M:=100) (n:=g) fun k hk=>by have:=hV k (by omega); omega
  have b:=sumN_nn (c:=lsV c n w) (n:=g) fun k hk=>(hV k (by omega)).1
  omega
 have hsn:=hS n (Nat.le_refl _)
 have hd:=tdiv_b (a:=sumN (lsV c n w) n + m - 1) (m:=m) (M:=1615) (by omega) (by omega) m0
 have hx:=maxN_le (V:=lsV c n w) (M:=100) (by omega) (n:=n) fun k hk=>(hV k hk).2
 have hy:=maxN_nn (V:=lsV c n w) (n:=n)
 have hT : lsT c n w m = blT n c w m:=by unfold blT; rw [lsT_eq]; omega
 refine ⟨hV,hT,?_,fun k hk=>?_,hS⟩
 ·rw [lsT_eq] at hT; omega
 ·have:=maxN_ge (V:=lsV c n w) hk
  rw [lsT_eq] at hT; omega
def bleS : Spec [lvlSh,.int .i64,.int .i64]:=⟨fun _=>True,fun ((n,c),(w : Int),(m : Int),_)=>.tup [.agg [.slc (.sym (okN (blE n (fun k=>(c k).1) w m) n)) 1 (fun k=>[.si .i64 (lsV (fun k=>(c k).1) n w k)]),
 .slc (.sym (okN (blE n (fun k=>(c k).1) w m) (blT n (fun k=>(c k).1) w m))) 1 (fun t=>[.slc (.sym (blL n (fun k=>(c k).1) w m n 0 t)) 1 (fun j=>[.si .i64 (blV n (fun k=>(c k).1) w m t j)])])],.si .i64 (blE n (fun k=>(c k).1) w m)]⟩
def bleI0 : Anns:=[
 (8,[],fun fr hp=>⟨Nat,fun g=>⟨frI [.k 12,.t 3,.k 21,.s (.si .i64 (icast g)),.t 26] fr,hp⟩,Nat,fun g=>g,fun g=>g <= 16,fun g=>nsub 17 g⟩),
 (11,[],fun fr hp=>⟨Nat,fun k=>⟨frI [.k 12,.t 1,.k 29,.s (.si .i64 (icast k)),.t 20] fr,hp⟩,Nat,fun k=>k,fun k=>k = 0,fun k=>k⟩)]
def bleI1 (n : Nat) (c : Nat -> Int) (w m : Int) : Anns:=[
 (2097152 + 6,[(11,3,64 + 17)],fun _ _=>⟨Unit,fun _=>⟨[],[]⟩,Unit,fun _=>(),fun _=>True,fun _=>0⟩),
 (2097152 + 12,[(11,12,64 + 1)],fun _ _=>⟨Unit,fun _=>⟨[],[]⟩,Unit,fun _=>(),fun _=>True,fun _=>0⟩),
 (2097152 + 13,[(11,0,64 + 2)],fun _ _=>⟨Unit,fun _=>⟨[],[]⟩,Unit,fun _=>(),fun _=>True,fun _=>0⟩),
 (2097152 + 16,[(11,0,64 + 4)],fun _ _=>⟨Unit,fun _=>⟨[],[]⟩,Unit,fun _=>(),fun _=>True,fun _=>0⟩),
 (4194304 + 12,[],fun _ _=>⟨Unit,fun _=>⟨[],[]⟩,Unit,fun _=>(),fun _=>True,fun _=>0⟩),
 (8,[],fun fr hp=>⟨Nat,fun g=>⟨frI [.k 12,.s (.si .i64 (icast (blA n c w m g 0))),.t 2,.k 21,.s (.si .i64 (icast g)),.t 26] fr,setB hp 1 (.rows 61 3 1 (.sym (blT n c w m)) (fun _=>false) (fun t=>blL n c w m g 0 t) (fun t j=>[.si .i64 (blV n c w m t j)]) none)⟩,Nat × Nat,fun g=>(n,g),fun (n,g)=>g <= n,fun g=>nsub n g⟩),
 (11,[],fun fr hp=>⟨Nat,fun k=>⟨frI [.k 12,.s (.si .i64 (icast (blA n c w m (nat (intOf (getL fr 13))) k))),.k 29,.s (.si .i64 (icast k)),.t 20] fr,setB hp 1 (.rows 61 3 1 (.sym (blT n c w m)) (fun _=>false) (fun t=>blL n c w m (nat (intOf (getL fr 13))) k t) (fun t j=>[.si .i64 (blV n c w m t j)]) none)⟩,Nat × Int,fun k=>(k,lsV c n w (nat (intOf (getL fr 13)))),fun (k,v)=>k <= v,fun k=>nsub 101 k⟩)]
def bleI : DatL [lvlSh,.int .i64,.int .i64] -> Anns:=fun ((n,c),(w : Int),(m : Int),_)=>if blT n (fun k=>(c k).1) w m = 0 then bleI0 else bleI1 n (fun k=>(c k).1) w m
set_option maxRecDepth 100000 in
set_option maxHeartbeats 2000000 in
theorem ble_ok : FnSpec Tryz.prog 29 _ bleS:=by
 refine FnSpec.of S14_ok mixed (U:=0) (I:=bleI) Tryz.func29 rfl (by kernel_rfl) rfl rfl (by decide +kernel) ?_
 rintro ⟨⟨n,c'⟩,(w : Int),(m : Int),⟨⟩⟩ -
 obtain ⟨c,rfl⟩ : ∃ c : Nat -> Int,c' = fun k=>(c k,()):=⟨fun k=>(c' k).1,rfl⟩
 by_cases hT : blT n c w m = 0
 ·have hI : bleI ((n,fun k=>(c k,())),w,m,()) = bleI0:=if_pos hT
  rw [hI]
  unfold FnSat
  conv=>arg 2; reduce
  simp [bleS,blS,lsS,ElEq,RowsEq,getB,goneB,aliveB,maxRow,and_assoc]
  have e1 : (fun k=>c k) = c:=rfl
  simp only [e1]
  refine ⟨fun h=>⟨okN_e h,okN_e h⟩,fun h=>?_⟩
  obtain ⟨hl,w0,w1,m0,m1⟩:=blE_0.1 h
  obtain ⟨l1,l2,l3⟩:=lvE_0.1 hl
  have K:=losK h
  have hT0:=K.T
  rw [hT] at hT0
  rw [hT0]
  refine ⟨l1,l2,l3,w0,w1,m0,m1,by omega,by omega,⟨0,rfl,by omega⟩,fun g hg=>⟨fun hlt=>?_,fun hge=>⟨(okN_0 h).symm,by rw [okN_0 h,hT]; rfl,fun j=>by rw [okN_0 h,hT]; omega,h.symm⟩⟩⟩
  have:=K.ge g hlt
  exact ⟨hlt,by omega,fun _=>⟨by omega,by omega,g + 1,by omega,by omega,by omega⟩⟩
 ·have hI : bleI ((n,fun k=>(c k,())),w,m,()) = bleI1 n c w m:=if_neg hT
  rw [hI]
  unfold FnSat
  conv=>arg 2; reduce
  simp [bleS,blS,lsS,ElEq,RowsEq,getB,goneB,aliveB,maxRow,and_assoc]
  have e1 : (fun k=>c k) = c:=rfl
  simp only [e1]
  refine ⟨fun h=>⟨okN_e h,okN_e h⟩,fun h=>?_⟩
  obtain ⟨hl,w0,w1,m0,m1⟩:=blE_0.1 h
  obtain ⟨l1,l2,l3⟩:=lvE_0.1 hl
  have K:=losK h
  have hA : ∀ g k,blA n c w m g k = rwA (blT n c w m) (blQ n c w m g k):=fun g k=>by unfold blA; rfl
  have hL : ∀ g k t,blL n c w m g k t = rwL (blT n c w m) (blQ n c w m g k) t:=fun g k t=>by unfold blL; rfl
  have hV : ∀ t j,blV n c w m t j = rwV (lsV c n w) n (blT n c w m) t j:=fun t j=>by unfold blV; rfl
  have hQ : ∀ g k,blQ n c w m g k = (sumN (lsV c n w) g).toNat + k:=fun g k=>by unfold blQ; exact cumQ_eq ..
  have hQ0 : blQ n c w m 0 0 = 0:=by rw [hQ,sumN_zero]; rfl
  have hQs : ∀ g k,blQ n c w m g (k + 1) = blQ n c w m g k + 1:=fun g k=>by rw [hQ,hQ]; omega
  have hQr : ∀ g k : Nat,g < n -> lsV c n w g = (k : Int) -> blQ n c w m (g + 1) 0 = blQ n c w m g k:=fun g k hg e=>by
   have:=(K.sm g (by omega)).1
   rw [hQ,hQ,sumN_succ]; omega
  have hP : ∀ g k : Nat,g < n -> (k : Int) < lsV c n w g -> pkG (lsV c n w) n (blQ n c w m g k) = g:=fun g k hg hk=>by
   have:=(K.sm g (by omega)).1
   have e:=sumN_succ (lsV c n w) g
   have e2:=hQ g k
   exact pkG_at (fun k hk=>(K.V k hk).1) hg (by omega) (by omega)
  have hTl:=K.T
  have hTb:=K.Tb
  rw [hTl]
  simp only [hA,hL,hV]
  have hKV:=K.V
  have hKs:=K.sm
  generalize blT n c w m = T at *
  generalize blQ n c w m = Q at *
  generalize lsV c n w = V at *
  have hT0 : 0 < T:=by omega
  refine ⟨l1,l2,l3,w0,w1,m0,m1,by omega,by omega,by omega,⟨0,?_,rfl,by omega,fun k hk=>?_,by omega⟩,fun g hg=>⟨fun hlt=>⟨hlt,⟨0,rfl,rfl,fun k hk=>rfl,(hKV g hlt).1⟩,fun k hk=>⟨fun hkl=>?_,fun hkg=>?_⟩⟩,fun hge=>?_⟩⟩
  ·rw [hQ0,rwA_eq,Nat.zero_mod]; rfl
  ·rw [hQ0,rwL_zero]; exact ⟨rfl,fun j=>by omega⟩
  ·have ha:=rwA_lt (q:=Q g k) hT0
   have hv:=hKV g hlt
   have hq : rwL T (Q g k) (rwA T (Q g k)) <= 1700 + Q g k:=by
    rw [rwL_here]; have:=Nat.div_le_self (Q g k) T; omega
   have hQb : Q g k <= 1700:=by have:=hKs g (by omega); have:=hKV g hlt; rw [hQ]; omega
   refine ⟨ha,by omega,ha,by omega,by omega,by omega,by omega,by omega,k + 1,?_,by omega,fun t ht=>⟨?_,?_,fun j hj=>?_⟩,by omega,by omega⟩
   ·rw [hQs,rwA_eq,rwA_eq]
    rw [Int.tmod_eq_emod_of_nonneg (by omega)]
    have : (Q g k + 1) % T = (Q g k % T + 1) % T:=by rw [Nat.mod_add_mod]
    rw [this,Int.natCast_emod]; rfl
   ·unfold updZ; split <;> rfl
   ·unfold updN
    rw [hQs,rwL_succ hT0 ht]
    by_cases e : t = rwA T (Q g k)
    ·subst e; rw [if_pos rfl]; try rw [if_pos rfl]
    ·rw [if_neg e,if_neg e]
   ·rw [hQs,rwL_succ hT0 ht] at hj
    unfold updR
    by_cases e : t = rwA T (Q g k)
    ·subst e
     rw [if_pos rfl] at hj ⊢
     refine app_one hj (fun _=>rfl) (fun e=>?_)
     subst e
     rw [rwL_here,rwV_here,hP g k hlt hkl]; rfl
    ·rw [if_neg e]; rfl
  ·have hv : V g = k:=by omega
   refine ⟨by omega,by omega,g + 1,by rw [hQr g k hlt hv],by omega,fun t _=>by rw [hQr g k hlt hv],by omega,by omega⟩
  ·obtain rfl : g = n:=by omega
   exact ⟨(okN_0 h).symm,(okN_0 h).symm,fun j _=>rfl,h.symm⟩
noncomputable def S15 : Sums:=⟨(29,mkSum _ bleS) :: S14.one,S14.two,S14.lo,S14.eqs,S14.its,S14.imm⟩
theorem S15_ok : SumsOK Tryz.prog S15:=(S14_ok.cons Tryz.func29 (by kernel_rfl) (by kernel_rfl) ble_ok)
end
end Abs
end Go.Proofs.YtlacopdaibhkkaaGreat

namespace Go.Proofs.YtlacopdaibhkkaaGreat
namespace Abs
open Go Go.RowKit
noncomputable section
@[irreducible] def smX (f g : Nat -> Int) (k : Nat) : Bool:=!(decide (f k = g k))
@[irreducible] def smB (n m : Nat) (f g : Nat -> Int) : Bool:=decide (n = m) && !(anyN (smX f g) n)
theorem smB_iff {n m : Nat} {f g : Nat -> Int} : smB n m f g = true ↔ n = m /\ ∀ k,k < n -> f k = g k:=by
 unfold smB
 rw [Bool.and_eq_true,decide_eq_true_eq,Bool.not_eq_true',anyN_false]
 refine ⟨fun h=>⟨h.1,fun k hk=>?_⟩,fun h=>⟨h.1,fun k hk=>?_⟩⟩
 ·have:=h.2 k hk
  unfold smX at this
  simpa using this
 ·unfold smX; simpa using h.2 k hk
theorem smB_f {n m : Nat} {f g : Nat -> Int} (h : ¬ (n = m /\ ∀ k,k < n -> f k = g k)) : smB n m f g = false:=by
 cases h' : smB n m f g with
 | false=>rfl
 | true=>exact absurd (smB_iff.1 h') h
theorem smX_f {f g : Nat -> Int} {k : Nat} : smX f g k = false ↔ f k = g k:=by unfold smX; simp
def smS : Spec [lvlSh,lvlSh]:=⟨fun (x,y,_)=>x.1 <= maxLen,fun ((n,f),(m,g),_)=>.sb (smB n m (fun k=>(f k).1) (fun k=>(g k).1))⟩
def smI : DatL [lvlSh,lvlSh] -> Anns:=fun ((n,f),(m,g),_)=>[
 (4,[],fun fr hp=>⟨Nat,fun k=>⟨frI [.k 5,.s (.si .i64 (icast k)),.k 5,.t 15] fr,hp⟩,Nat × Nat × (Nat -> Bool),fun k=>(k,n,smX (fun k=>(f k).1) (fun k=>(g k).1)),fun (k,n,p)=>k <= n /\ ∀ j,j < k -> p j = false,fun k=>nsub n k⟩)]
set_option maxRecDepth 100000 in
theorem sm_ok : FnSpec Tryz.prog 30 _ smS:=by
 refine FnSpec.of S15_ok mixed (U:=0) (I:=smI) Tryz.func30 rfl (by kernel_rfl) rfl rfl (by decide +kernel) ?_
 rintro ⟨⟨n,f'⟩,⟨m,g'⟩,⟨⟩⟩ (hn : n <= maxLen)
 obtain ⟨f,rfl⟩ : ∃ f : Nat -> Int,f' = fun k=>(f k,()):=⟨fun k=>(f' k).1,rfl⟩
 obtain ⟨g,rfl⟩ : ∃ g : Nat -> Int,g' = fun k=>(g k,()):=⟨fun k=>(g' k).1,rfl⟩
 unfold maxLen at hn
 unfold FnSat
 conv=>arg 2; reduce
 simp [smS,ElEq,getB,goneB,aliveB,and_assoc]
 have e1 : (fun k=>f k) = f:=rfl
 have e2 : (fun k=>g k) = g:=rfl
 simp only [e1,e2]
 refine ⟨fun h=>smB_f (fun h'=>by omega),fun h=>⟨⟨0,rfl,by omega,fun j hj=>by omega⟩,fun k hk hall=>⟨fun hlt=>⟨hlt,by omega,fun hne=>smB_f fun h'=>hne (h'.2 k hlt),fun he=>⟨by omega,by omega,k + 1,by omega,by omega,fun j hj=>?_,by omega⟩⟩,fun hge=>smB_iff.2 ⟨by omega,fun j hj=>smX_f.1 (hall j (by omega))⟩⟩⟩⟩
 by_cases e : j = k
 ·subst e; exact smX_f.2 he
 ·exact hall j (by omega)
noncomputable def S16 : Sums:=⟨(30,mkSum _ smS) :: S15.one,S15.two,S15.lo,S15.eqs,S15.its,S15.imm⟩
theorem S16_ok : SumsOK Tryz.prog S16:=(S15_ok.cons Tryz.func30 (by kernel_rfl) (by kernel_rfl) sm_ok)
def truS : Spec []:=⟨fun _=>True,fun _=>.sb true⟩
attribute [local irreducible] FnSat decL
theorem canR {l : List AV} {n : Nat} (h : ∀ k,k < n -> ∃ i,rowAt 1 l k = [.li .i64 i]) : ∀ k,k < n -> CanL [Sh.int IntKind.i64] (rowAt 1 l k):=fun k hk=>by
 obtain ⟨i,e⟩:=h k hk
 rw [e]; simp
set_option maxRecDepth 100000 in
set_option maxHeartbeats 2000000 in
theorem pknown_ok : FnSpec Tryz.prog 6 _ truS:=by
 refine FnSpec.of S16_ok mixed (U:=0) (I:=fun _=>[]) Tryz.func6 rfl (by kernel_rfl) rfl rfl (by decide +kernel) ?_
 rintro ⟨⟩ -
 unfold FnSat
 conv=>arg 2; reduce
 simp [truS,fwsS,qckS,bleS,smS,ElEq,and_assoc]
 refine ⟨canR fun k hk=>?_,canR fun k hk=>?_,canR fun k hk=>?_,?_⟩
 ·rcases (show k = 0 \/ k = 1 \/ k = 2 by omega) with rfl | rfl | rfl <;> exact ⟨_,rfl⟩
 ·rcases (show k = 0 \/ k = 1 \/ k = 2 \/ k = 3 \/ k = 4 by omega) with rfl | rfl | rfl | rfl | rfl <;> exact ⟨_,rfl⟩
 ·rcases (show k = 0 \/ k = 1 \/ k = 2 by omega) with rfl | rfl | rfl <;> exact ⟨_,rfl⟩
 generalize hc1 : (fun k=>(decL [Sh.int IntKind.i64] (rowAt 1 [AV.li IntKind.i64 8,AV.li IntKind.i64 0,AV.li IntKind.i64 4] k)).1) = c1
 generalize hc2 : (fun k=>(decL [Sh.int IntKind.i64] (rowAt 1 [AV.li IntKind.i64 0,AV.li IntKind.i64 0,AV.li IntKind.i64 12,AV.li IntKind.i64 0,AV.li IntKind.i64 0] k)).1) = c2
 generalize hc3 : (fun k=>(decL [Sh.int IntKind.i64] (rowAt 1 [AV.li IntKind.i64 5,AV.li IntKind.i64 3,AV.li IntKind.i64 7] k)).1) = c3
 have f1 : fewE 3 c1 4 4 = 0:=by subst hc1; decide +kernel
 have f2 : fewE 5 c2 2 3 = 0:=by subst hc2; decide +kernel
 have f3 : blE 3 c3 1 2 = 0:=by subst hc3; decide +kernel
 have f4 : fwF 3 c1 4 4 0 = 4 /\ fwF 3 c1 4 4 1 = 0:=by subst hc1; decide +kernel
 have f5 : qckT 5 c2 2 3 = 5 /\ qckL 5 c2 2 3 = 4:=by subst hc2; decide +kernel
 have f6 : blT 3 c3 1 2 = 3:=by subst hc3; decide +kernel
 simp only [f1,f2,f3,f4.1,f4.2,f5.1,f5.2,f6,okI_0 rfl,okN_0 rfl]
 simp
 refine ⟨fun _=>canR fun k hk=>?_,fun _=>by unfold maxLen; omega,fun _ _=>canR fun k hk=>?_,fun _ _=>by unfold maxLen; omega,fun _ _ _=>canR fun k hk=>?_,fun _ _ _=>by unfold maxLen; omega,by decide,?_,?_,?_⟩
 ·rcases (show k = 0 \/ k = 1 by omega) with rfl | rfl <;> exact ⟨_,rfl⟩
 ·rcases (show k = 0 \/ k = 1 \/ k = 2 \/ k = 3 by omega) with rfl | rfl | rfl | rfl <;> exact ⟨_,rfl⟩
 ·rcases (show k = 0 \/ k = 1 \/ k = 2 by omega) with rfl | rfl | rfl <;> exact ⟨_,rfl⟩
 ·subst hc1; decide +kernel
 ·subst hc2; decide +kernel
 ·subst hc3; decide +kernel
noncomputable def S17 : Sums:=⟨(6,mkSum _ truS) :: S16.one,S16.two,S16.lo,S16.eqs,S16.its,S16.imm⟩
theorem S17_ok : SumsOK Tryz.prog S17:=(S16_ok.cons Tryz.func6 (by kernel_rfl) (by kernel_rfl) pknown_ok)
end
end Abs
end Go.Proofs.YtlacopdaibhkkaaGreat

namespace Go.Proofs.YtlacopdaibhkkaaGreat
namespace Abs
open Go
@[simp] theorem allN_zero (p : Nat -> Bool) : allN p 0 = true:=allN_iff.2 fun k hk=>by omega
@[reducible] def intsSh : Sh:=.slice 1 [.int .i64]
structure Vx where
 n : Nat
 v : Nat -> Int
@[irreducible] def Vx.len (x : Vx) : Nat:=x.n
@[irreducible] def Vx.at (x : Vx) : Nat -> Int:=x.v
@[simp] theorem Vx.len_mk (n : Nat) (v : Nat -> Int) : (Vx.mk n v).len = n:=by unfold Vx.len; rfl
@[simp] theorem Vx.at_mk (n : Nat) (v : Nat -> Int) : (Vx.mk n v).at = v:=by unfold Vx.at; rfl
structure Bx where
 n : Nat
 l : Nat -> Int
 h : Nat -> Int
@[irreducible] def Bx.len (b : Bx) : Nat:=b.n
@[irreducible] def Bx.lo (b : Bx) : Nat -> Int:=b.l
@[irreducible] def Bx.hi (b : Bx) : Nat -> Int:=b.h
@[simp] theorem Bx.len_mk (n : Nat) (l h : Nat -> Int) : (Bx.mk n l h).len = n:=by unfold Bx.len; rfl
@[simp] theorem Bx.lo_mk (n : Nat) (l h : Nat -> Int) : (Bx.mk n l h).lo = l:=by unfold Bx.lo; rfl
@[simp] theorem Bx.hi_mk (n : Nat) (l h : Nat -> Int) : (Bx.mk n l h).hi = h:=by unfold Bx.hi; rfl
structure Mo where
 c : Int
 ns : Nat
 s : Nat -> Int
 nf : Nat
 f : Nat -> Int
 t : Nat -> Int
 p : Nat -> Int
@[irreducible] def Mo.sh (m : Mo) : Nat -> Int:=m.s
@[irreducible] def Mo.ff (m : Mo) : Nat -> Int:=m.f
structure Sys where
 a : Bx
 b : Bx
 nm : Nat
 m : Nat -> Mo
 nw : Nat
 w : Nat -> Bx
@[irreducible] def Sys.st (s : Sys) : Bx:=s.b
@[irreducible] def Sys.md (s : Sys) : Nat -> Mo:=s.m
theorem isQ_iff {x : Int} : isQ x = true ↔ -1099511627776 <= x /\ x <= 1099511627776:=by unfold isQ; simp
@[irreducible] def errA (b : Bool) : Int:=if b then 0 else 2
@[simp] theorem errA_true : errA true = 0:=by unfold errA; rfl
@[simp] theorem errA_false : errA false = 2:=by unfold errA; rfl
@[simp] theorem errA_eq (b : Bool) : errA b = 0 ↔ b = true:=by cases b <;> simp
end Abs
end Go.Proofs.YtlacopdaibhkkaaGreat

namespace Go.Proofs.YtlacopdaibhkkaaGreat
namespace Abs
open Go
@[irreducible] def topP (x n i : Int) : Int:=x * (n / 2 ^ i.toNat)
theorem topP_zero (x n : Int) : topP x n 0 = x * n:=by unfold topP; simp
theorem topP_top {x n : Int} (h0 : 0 <= n) (h1 : n < 17592186044416) : topP x n 44 = 0:=by
 unfold topP
 rw [show (2 : Int) ^ (44 : Int).toNat = 17592186044416 from rfl,Int.ediv_eq_zero_of_lt h0 h1,Int.mul_zero]
@[irreducible] def bitP (n i : Int) : Int:=(n / 2 ^ i.toNat) % 2
theorem bitP_or (n i : Int) : bitP n i = 0 \/ bitP n i = 1:=by unfold bitP; omega
theorem topP_step {x n i : Int} (hi : 0 <= i) : topP x n i = 2 * topP x n (i + 1) + bitP n i * x:=by
 unfold topP bitP
 have e : (i + 1).toNat = i.toNat + 1:=by omega
 have e2 : (2 : Int) ^ (i + 1).toNat = 2 ^ i.toNat * 2:=by rw [e,Int.pow_succ]
 have e3 : n / (2 ^ i.toNat * 2) = n / 2 ^ i.toNat / 2:=by rw [Int.ediv_ediv_of_nonneg (Int.pow_nonneg (by decide))]
 rw [e2,e3]
 generalize n / 2 ^ i.toNat = y
 have h : y = 2 * (y / 2) + y % 2:=by omega
 calc x * y = x * (2 * (y / 2) + y % 2):=by rw [<- h]
  _ = 2 * (x * (y / 2)) + y % 2 * x:=by rw [Int.mul_add,Int.mul_left_comm,Int.mul_comm (y % 2) x]
theorem topP_nonneg {x n i : Int} (hx : 0 <= x) (hn : 0 <= n) : 0 <= topP x n i:=by
 unfold topP; exact Int.mul_nonneg hx (Int.ediv_nonneg hn (Int.pow_nonneg (by decide)))
theorem topP_mono {x n : Int} (hx : 0 <= x) (hn : 0 <= n) : ∀ k : Nat,topP x n k <= x * n
 | 0=>by rw [show ((0 : Nat) : Int) = 0 from rfl,topP_zero]; exact Int.le_refl _
 | k + 1=>by
   have h1:=topP_mono hx hn k
   have h2:=topP_step (x:=x) (n:=n) (i:=(k : Int)) (by omega)
   have h3:=topP_nonneg (i:=((k : Int) + 1)) hx hn
   rw [show ((k + 1 : Nat) : Int) = (k : Int) + 1 by omega]
   rcases bitP_or n (k : Int) with h | h <;> rw [h] at h2 <;> omega
@[irreducible] def whQ (x n d : Int) : Int:=if x * n / d <= 288230376151711744 then x * n / d else 1152921504606846976
@[irreducible] def whR (x n d : Int) : Int:=if x * n / d <= 288230376151711744 then x * n % d else 0
theorem wh_uniq {q r d T : Int} (h : q * d + r = T) (h0 : 0 <= r) (h1 : r < d) : q = T / d /\ r = T % d:=by
 have hd : 0 < d:=by omega
 have:=(Int.ediv_emod_unique (a:=T) (b:=d) (r:=r) (q:=q) hd).2 ⟨by rw [<- h,Int.mul_comm]; omega,h0,h1⟩
 exact ⟨this.1.symm,this.2.symm⟩
theorem wh_far {x n d : Int} {k : Nat} (hx : 0 <= x) (hn : 0 <= n) (hd : 0 < d) (h : 288230376151711744 < topP x n k / d) : whQ x n d = 1152921504606846976 /\ whR x n d = 0:=by
 have h1 : topP x n k / d <= x * n / d:=Int.ediv_le_ediv hd (topP_mono hx hn k)
 unfold whQ whR
 rw [if_neg (by omega),if_neg (by omega)]; exact ⟨rfl,rfl⟩
theorem wh_near {x n d q r : Int} (h : q * d + r = topP x n 0) (h0 : 0 <= r) (h1 : r < d) (hq : q <= 288230376151711744) : whQ x n d = q /\ whR x n d = r:=by
 rw [topP_zero] at h
 obtain ⟨e1,e2⟩:=wh_uniq h h0 h1
 unfold whQ whR
 rw [<- e1,<- e2,if_pos hq,if_pos hq]; exact ⟨rfl,rfl⟩
theorem whQ_b {x n d : Int} (hx : 0 <= x) (hn : 0 <= n) (hd : 0 < d) : 0 <= whQ x n d /\ whQ x n d <= 1152921504606846976:=by
 have : 0 <= x * n / d:=Int.ediv_nonneg (Int.mul_nonneg hx hn) (Int.le_of_lt hd)
 unfold whQ; split <;> omega
@[irreducible] def absI (x : Int) : Int:=if x < 0 then -x else x
theorem absI_neg {x : Int} (h : x < 0) : absI x = -x:=by unfold absI; rw [if_pos h]
theorem absI_pos {x : Int} (h : 0 <= x) : absI x = x:=by unfold absI; rw [if_neg (by omega)]
theorem absI_b {x m : Int} (h1 : -m <= x) (h2 : x <= m) : 0 <= absI x /\ absI x <= m:=by unfold absI; split <;> omega
@[irreducible] def dnV (x n d : Int) : Int :=
 if (decide (x < 0) != decide (n < 0)) != decide (d < 0) then -(if 0 < whR (absI x) (absI n) (absI d) then whQ (absI x) (absI n) (absI d) + 1 else whQ (absI x) (absI n) (absI d)) else whQ (absI x) (absI n) (absI d)
theorem dnV_pos {x n d : Int} (hn : 0 <= n) (hd : 0 < d) (h : absI x * n / d <= 288230376151711744) : dnV x n d = x * n / d:=by
 unfold dnV whQ whR
 rw [absI_pos hn,absI_pos (Int.le_of_lt hd),if_pos h,if_pos h,show decide (n < 0) = false by simp; omega,show decide (d < 0) = false by simp; omega]
 by_cases hx : x < 0
 ·rw [absI_neg hx]
  simp [hx]
  have hd0 : d ≠ 0:=by omega
  have e : -x * n = -(x * n):=Int.neg_mul ..
  rw [e]
  generalize x * n = y
  have h1:=Int.emod_add_mul_ediv (-y) d
  have h2:=Int.emod_nonneg (-y) hd0
  have h3:=Int.emod_lt_of_pos (-y) hd
  have h4:=Int.emod_add_mul_ediv y d
  have h5:=Int.emod_nonneg y hd0
  have h6:=Int.emod_lt_of_pos y hd
  generalize hq : -y / d = q at *
  generalize hq' : y / d = q' at *
  generalize hr : -y % d = r at *
  generalize hr' : y % d = r' at *
  have key : d * (q + q') = -(r + r'):=by rw [Int.mul_add]; omega
  have k1 : -2 < q + q':=by
   rcases Int.lt_or_le (-2) (q + q') with h | h
   ·exact h
   ·have:=Int.mul_le_mul_of_nonneg_left h (Int.le_of_lt hd); omega
  have k2 : q + q' <= 0:=by
   rcases Int.lt_or_le 0 (q + q') with h | h
   ·have:=Int.mul_le_mul_of_nonneg_left (show 1 <= q + q' by omega) (Int.le_of_lt hd); omega
   ·exact h
  split
  ·rename_i hpos
   have : q + q' ≠ 0:=fun h0=>by rw [h0] at key; omega
   omega
  ·have : q + q' = 0:=by
    have hr0 : r = 0:=by omega
    rcases (by omega : q + q' = -1 \/ q + q' = 0) with h0 | h0
    ·rw [h0] at key; omega
    ·exact h0
   omega
 ·rw [absI_pos (by omega)]
  simp [hx]
end Abs
end Go.Proofs.YtlacopdaibhkkaaGreat

namespace Go.Proofs.YtlacopdaibhkkaaGreat
namespace Abs
open Go
structure Crv where
 a : Nat
 b : Nat -> Int
 c : Nat
 d : Nat -> Int
@[irreducible] def Crv.nx (c : Crv) : Nat:=c.a
@[irreducible] def Crv.x (c : Crv) : Nat -> Int:=c.b
@[irreducible] def Crv.ny (c : Crv) : Nat:=c.c
@[irreducible] def Crv.y (c : Crv) : Nat -> Int:=c.d
@[simp] theorem Crv.nx_mk (a : Nat) (b : Nat -> Int) (c : Nat) (d : Nat -> Int) : (Crv.mk a b c d).nx = a:=by unfold Crv.nx; rfl
@[simp] theorem Crv.ny_mk (a : Nat) (b : Nat -> Int) (c : Nat) (d : Nat -> Int) : (Crv.mk a b c d).ny = c:=by unfold Crv.ny; rfl
@[simp] theorem Crv.x_mk (a : Nat) (b : Nat -> Int) (c : Nat) (d : Nat -> Int) : (Crv.mk a b c d).x = b:=by unfold Crv.x; rfl
@[simp] theorem Crv.y_mk (a : Nat) (b : Nat -> Int) (c : Nat) (d : Nat -> Int) : (Crv.mk a b c d).y = d:=by unfold Crv.y; rfl
@[reducible] def crvCells : List Sh:=[intsSh,intsSh]
@[reducible] def crvSh : Sh:=.agg crvCells
abbrev IntsD:=Nat × (Nat -> Int × Unit)
@[irreducible] def crvOf (x : IntsD × IntsD × Unit) : Crv:=⟨x.1.1,fun k=>(x.1.2 k).1,x.2.1.1,fun k=>(x.2.1.2 k).1⟩
@[reducible] def crvD (c : Crv) : IntsD × IntsD × Unit:=((c.nx,fun k=>(c.x k,())),(c.ny,fun k=>(c.y k,())),())
@[simp] theorem crvOf_mk (c : Crv) : crvOf ((c.nx,fun k=>(c.x k,())),(c.ny,fun k=>(c.y k,())),()) = c:=by
 unfold crvOf Crv.nx Crv.x Crv.ny Crv.y; rfl
theorem crv_ex (x : Dat crvSh) : ∃ c : Crv,x = crvD c:=⟨crvOf x,by unfold crvD crvOf Crv.nx Crv.x Crv.ny Crv.y; rfl⟩
structure Cel where
 a1 : Int
 c1 : Crv
 a2 : Int
 c2 : Crv
 a3 : Int
 a4 : Int
 a5 : Int
 a6 : Int
 a7 : Int
 a8 : Int
 c3 : Crv
 a9 : Int
 a10 : Int
 a11 : Int
@[irreducible] def Cel.cap (c : Cel) : Int:=c.a1
@[irreducible] def Cel.ocv (c : Cel) : Crv:=c.c1
@[irreducible] def Cel.shift (c : Cel) : Int:=c.a2
@[irreducible] def Cel.cold (c : Cel) : Crv:=c.c2
@[irreducible] def Cel.extra (c : Cel) : Int:=c.a3
@[irreducible] def Cel.pair (c : Cel) : Int:=c.a4
@[irreducible] def Cel.keep (c : Cel) : Int:=c.a5
@[irreducible] def Cel.leak (c : Cel) : Int:=c.a6
@[irreducible] def Cel.hcap (c : Cel) : Int:=c.a7
@[irreducible] def Cel.cool (c : Cel) : Int:=c.a8
@[irreducible] def Cel.stress (c : Cel) : Crv:=c.c3
@[irreducible] def Cel.cyc (c : Cel) : Int:=c.a9
@[irreducible] def Cel.agel (c : Cel) : Int:=c.a10
@[irreducible] def Cel.grow (c : Cel) : Int:=c.a11
@[reducible] def celCells : List Sh:=[.int .i64,intsSh,intsSh,.int .i64,intsSh,intsSh,.int .i64,.int .i64,.int .i64,.int .i64,.int .i64,.int .i64,intsSh,intsSh,.int .i64,.int .i64,.int .i64]
@[reducible] def celSh : Sh:=.agg celCells
abbrev CelD:=Int × IntsD × IntsD × Int × IntsD × IntsD × Int × Int × Int × Int × Int × Int × IntsD × IntsD × Int × Int × Int × Unit
@[irreducible] def celOf (x : CelD) : Cel :=
 let (a1,x1,y1,a2,x2,y2,a3,a4,a5,a6,a7,a8,x3,y3,a9,a10,a11,_):=x
 ⟨a1,crvOf (x1,y1,()),a2,crvOf (x2,y2,()),a3,a4,a5,a6,a7,a8,crvOf (x3,y3,()),a9,a10,a11⟩
@[reducible] def celD (c : Cel) : CelD:=(c.cap,(c.ocv.nx,fun k=>(c.ocv.x k,())),(c.ocv.ny,fun k=>(c.ocv.y k,())),c.shift,(c.cold.nx,fun k=>(c.cold.x k,())),(c.cold.ny,fun k=>(c.cold.y k,())),
 c.extra,c.pair,c.keep,c.leak,c.hcap,c.cool,(c.stress.nx,fun k=>(c.stress.x k,())),(c.stress.ny,fun k=>(c.stress.y k,())),c.cyc,c.agel,c.grow,())
@[simp] theorem celOf_mk (c : Cel) : celOf (c.cap,(c.ocv.nx,fun k=>(c.ocv.x k,())),(c.ocv.ny,fun k=>(c.ocv.y k,())),c.shift,(c.cold.nx,fun k=>(c.cold.x k,())),(c.cold.ny,fun k=>(c.cold.y k,())),
  c.extra,c.pair,c.keep,c.leak,c.hcap,c.cool,(c.stress.nx,fun k=>(c.stress.x k,())),(c.stress.ny,fun k=>(c.stress.y k,())),c.cyc,c.agel,c.grow,()) = c:=by
 unfold celOf crvOf Cel.cap Cel.ocv Cel.shift Cel.cold Cel.extra Cel.pair Cel.keep Cel.leak Cel.hcap Cel.cool Cel.stress Cel.cyc Cel.agel Cel.grow Crv.nx Crv.x Crv.ny Crv.y; rfl
@[simp] theorem celOf_D (c : Cel) : celOf (celD c) = c:=celOf_mk c
theorem cel_ex (x : Dat celSh) : ∃ c : Cel,x = celD c:=⟨celOf x,by
 unfold celD celOf crvOf Cel.cap Cel.ocv Cel.shift Cel.cold Cel.extra Cel.pair Cel.keep Cel.leak Cel.hcap Cel.cool Cel.stress Cel.cyc Cel.agel Cel.grow Crv.nx Crv.x Crv.ny Crv.y; rfl⟩
structure Sta where
 a1 : Int
 a2 : Int
 a3 : Int
 a4 : Int
 a5 : Int
@[irreducible] def Sta.q (s : Sta) : Int:=s.a1
@[irreducible] def Sta.rx (s : Sta) : Int:=s.a2
@[irreducible] def Sta.tp (s : Sta) : Int:=s.a3
@[irreducible] def Sta.th (s : Sta) : Int:=s.a4
@[irreducible] def Sta.ag (s : Sta) : Int:=s.a5
@[simp] theorem Sta.q_mk (a b c d e : Int) : (Sta.mk a b c d e).q = a:=by unfold Sta.q; rfl
@[simp] theorem Sta.rx_mk (a b c d e : Int) : (Sta.mk a b c d e).rx = b:=by unfold Sta.rx; rfl
@[simp] theorem Sta.tp_mk (a b c d e : Int) : (Sta.mk a b c d e).tp = c:=by unfold Sta.tp; rfl
@[simp] theorem Sta.th_mk (a b c d e : Int) : (Sta.mk a b c d e).th = d:=by unfold Sta.th; rfl
@[simp] theorem Sta.ag_mk (a b c d e : Int) : (Sta.mk a b c d e).ag = e:=by unfold Sta.ag; rfl
@[reducible] def staCells : List Sh:=[.int .i64,.int .i64,.int .i64,.int .i64,.int .i64]
@[reducible] def staSh : Sh:=.agg staCells
abbrev StaD:=Int × Int × Int × Int × Int × Unit
@[irreducible] def staOf (x : StaD) : Sta:=⟨x.1,x.2.1,x.2.2.1,x.2.2.2.1,x.2.2.2.2.1⟩
@[reducible] def staD (s : Sta) : StaD:=(s.q,s.rx,s.tp,s.th,s.ag,())
@[simp] theorem staOf_mk (s : Sta) : staOf (s.q,s.rx,s.tp,s.th,s.ag,()) = s:=by unfold staOf Sta.q Sta.rx Sta.tp Sta.th Sta.ag; rfl
@[simp] theorem staOf_D (s : Sta) : staOf (staD s) = s:=staOf_mk s
theorem sta_ex (x : Dat staSh) : ∃ s : Sta,x = staD s:=⟨staOf x,by unfold staD staOf Sta.q Sta.rx Sta.tp Sta.th Sta.ag; rfl⟩
theorem Sta.ext' {s t : Sta} (h1 : s.q = t.q) (h2 : s.rx = t.rx) (h3 : s.tp = t.tp) (h4 : s.th = t.th) (h5 : s.ag = t.ag) : s = t:=by
 unfold Sta.q at h1; unfold Sta.rx at h2; unfold Sta.tp at h3; unfold Sta.th at h4; unfold Sta.ag at h5
 cases s; cases t; simp_all
@[irreducible] def crB (c : Crv) : Bool:=decide (c.nx = c.ny) && decide (2 <= c.nx) && decide (c.nx <= 64) && allN (fun k=>isQ (c.x k) && isQ (c.y k)) c.nx && allN (fun k=>decide (c.x k < c.x (k + 1)) && decide (c.y k <= c.y (k + 1))) (c.nx - 1)
theorem crB_iff {c : Crv} : crB c = true ↔ c.nx = c.ny /\ 2 <= c.nx /\ c.nx <= 64 /\ (∀ k,k < c.nx -> isQ (c.x k) = true /\ isQ (c.y k) = true) /\ ∀ k,k + 1 < c.nx -> c.x k < c.x (k + 1) /\ c.y k <= c.y (k + 1):=by
 unfold crB
 simp only [Bool.and_eq_true,decide_eq_true_eq,allN_iff,and_assoc]
 constructor
 ·rintro ⟨a,b,c',d,e⟩; exact ⟨a,b,c',d,fun k hk=>e k (by omega)⟩
 ·rintro ⟨a,b,c',d,e⟩; exact ⟨a,b,c',d,fun k hk=>e k (by omega)⟩
@[irreducible] def crE (c : Crv) : Int:=if 64 < c.nx \/ 64 < c.ny then 6 else if crB c = true then 0 else 2
theorem crE_iff {c : Crv} : crE c = 0 ↔ crB c = true:=by
 unfold crE
 split
 ·constructor
  ·intro h; cases h
  ·intro h; have:=crB_iff.1 h; omega
 ·split <;> simp [*]
@[irreducible] def sgI (c : Crv) (x : Int) : Nat:=firstN (fun i=>decide (x < c.x (i + 1))) (c.nx - 1)
@[irreducible] def pcL (c : Crv) (i : Nat) (x : Int) : Int:=c.y i + (x - c.x i) * (c.y (i + 1) - c.y i) / (c.x (i + 1) - c.x i)
@[irreducible] def pcH (c : Crv) (i : Nat) (x : Int) : Int:=c.y i + -(-(x - c.x i) * (c.y (i + 1) - c.y i) / (c.x (i + 1) - c.x i))
@[irreducible] def valL (c : Crv) (x : Int) : Int:=if c.x (c.nx - 1) <= x then c.y (c.nx - 1) else if x < c.x 0 then c.y 0 else pcL c (sgI c x) x
@[irreducible] def valH (c : Crv) (x : Int) : Int:=if c.x (c.nx - 1) <= x then c.y (c.nx - 1) else if x < c.x 0 then c.y 0 else pcH c (sgI c x) x
theorem crv_x {c : Crv} (h : crB c = true) : ∀ {j i : Nat},i <= j -> j < c.nx -> c.x i + ((j - i : Nat) : Int) <= c.x j
 | 0,i,h1,h2=>by
   obtain rfl : i = 0:=by omega
   simp
 | j + 1,i,h1,h2=>by
   rcases Nat.lt_or_ge i (j + 1) with hl | hl
   ·have h3:=crv_x h (j:=j) (i:=i) (by omega) (by omega)
    have h4:=(crB_iff.1 h).2.2.2.2 j h2
    omega
   ·obtain rfl : i = j + 1:=by omega
    simp
theorem crv_y {c : Crv} (h : crB c = true) : ∀ {j i : Nat},i <= j -> j < c.nx -> c.y i <= c.y j
 | 0,i,h1,h2=>by
   obtain rfl : i = 0:=by omega
   exact Int.le_refl _
 | j + 1,i,h1,h2=>by
   rcases Nat.lt_or_ge i (j + 1) with hl | hl
   ·have h3:=crv_y h (j:=j) (i:=i) (by omega) (by omega)
    have h4:=(crB_iff.1 h).2.2.2.2 j h2
    omega
   ·obtain rfl : i = j + 1:=by omega
    exact Int.le_refl _
theorem sgI_spec {c : Crv} (h : crB c = true) {x : Int} (h0 : c.x 0 <= x) (h1 : x < c.x (c.nx - 1)) : sgI c x + 1 < c.nx /\ c.x (sgI c x) <= x /\ x < c.x (sgI c x + 1):=by
 have hb:=crB_iff.1 h
 have hle:=firstN_le (fun i=>decide (x < c.x (i + 1))) (c.nx - 1)
 have hne : firstN (fun i=>decide (x < c.x (i + 1))) (c.nx - 1) < c.nx - 1:=by
  rcases Nat.lt_or_ge (firstN (fun i=>decide (x < c.x (i + 1))) (c.nx - 1)) (c.nx - 1) with h2 | h2
  ·exact h2
  ·have:=firstN_not (fun i=>decide (x < c.x (i + 1))) (c.nx - 1) (c.nx - 2) (by omega)
   simp at this
   rw [show c.nx - 2 + 1 = c.nx - 1 by omega] at this
   omega
 have h3:=firstN_is _ _ hne
 unfold sgI
 refine ⟨by omega,?_,by simpa using h3⟩
 generalize hi : firstN (fun i=>decide (x < c.x (i + 1))) (c.nx - 1) = i at *
 cases i with
 | zero=>exact h0
 | succ i =>
   have:=firstN_not (fun i=>decide (x < c.x (i + 1))) (c.nx - 1) i (by omega)
   simpa using this
theorem sgI_uniq {c : Crv} (h : crB c = true) {x : Int} {i : Nat} (hi : i + 1 < c.nx) (h0 : c.x i <= x) (h1 : x < c.x (i + 1)) : sgI c x = i:=by
 unfold sgI
 refine firstN_uniq (by omega) (fun j hj=>?_) (fun _=>by simpa using h1)
 have:=crv_x h (j:=i) (i:=j + 1) (by omega) (by omega)
 simp; omega
theorem piece_in {a d w : Int} (ha : 0 <= a) (haw : a <= w) (hw : 0 < w) (hd : 0 <= d) : 0 <= a * d / w /\ a * d / w <= d /\ 0 <= -(-a * d / w) /\ -(-a * d / w) <= d:=by
 have e1:=Int.mul_nonneg ha hd
 have e2:=Int.mul_le_mul_of_nonneg_right haw hd
 have e3 : 0 <= a * d / w:=Int.ediv_nonneg e1 (Int.le_of_lt hw)
 have e4 : a * d / w <= d:=by
  refine Int.ediv_le_of_le_mul hw ?_
  rw [Int.mul_comm d w]; exact e2
 have e5 : -a * d = -(a * d):=Int.neg_mul ..
 have e6 : -d <= -a * d / w:=by
  refine (Int.le_ediv_iff_mul_le hw).2 ?_
  rw [e5,Int.neg_mul,Int.mul_comm d w]; omega
 have e7 : -a * d / w <= 0:=by
  refine Int.ediv_le_of_le_mul hw ?_
  rw [e5]; omega
 omega
theorem pc_in {c : Crv} (h : crB c = true) {i : Nat} (hi : i + 1 < c.nx) {x : Int} (h0 : c.x i <= x) (h1 : x <= c.x (i + 1)) :
  c.y i <= pcL c i x /\ pcL c i x <= c.y (i + 1) /\ c.y i <= pcH c i x /\ pcH c i x <= c.y (i + 1):=by
 have hb:=(crB_iff.1 h).2.2.2.2 i hi
 have:=piece_in (a:=x - c.x i) (d:=c.y (i + 1) - c.y i) (w:=c.x (i + 1) - c.x i) (by omega) (by omega) (by omega) (by omega)
 unfold pcL pcH
 omega
theorem valL_b {c : Crv} (h : crB c = true) (x : Int) : c.y 0 <= valL c x /\ valL c x <= c.y (c.nx - 1):=by
 have hb:=crB_iff.1 h
 have hy:=crv_y h (j:=c.nx - 1) (i:=0) (by omega) (by omega)
 unfold valL
 split
 ·omega
 ·split
  ·omega
  ·have hs:=sgI_spec h (x:=x) (by omega) (by omega)
   have hp:=pc_in h hs.1 hs.2.1 (by omega)
   have h1:=crv_y h (j:=sgI c x) (i:=0) (by omega) (by omega)
   have h2:=crv_y h (j:=c.nx - 1) (i:=sgI c x + 1) (by omega) (by omega)
   omega
@[irreducible] def dvI (n d : Int) : Int:=n / d
theorem dvI_by {n d : Int} (h1 : -4611686018427387904 <= n) (h2 : n <= 4611686018427387904) (h3 : 1 <= d) : ¬d = 0 /\ -9223372036854775808 <= n.tdiv d /\ n.tdiv d <= 9223372036854775807 /\ ¬d = 0 /\
  (n.tmod d < 0 -> -9223372036854775808 <= n.tdiv d - 1 /\ n.tdiv d - 1 <= 9223372036854775807 /\ n.tdiv d - 1 = dvI n d) /\ (0 <= n.tmod d -> n.tdiv d = dvI n d):=by
 have hd : d ≠ 0:=by omega
 have key : (n.tmod d < 0 -> n.tdiv d - 1 = n / d) /\ (0 <= n.tmod d -> n.tdiv d = n / d):=by
  have a1:=Int.tmod_add_mul_tdiv n d
  have a2:=Int.tmod_lt_of_pos n (show 0 < d by omega)
  have a3:=Int.lt_tmod_of_pos n (show 0 < d by omega)
  have a4:=Int.emod_add_mul_ediv n d
  have a5:=Int.emod_nonneg n hd
  have a6:=Int.emod_lt_of_pos n (show 0 < d by omega)
  generalize n.tmod d = r at *
  generalize n.tdiv d = q at *
  generalize n % d = s at *
  generalize n / d = p at *
  have e : d * (p - q) = r - s:=by rw [Int.mul_sub]; omega
  have k1 : -2 < p - q:=by
   rcases Int.lt_or_le (-2) (p - q) with h | h
   ·exact h
   ·have:=Int.mul_le_mul_of_nonneg_left h (show 0 <= d by omega); omega
  have k2 : p - q < 1:=by
   rcases Int.lt_or_le (p - q) 1 with h | h
   ·exact h
   ·have:=Int.mul_le_mul_of_nonneg_left h (show 0 <= d by omega); omega
  rcases (by omega : p - q = -1 \/ p - q = 0) with h | h <;> rw [h] at e
  ·constructor
   ·intro _; omega
   ·intro hr; omega
  ·constructor
   ·intro hr; omega
   ·intro _; omega
 have b1 : -4611686018427387904 <= n / d:=by
  rw [Int.le_ediv_iff_mul_le (by omega)]
  have:=Int.mul_le_mul_of_nonneg_left h3 (show (0 : Int) <= 4611686018427387904 by decide)
  omega
 have b2 : n / d <= 4611686018427387904:=by
  rcases Int.lt_or_le n 0 with h | h
  ·have:=Int.ediv_neg_of_neg_of_pos h (show 0 < d by omega); omega
  ·have:=Int.ediv_le_self d h; omega
 unfold dvI
 rcases Int.lt_or_le (n.tmod d) 0 with h | h
 ·have:=key.1 h
  exact ⟨hd,by omega,by omega,hd,fun _=>by omega,fun h'=>by omega⟩
 ·have:=key.2 h
  exact ⟨hd,by omega,by omega,hd,fun h'=>by omega,fun _=>by omega⟩
@[irreducible] def clipV (x lo hi : Int) : Int:=max lo (min x hi)
theorem clipV_in {x lo hi : Int} (h : lo <= hi) : lo <= clipV x lo hi /\ clipV x lo hi <= hi:=by unfold clipV; omega
theorem clipV_mono {x y lo hi : Int} (h : x <= y) : clipV x lo hi <= clipV y lo hi:=by unfold clipV; omega
theorem dvI_mono {a b d : Int} (hd : 1 <= d) (h : a <= b) : dvI a d <= dvI b d:=by unfold dvI; exact Int.ediv_le_ediv (by omega) h
theorem dvI_nonneg {a d : Int} (hd : 1 <= d) (h : 0 <= a) : 0 <= dvI a d:=by unfold dvI; exact Int.ediv_nonneg h (by omega)
theorem dvI_le {a d m : Int} (hd : 1 <= d) (h : a <= m * d) : dvI a d <= m:=by unfold dvI; exact Int.ediv_le_of_le_mul (by omega) h
theorem dvI_ge {a d m : Int} (hd : 1 <= d) (h : m * d <= a) : m <= dvI a d:=by unfold dvI; exact (Int.le_ediv_iff_mul_le (by omega)).2 h
@[irreducible] def scB (c : Crv) (last most : Int) : Bool:=crB c && decide (c.x 0 = 0) && decide (c.x (c.nx - 1) = last) && decide (0 <= c.y 0) && decide (c.y (c.nx - 1) <= most)
theorem scB_iff {c : Crv} {last most : Int} : scB c last most = true ↔ crB c = true /\ c.x 0 = 0 /\ c.x (c.nx - 1) = last /\ 0 <= c.y 0 /\ c.y (c.nx - 1) <= most:=by unfold scB; simp [and_assoc]
def CelMax (c : Cel) : Prop:=c.ocv.nx <= maxLen /\ c.ocv.ny <= maxLen /\ c.cold.nx <= maxLen /\ c.cold.ny <= maxLen /\ c.stress.nx <= maxLen /\ c.stress.ny <= maxLen
structure CelOK (c : Cel) : Prop where
 cap0 : 1 <= c.cap
 cap1 : c.cap <= 4294967296
 sh0 : -8388608 <= c.shift
 sh1 : c.shift <= 8388608
 ex0 : -1048576 <= c.extra
 ex1 : c.extra <= 1048576
 pr0 : 0 <= c.pair
 pr1 : c.pair <= 1048576
 lk0 : 0 <= c.leak
 lk1 : c.leak <= 1048576
 kp0 : 0 <= c.keep
 kp1 : c.keep <= 65536
 co0 : 0 <= c.cool
 co1 : c.cool <= 65536
 hc0 : 1 <= c.hcap
 hc1 : c.hcap <= 1099511627776
 cy0 : 0 <= c.cyc
 cy1 : c.cyc <= 1048576
 al0 : 0 <= c.agel
 al1 : c.agel <= 1048576
 gr0 : 0 <= c.grow
 gr1 : c.grow <= 1048576
 ocv : scB c.ocv 65536 8388608 = true
 cold : scB c.cold 400000 1048576 = true
 stress : scB c.stress 400000 1048576 = true
open Classical in
@[irreducible] noncomputable def celB (c : Cel) : Bool:=decide (CelOK c)
theorem celB_iff {c : Cel} : celB c = true ↔ CelOK c:=by unfold celB; simp
theorem celB_no {c : Cel} (h : CelOK c -> False) : celB c = false:=by
 cases hb : celB c with
 | false=>rfl
 | true=>exact (h (celB_iff.1 hb)).elim
theorem CelOK.max {c : Cel} (h : CelOK c) : CelMax c:=by
 have h1:=crB_iff.1 (scB_iff.1 h.ocv).1
 have h2:=crB_iff.1 (scB_iff.1 h.cold).1
 have h3:=crB_iff.1 (scB_iff.1 h.stress).1
 unfold CelMax maxLen
 omega
theorem sc_val {c : Crv} {last most : Int} (h : scB c last most = true) (x : Int) : 0 <= valL c x /\ valL c x <= most:=by
 have h1:=scB_iff.1 h
 have:=valL_b h1.1 x
 omega
structure WearOK (c : Cel) (t a : Int) : Prop where
 c0 : 0 <= c.cyc
 c1 : c.cyc <= 1048576
 a0 : 0 <= c.agel
 a1 : c.agel <= 1048576
 t0 : 0 <= t
 t1 : t <= 2199023255552
 g0 : 0 <= a
 g1 : a <= 2199023255552
theorem mul_in {a b A B : Int} (h0 : 0 <= a) (h1 : a <= A) (h2 : 0 <= b) (h3 : b <= B) : 0 <= a * b /\ a * b <= A * B :=
 ⟨Int.mul_nonneg h0 h2,Int.le_trans (Int.mul_le_mul_of_nonneg_right h1 h2) (Int.mul_le_mul_of_nonneg_left h3 (by omega))⟩
theorem mul_ab {a b A B : Int} (h0 : -A <= a) (h1 : a <= A) (h2 : 0 <= b) (h3 : b <= B) : -(A * B) <= a * b /\ a * b <= A * B:=by
 have hA : 0 <= A:=by omega
 have k2:=Int.mul_le_mul_of_nonneg_left h3 hA
 have k3:=Int.mul_le_mul_of_nonneg_right h1 h2
 have k4:=Int.mul_le_mul_of_nonneg_right h0 h2
 rw [Int.neg_mul] at k4
 omega
@[irreducible] def wearV (c : Cel) (t a : Int) : Int:=dvI (t * c.cyc) 1073741824 + dvI (a * c.agel) 1073741824
theorem wearV_in {c : Cel} {t a : Int} (h : WearOK c t a) : 0 <= wearV c t a /\ wearV c t a <= 4294967296:=by
 have h1:=mul_in h.t0 h.t1 h.c0 h.c1
 have h2:=mul_in h.g0 h.g1 h.a0 h.a1
 have h3:=dvI_le (a:=t * c.cyc) (d:=1073741824) (m:=2147483648) (by decide) (by omega)
 have h4:=dvI_le (a:=a * c.agel) (d:=1073741824) (m:=2147483648) (by decide) (by omega)
 have h5:=dvI_nonneg (a:=t * c.cyc) (d:=1073741824) (by decide) h1.1
 have h6:=dvI_nonneg (a:=a * c.agel) (d:=1073741824) (by decide) h2.1
 unfold wearV
 omega
@[irreducible] def roomV (c : Cel) (w : Int) : Int:=max 1 (c.cap - w)
theorem roomV_in {c : Cel} {w : Int} : 1 <= roomV c w /\ (0 <= w -> 1 <= c.cap -> roomV c w <= c.cap):=by unfold roomV; omega
@[irreducible] def pcV (x o : Int) : Int:=min 65536 (dvI (x * 65536) o)
@[irreducible] def openV (c : Cel) (f : Int) : Int:=valL c.ocv f + c.shift
@[irreducible] def resV (c : Cel) (t w : Int) : Int:=clipV (valL c.cold (400000 - t) + c.extra + dvI (w * c.grow) 65536) 0 1048576
@[irreducible] def slackV (c : Cel) (o p : Int) : Int:=clipV (dvI (1000 * c.keep * o + (65536 - c.keep) * p) 65536000) (-8388608) 8388608
end Abs
end Go.Proofs.YtlacopdaibhkkaaGreat

namespace Go.Proofs.YtlacopdaibhkkaaGreat
namespace Abs
open Go Go.RowKit
def spanKs : List (Option IntKind):=[some .i64,some .i64]
def stateKs : List (Option IntKind):=[some .i64,some .i64,some .i64,some .i64,some .i64]
def eqs0 : List (Nat × List (Option IntKind)):=[(187,spanKs),(58,stateKs)]
theorem eqs0_ok : ∀ t ks,findS eqs0 t = some ks -> EqOK Tryz.prog t ks:=by
 intro t ks h
 unfold eqs0 at h
 simp only [findS] at h
 split at h
 ·rename_i e
  obtain rfl:=Nat.eq_of_beq_eq_true e
  injection h with h; subst h
  exact EqOK.of 3 (by decide) (by kernel_rfl) (by kernel_rfl) (by kernel_rfl)
 ·first
  | cases h; done
  | split at h
    ·rename_i e
     obtain rfl:=Nat.eq_of_beq_eq_true e
     injection h with h; subst h
     exact EqOK.of 3 (by decide) (by kernel_rfl) (by kernel_rfl) (by kernel_rfl)
    ·cases h
noncomputable def S0 : Sums:=⟨[],[],0,eqs0,[],[]⟩
theorem S0_ok : SumsOK Tryz.prog S0:=.nil _ _ _ eqs0_ok
def isS : Spec [.int .i64]:=⟨fun _=>True,fun (x,_)=>.sb (isQ x)⟩
set_option maxRecDepth 100000 in
theorem is_ok : FnSpec Tryz.prog 126 _ isS:=by
 refine FnSpec.of S0_ok mixed (U:=0) (I:=fun _=>[]) Tryz.func126 rfl (by kernel_rfl) rfl rfl (by decide +kernel) ?_
 rintro ⟨(x : Int),⟨⟩⟩ -
 unfold FnSat
 conv=>arg 2; reduce
 simp [isS,isQ]
noncomputable def SQ0 : Sums:=⟨(126,mkSum _ isS) :: S0.one,S0.two,S0.lo,S0.eqs,S0.its,S0.imm⟩
theorem SQ0_ok : SumsOK Tryz.prog SQ0:=(S0_ok.cons Tryz.func126 (by kernel_rfl) (by kernel_rfl) is_ok)
noncomputable def SQ1 : Sums:=⟨SQ0.one,SQ0.two,SQ0.lo,SQ0.eqs,SQ0.its,SQ0.imm⟩
theorem SQ1_ok : SumsOK Tryz.prog SQ1:=SQ0_ok
noncomputable def SQ2 : Sums:=⟨SQ1.one,SQ1.two,SQ1.lo,SQ1.eqs,SQ1.its,SQ1.imm⟩
theorem SQ2_ok : SumsOK Tryz.prog SQ2:=SQ1_ok
noncomputable def SQ3 : Sums:=⟨SQ2.one,SQ2.two,SQ2.lo,SQ2.eqs,SQ2.its,SQ2.imm⟩
theorem SQ3_ok : SumsOK Tryz.prog SQ3:=SQ2_ok
end Abs
end Go.Proofs.YtlacopdaibhkkaaGreat

namespace Go.Proofs.YtlacopdaibhkkaaGreat
namespace Abs
open Go Go.RowKit
@[irreducible] def sgn (x : Int) : Int:=if x < 0 then -1 else if 0 < x then 1 else 0
theorem sgn_mul (x : Int) : x * sgn x = absI x:=by unfold sgn absI; split <;> (try split) <;> omega
theorem sgn_b (x : Int) : sgn x = -1 \/ sgn x = 0 \/ sgn x = 1:=by unfold sgn; split <;> (try split) <;> simp
def signS : Spec [.int .i64]:=⟨fun _=>True,fun (x,_)=>.si .i64 (sgn x)⟩
set_option maxRecDepth 100000 in
theorem sign_ok : FnSpec Tryz.prog 152 _ signS:=by
 refine FnSpec.of SQ3_ok mixed (U:=0) (I:=fun _=>[]) Tryz.func152 rfl (by kernel_rfl) rfl rfl (by decide +kernel) ?_
 rintro ⟨(x : Int),⟨⟩⟩ -
 unfold FnSat
 conv=>arg 2; reduce
 simp [signS,sgn]
 repeat' (first | refine And.intro ?_ ?_ | intro _)
 all_goals (try omega)
noncomputable def SX0 : Sums:=⟨(152,mkSum _ signS) :: SQ3.one,SQ3.two,SQ3.lo,SQ3.eqs,SQ3.its,SQ3.imm⟩
theorem SX0_ok : SumsOK Tryz.prog SX0:=(SQ3_ok.cons Tryz.func152 (by kernel_rfl) (by kernel_rfl) sign_ok)
@[irreducible] def qD (x n d : Int) (k : Nat) : Int:=topP x n k / d
@[irreducible] def rD (x n d : Int) (k : Nat) : Int:=topP x n k % d
theorem i64_and1 (n : Int) : bits .and .i64 n 1 = n % 2:=by
 have h1 : (BitVec.ofInt 64 1).toNat = 2 ^ 1 - 1:=by decide
 have key : (BitVec.ofInt 64 n &&& BitVec.ofInt 64 1).toNat = (n % ((2 ^ 64 : Nat) : Int)).toNat % 2 ^ 1:=by
  rw [BitVec.toNat_and,BitVec.toNat_ofInt,h1,Nat.and_two_pow_sub_one_eq_mod]
 show IntKind.i64.wrap ((BitVec.ofInt 64 n &&& BitVec.ofInt 64 1).toNat : Nat) = n % 2
 rw [key,IntKind.wrap_i64]
 omega
theorem bit_eq {n : Int} (i : Nat) (hn : 0 <= n) : ibit .and .i64 (ishr n (i : Int)) 1 = bitP n i:=by
 unfold ibit ishr bitP
 rw [i64_and1,Int.fdiv_eq_ediv_of_nonneg _ (Int.pow_nonneg (by decide))]
theorem dvd_step {x n d : Int} {i : Nat} (hx : 0 <= x) (hn : 0 <= n) (hd : 1 <= d) : 0 <= qD x n d (i + 1) /\ 0 <= rD x n d (i + 1) /\ rD x n d (i + 1) < d /\
  2 * qD x n d (i + 1) + bitP n i * (x / d) + (2 * rD x n d (i + 1) + bitP n i * (x % d)) / d = qD x n d i /\ (2 * rD x n d (i + 1) + bitP n i * (x % d)) % d = rD x n d i:=by
 have hT:=topP_step (x:=x) (n:=n) (i:=(i : Int)) (by omega)
 have e1 : (i : Int) + 1 = ((i + 1 : Nat) : Int):=by omega
 rw [e1] at hT
 have hn0:=topP_nonneg (i:=((i + 1 : Nat) : Int)) hx hn
 have hd0 : d ≠ 0:=by omega
 have hq1:=Int.emod_add_mul_ediv (topP x n ((i + 1 : Nat) : Int)) d
 have hq2:=Int.emod_nonneg (topP x n ((i + 1 : Nat) : Int)) hd0
 have hq3:=Int.emod_lt_of_pos (topP x n ((i + 1 : Nat) : Int)) (show 0 < d by omega)
 have hq4 : 0 <= topP x n ((i + 1 : Nat) : Int) / d:=Int.ediv_nonneg hn0 (by omega)
 have hx1:=Int.emod_add_mul_ediv x d
 have u1 : topP x n ((i + 1 : Nat) : Int) / d = qD x n d (i + 1):=by unfold qD; rfl
 have u2 : topP x n ((i + 1 : Nat) : Int) % d = rD x n d (i + 1):=by unfold rD; rfl
 rw [u1,u2] at hq1
 rw [u2] at hq2 hq3
 rw [u1] at hq4
 refine ⟨hq4,hq2,hq3,?_⟩
 have e2 : qD x n d i = topP x n i / d:=by unfold qD; rfl
 have e3 : rD x n d i = topP x n i % d:=by unfold rD; rfl
 rw [e2,e3]
 clear u1 u2 e2 e3
 generalize qD x n d (i + 1) = q at *
 generalize rD x n d (i + 1) = r at *
 generalize hxd : x / d = q1 at *
 generalize hxm : x % d = r1 at *
 have e4 : topP x n i = (2 * r + bitP n i * r1) + d * (2 * q + bitP n i * q1):=by
  rw [hT,<- hq1]
  rcases bitP_or n i with h | h <;> rw [h]
  ·simp only [Int.zero_mul,Int.add_zero]
   rw [Int.mul_add,Int.mul_left_comm]
  ·simp only [Int.one_mul]
   rw [<- hx1,Int.mul_add,Int.mul_add,Int.mul_left_comm]
   omega
 rw [e4,Int.add_mul_ediv_left _ _ hd0,Int.add_mul_emod_self_left]
 exact ⟨by omega,rfl⟩
theorem qD_top {x n d : Int} (h0 : 0 <= n) (h1 : n < 17592186044416) : qD x n d 44 = 0 /\ rD x n d 44 = 0:=by
 unfold qD rD
 rw [show ((44 : Nat) : Int) = 44 from rfl,topP_top h0 h1]; simp
theorem qD_zero {x n d : Int} (hd : 1 <= d) (h : qD x n d 0 <= 288230376151711744) : qD x n d 0 = whQ x n d /\ rD x n d 0 = whR x n d:=by
 have hd0 : d ≠ 0:=by omega
 have hq1:=Int.emod_add_mul_ediv (topP x n ((0 : Nat) : Int)) d
 have hq2:=Int.emod_nonneg (topP x n ((0 : Nat) : Int)) hd0
 have hq3:=Int.emod_lt_of_pos (topP x n ((0 : Nat) : Int)) (show 0 < d by omega)
 rw [Int.mul_comm] at hq1
 unfold qD at h ⊢
 unfold rD
 have:=wh_near (x:=x) (n:=n) (d:=d) (q:=topP x n ((0 : Nat) : Int) / d) (r:=topP x n ((0 : Nat) : Int) % d) (by rw [Int.add_comm]; exact hq1) hq2 hq3 h
 exact ⟨this.1.symm,this.2.symm⟩
def dvdS : Spec [.int .i64,.int .i64,.int .i64]:=⟨fun (x,n,d,_)=>0 <= x /\ x <= 4398046511104 /\ 0 <= n /\ n <= 4398046511104 /\ 1 <= d /\ d <= 4398046511104,fun (x,n,d,_)=>.tup [.si .i64 (whQ x n d),.si .i64 (whR x n d)]⟩
noncomputable def dvdI : DatL [.int .i64,.int .i64,.int .i64] -> Anns:=fun ((x : Int),(n : Int),(d : Int),_)=>[
 (6,[],fun fr hp=>⟨Nat,fun g=>⟨frI [.k 10,.s (.si .i64 (qD x n d (nsub 44 g))),.s (.si .i64 (rD x n d (nsub 44 g))),.t 1,.k 12,.s (.si .i64 (icast g)),.t 31] fr,hp⟩,Nat × Int × Int × Int,fun g=>(g,x,n,d),fun (g,x,n,d)=>g <= 44 /\ qD x n d (44 - g) <= 288230376151711744,fun g=>nsub 44 g⟩)]
set_option maxRecDepth 100000 in
theorem dvd_ok : FnSpec Tryz.prog 151 _ dvdS:=by
 refine FnSpec.of SX0_ok mixed (U:=0) (I:=dvdI) Tryz.func151 rfl (by kernel_rfl) rfl rfl (by decide +kernel) ?_
 rintro ⟨(x : Int),(n : Int),(d : Int),⟨⟩⟩ ⟨(h1 : 0 <= x),(h2 : x <= 4398046511104),(h3 : 0 <= n),(h4 : n <= 4398046511104),(h5 : 1 <= d),(h6 : d <= 4398046511104)⟩
 unfold FnSat
 conv=>arg 2; reduce
 simp [dvdS,and_assoc]
 have hd0 : d ≠ 0:=by omega
 have hx4 : 0 <= x / d:=Int.ediv_nonneg h1 (by omega)
 have hx5 : x / d <= x:=Int.ediv_le_self _ h1
 have hx2:=Int.emod_nonneg x hd0
 have hx3:=Int.emod_lt_of_pos x (show 0 < d by omega)
 rw [Int.tdiv_eq_ediv_of_nonneg h1,Int.tmod_eq_emod_of_nonneg h1]
 refine ⟨fun h=>?_,fun hx hn=>⟨hd0,by omega,by omega,hd0,⟨0,?_⟩,fun g hg hq=>⟨fun hlt=>?_,fun hge=>?_⟩⟩⟩
 ·unfold whQ whR
  have e : x * n = 0:=by rcases h with h | h <;> simp [h]
  rw [e]; simp
 ·have:=qD_top (x:=x) (d:=d) h3 (show n < 17592186044416 by omega)
  exact ⟨this.1.symm,this.2.symm,rfl,by omega,by rw [this.1]; decide⟩
 ·obtain ⟨i,hgi,hi43⟩ : ∃ i : Nat,g = 43 - i /\ i <= 43:=⟨43 - g,by omega,by omega⟩
  subst hgi
  have eA : 44 - (43 - i) = i + 1:=by omega
  have eB : 43 - (((43 - i : Nat) : Nat) : Int) = (i : Int):=by omega
  rw [eA] at hq
  rw [eA,eB,bit_eq i h3]
  obtain ⟨s1,s2,s3,s4,s5⟩:=dvd_step (i:=i) h1 h3 h5
  have tail : ∀ v w : Int,v = qD x n d i -> w = rD x n d i -> (288230376151711744 < v -> 1152921504606846976 = whQ x n d /\ 0 = whR x n d) /\
    (v <= 288230376151711744 -> -9223372036854775808 <= (((43 - i : Nat) : Nat) : Int) + 1 /\ (((43 - i : Nat) : Nat) : Int) + 1 <= 9223372036854775807 /\ ∃ g_1 : Nat,v = qD x n d (44 - g_1) /\ w = rD x n d (44 - g_1) /\ (((43 - i : Nat) : Nat) : Int) + 1 = (g_1 : Int) /\ g_1 <= 44 /\ qD x n d (44 - g_1) <= 288230376151711744 /\ 44 - g_1 < i + 1):=by
   intro v w hv hw
   refine ⟨fun hfar=>?_,fun hnear=>⟨by omega,by omega,44 - i,?_⟩⟩
   ·have:=wh_far (x:=x) (n:=n) (d:=d) (k:=i) h1 h3 (by omega) (by rw [hv] at hfar; unfold qD at hfar; exact hfar)
    exact ⟨this.1.symm,this.2.symm⟩
   ·rw [show 44 - (44 - i) = i by omega]
    exact ⟨hv,hw,by omega,by omega,by omega,by omega⟩
  have dv : ∀ a : Int,0 <= a -> a < 3 * d -> 0 <= a / d /\ a / d <= 2:=fun a ha hb=>by
   refine ⟨Int.ediv_nonneg ha (by omega),?_⟩
   have:=Int.ediv_lt_of_lt_mul (a:=a) (b:=3) (c:=d) (by omega) hb
   omega
  refine ⟨by omega,by omega,by omega,by omega,by omega,by omega,by omega,by simp [IntKind.bits]; omega,fun hb=>?_,fun hb=>?_⟩
  ·rw [hb,Int.one_mul,Int.one_mul] at s4
   rw [hb,Int.one_mul] at s5
   have d1:=dv (2 * rD x n d (i + 1) + x % d) (by omega) (by omega)
   rw [Int.tdiv_eq_ediv_of_nonneg (by omega),Int.tmod_eq_emod_of_nonneg (by omega)]
   exact ⟨by omega,by omega,by omega,by omega,hd0,by omega,by omega,by omega,by omega,hd0,tail _ _ s4 s5⟩
  ·have hb0 : bitP n i = 0:=by rcases bitP_or n i with h | h; exact h; exact absurd h hb
   rw [hb0,Int.zero_mul,Int.zero_mul,Int.add_zero,Int.add_zero] at s4
   rw [hb0,Int.zero_mul,Int.add_zero] at s5
   have d1:=dv (2 * rD x n d (i + 1)) (by omega) (by omega)
   rw [Int.tdiv_eq_ediv_of_nonneg (by omega),Int.tmod_eq_emod_of_nonneg (by omega)]
   exact ⟨hd0,by omega,by omega,by omega,by omega,hd0,tail _ _ s4 s5⟩
 ·obtain rfl : g = 44:=by omega
  exact qD_zero h5 hq
noncomputable def SX1 : Sums:=⟨(151,mkSum _ dvdS) :: SX0.one,SX0.two,SX0.lo,SX0.eqs,SX0.its,SX0.imm⟩
theorem SX1_ok : SumsOK Tryz.prog SX1:=(SX0_ok.cons Tryz.func151 (by kernel_rfl) (by kernel_rfl) dvd_ok)
@[irreducible] def dnW (x n d : Int) : Int:=if 0 <= sgn x * sgn n * sgn d then whQ (absI x) (absI n) (absI d) else -(if 0 < whR (absI x) (absI n) (absI d) then whQ (absI x) (absI n) (absI d) + 1 else whQ (absI x) (absI n) (absI d))
def dnS : Spec [.int .i64,.int .i64,.int .i64]:=⟨fun ((x : Int),(n : Int),(d : Int),_)=>-4398046511104 <= x /\ x <= 4398046511104 /\ -4398046511104 <= n /\ n <= 4398046511104 /\ 1 <= absI d /\ -4398046511104 <= d /\ d <= 4398046511104,fun ((x : Int),(n : Int),(d : Int),_)=>.si .i64 (dnW x n d)⟩
set_option maxRecDepth 100000 in
theorem dn_ok : FnSpec Tryz.prog 149 _ dnS:=by
 refine FnSpec.of SX1_ok mixed (U:=0) (I:=fun _=>[]) Tryz.func149 rfl (by kernel_rfl) rfl rfl (by decide +kernel) ?_
 rintro ⟨(x : Int),(n : Int),(d : Int),⟨⟩⟩ ⟨(h1 : -4398046511104 <= x),(h2 : x <= 4398046511104),(h3 : -4398046511104 <= n),(h4 : n <= 4398046511104),(h5 : 1 <= absI d),(h6 : -4398046511104 <= d),(h7 : d <= 4398046511104)⟩
 unfold FnSat
 conv=>arg 2; reduce
 simp [dnS,signS,dvdS,sgn_mul,and_assoc]
 have a1:=absI_b (x:=x) (m:=4398046511104) (by omega) (by omega)
 have a2:=absI_b (x:=n) (m:=4398046511104) (by omega) (by omega)
 have a3:=absI_b (x:=d) (m:=4398046511104) (by omega) (by omega)
 have hb:=whQ_b (x:=absI x) (n:=absI n) (d:=absI d) a1.1 a2.1 (by omega)
 have s1 : ∀ x n : Int,(x = -1 \/ x = 0 \/ x = 1) -> (n = -1 \/ n = 0 \/ n = 1) -> x * n = -1 \/ x * n = 0 \/ x * n = 1:=by
  rintro x n (rfl | rfl | rfl) (rfl | rfl | rfl) <;> decide
 have s2:=s1 _ _ (sgn_b x) (sgn_b n)
 have s3:=s1 _ _ s2 (sgn_b d)
 refine ⟨by omega,by omega,by omega,by omega,by omega,by omega,a1.1,a1.2,a2.1,a2.2,h5,a3.2,by omega,by omega,by omega,by omega,fun h=>by unfold dnW; rw [if_pos h],fun h=>⟨fun hr=>⟨by omega,by omega,by omega,by omega,by unfold dnW; rw [if_neg (by omega),if_pos hr]⟩,fun hr=>⟨by omega,by omega,by unfold dnW; rw [if_neg (by omega),if_neg (by omega)]⟩⟩⟩
theorem dnW_pos {x n d : Int} (hn : 0 <= n) (hd : 0 < d) (h : absI x * n / d <= 288230376151711744) : dnW x n d = x * n / d:=by
 rw [<- dnV_pos hn hd h]
 unfold dnW dnV
 have e1 : decide (n < 0) = false:=by simp; omega
 have e2 : decide (d < 0) = false:=by simp; omega
 have e3 : sgn d = 1:=by unfold sgn; rw [if_neg (by omega),if_pos hd]
 rw [e1,e2,e3,Int.mul_one]
 by_cases hx : x < 0
 ·have e4 : sgn x = -1:=by unfold sgn; rw [if_pos hx]
  rw [e4]
  by_cases hn0 : n = 0
  ·subst hn0
   have e5 : absI 0 = 0:=by unfold absI; rfl
   simp [hx,e5,whQ,whR,sgn]
  ·have e5 : sgn n = 1:=by unfold sgn; rw [if_neg (by omega),if_pos (by omega)]
   rw [e5]
   simp [hx]
 ·have e4 : 0 <= sgn x * sgn n:=by
   refine Int.mul_nonneg ?_ ?_
   ·unfold sgn; rw [if_neg hx]; split <;> omega
   ·unfold sgn; rw [if_neg (by omega)]; split <;> omega
  rw [if_pos e4]
  simp [hx]
noncomputable def SX2 : Sums:=⟨(149,mkSum _ dnS) :: SX1.one,SX1.two,SX1.lo,SX1.eqs,SX1.its,SX1.imm⟩
theorem SX2_ok : SumsOK Tryz.prog SX2:=(SX1_ok.cons Tryz.func149 (by kernel_rfl) (by kernel_rfl) dn_ok)
@[irreducible] def upW (x n d : Int) : Int:=-(dnW (-x) n d)
def upS : Spec [.int .i64,.int .i64,.int .i64]:=⟨fun ((x : Int),(n : Int),(d : Int),_)=>-4398046511104 <= x /\ x <= 4398046511104 /\ 0 <= n /\ n <= 4398046511104 /\ 1 <= d /\ d <= 4398046511104,fun ((x : Int),(n : Int),(d : Int),_)=>.si .i64 (upW x n d)⟩
theorem dnW_b {x n d : Int} (h5 : 1 <= absI d) : -1152921504606846977 <= dnW x n d /\ dnW x n d <= 1152921504606846976:=by
 have a1 : 0 <= absI x:=by unfold absI; split <;> omega
 have a2 : 0 <= absI n:=by unfold absI; split <;> omega
 have hb:=whQ_b (x:=absI x) (n:=absI n) (d:=absI d) a1 a2 (by omega)
 unfold dnW
 split
 ·omega
 ·split <;> omega
set_option maxRecDepth 100000 in
theorem up_ok : FnSpec Tryz.prog 150 _ upS:=by
 refine FnSpec.of SX2_ok mixed (U:=0) (I:=fun _=>[]) Tryz.func150 rfl (by kernel_rfl) rfl rfl (by decide +kernel) ?_
 rintro ⟨(x : Int),(n : Int),(d : Int),⟨⟩⟩ ⟨(h1 : -4398046511104 <= x),(h2 : x <= 4398046511104),(h3 : 0 <= n),(h4 : n <= 4398046511104),(h5 : 1 <= d),(h6 : d <= 4398046511104)⟩
 unfold FnSat
 conv=>arg 2; reduce
 simp [upS,dnS,and_assoc]
 have hd : 1 <= absI d:=by rw [absI_pos (by omega)]; exact h5
 have:=dnW_b (x:=-x) (n:=n) hd
 refine ⟨by omega,by omega,by omega,by omega,by omega,by omega,hd,by omega,by omega,by omega,by omega,?_⟩
 unfold upW; rfl
noncomputable def SX3 : Sums:=⟨(150,mkSum _ upS) :: SX2.one,SX2.two,SX2.lo,SX2.eqs,SX2.its,SX2.imm⟩
theorem SX3_ok : SumsOK Tryz.prog SX3:=(SX2_ok.cons Tryz.func150 (by kernel_rfl) (by kernel_rfl) up_ok)
def ratioS : Spec [.int .i64,.int .i64,.int .i64]:=⟨fun ((x : Int),(n : Int),(d : Int),_)=>-4398046511104 <= x /\ x <= 4398046511104 /\ 0 <= n /\ n <= 4398046511104 /\ 1 <= d /\ d <= 4398046511104,fun ((x : Int),(n : Int),(d : Int),_)=>.agg [.si .i64 (dnW x n d),.si .i64 (upW x n d)]⟩
set_option maxRecDepth 100000 in
theorem ratio_ok : FnSpec Tryz.prog 148 _ ratioS:=by
 refine FnSpec.of SX3_ok mixed (U:=0) (I:=fun _=>[]) Tryz.func148 rfl (by kernel_rfl) rfl rfl (by decide +kernel) ?_
 rintro ⟨(x : Int),(n : Int),(d : Int),⟨⟩⟩ ⟨(h1 : -4398046511104 <= x),(h2 : x <= 4398046511104),(h3 : 0 <= n),(h4 : n <= 4398046511104),(h5 : 1 <= d),(h6 : d <= 4398046511104)⟩
 unfold FnSat
 conv=>arg 2; reduce
 simp [ratioS,dnS,upS,and_assoc]
 have hd : 1 <= absI d:=by rw [absI_pos (by omega)]; exact h5
 exact ⟨by omega,by omega,by omega,by omega,hd,by omega,by omega,by omega,by omega,by omega,by omega,by omega,by omega⟩
noncomputable def SX4 : Sums:=⟨(148,mkSum _ ratioS) :: SX3.one,SX3.two,SX3.lo,SX3.eqs,SX3.its,SX3.imm⟩
theorem SX4_ok : SumsOK Tryz.prog SX4:=(SX3_ok.cons Tryz.func148 (by kernel_rfl) (by kernel_rfl) ratio_ok)
def piecesS : Spec [crvSh]:=⟨fun _=>True,fun ((x,y,_),_)=>.fn (.func 143) [] [.xp [enc intsSh x,enc intsSh y]]⟩
set_option maxRecDepth 100000 in
theorem pieces_ok : FnSpec Tryz.prog 128 _ piecesS:=by
 refine FnSpec.of SX4_ok mixed (U:=0) (I:=fun _=>[]) Tryz.func128 rfl (by kernel_rfl) rfl rfl (by decide +kernel) ?_
 rintro ⟨c,⟨⟩⟩ -
 obtain ⟨c,rfl⟩:=crv_ex c
 unfold FnSat
 conv=>arg 2; reduce
 simp [piecesS,enc,encL,ownIn,ownIn.ownInL,fnEq,getB,goneB,aliveB,dropL,ElEq]
noncomputable def SX5 : Sums:=⟨(128,mkSum _ piecesS) :: SX4.one,SX4.two,SX4.lo,SX4.eqs,SX4.its,SX4.imm⟩
theorem SX5_ok : SumsOK Tryz.prog SX5:=(SX4_ok.cons Tryz.func128 (by kernel_rfl) (by kernel_rfl) pieces_ok)
def tops : Nat -> List AV -> List AV
 | 0,l=>l
 | n + 1,l=>.top :: tops n l
def pcsI : SpecI [.ptr crvCells]:=⟨fun ((x,y,_),_)=>1 <= x.1 /\ x.1 <= y.1 /\ x.1 <= 1000 /\ ∀ k,k < x.1 -> isQ (x.2 k).1 = true /\ isQ (y.2 k).1 = true,fun ((x,_,_),_)=>nsub x.1 1,
 fun ((x,y,_),_) i=>[.si .i64 (icast i),.agg [.si .i64 (x.2 i).1,.si .i64 (y.2 i).1,.si .i64 (isub (x.2 (nadd i 1)).1 (x.2 i).1),.si .i64 (isub (y.2 (nadd i 1)).1 (y.2 i).1)]]⟩
def pcsF (Y : Value) (x : DatL [.ptr crvCells]) (g : Nat) : List AV:=.v Y :: .xp (encL crvCells x.1) :: tops 5 (.si .i64 (icast (nsub x.1.1.1 1)) :: .si .i64 (icast g) :: tops 42 [])
set_option maxRecDepth 100000 in
set_option maxHeartbeats 2000000 in
theorem pcs_ok : IterOK Tryz.prog 143 (mkIt [.ptr crvCells] pcsI):=by
 refine IterOK.of SX5_ok mixed rfl Tryz.func143 rfl rfl (by decide +kernel) rfl (by decide) (dat:=fun x g=>(g,x.1.1.1)) (q:=fun z : Nat × Nat=>z.1 + 1 <= z.2) (fr:=pcsF) (fun Y x g t ht=>?_) ?_
 ·have : t = 0 \/ t = 1:=by simp at ht; omega
  rcases this with rfl | rfl <;> rfl
 rintro Y ⟨⟨⟨n,x⟩,⟨m,y⟩,⟨⟩⟩,⟨⟩⟩ ⟨(h1 : 1 <= n),(h2 : n <= m),(h3 : n <= 1000),(h4 : ∀ k,k < n -> isQ (x k).1 = true /\ isQ (y k).1 = true)⟩
 obtain ⟨u,rfl⟩ : ∃ u : Nat -> Int,x = fun k=>(u k,()):=⟨fun k=>(x k).1,rfl⟩
 obtain ⟨v,rfl⟩ : ∃ v : Nat -> Int,y = fun k=>(v k,()):=⟨fun k=>(y k).1,rfl⟩
 conv=>arg 2; reduce
 simp [unitA,natA,ElEq,and_assoc]
 have h5 : ∀ k,k < n -> (-1099511627776 <= u k /\ u k <= 1099511627776) /\ (-1099511627776 <= v k /\ v k <= 1099511627776):=fun k hk=>by
  have:=h4 k hk
  exact ⟨isQ_iff.1 this.1,isQ_iff.1 this.2⟩
 refine ⟨by omega,by omega,by omega,h1,fun g hg=>⟨fun hlt=>?_,fun hge=>by omega⟩⟩
 have a:=h5 g (by omega)
 have b:=h5 (g + 1) (by omega)
 exact ⟨by omega,by omega,by omega,by omega,by omega,by omega,by omega,by omega,by omega,by omega,by omega,by omega,by omega,by omega,by omega,by omega,hlt,by omega,by omega,hlt,by omega⟩
noncomputable def SX6 : Sums:=⟨SX5.one,SX5.two,SX5.lo,SX5.eqs,(143,mkIt [.ptr crvCells] pcsI) :: SX5.its,SX5.imm⟩
theorem SX6_ok : SumsOK Tryz.prog SX6:=SX5_ok.addIt Tryz.func143 (by kernel_rfl) (by kernel_rfl) pcs_ok
end Abs
end Go.Proofs.YtlacopdaibhkkaaGreat
