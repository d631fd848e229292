/- A part of the proof: no statement of its own. -/
import Derived.Test.YtccgngldoinokaaGreatQG48bea048
import Derived.Test.YtccgngldoinokaaGreatProg
set_option linter.unusedSimpArgs false
set_option linter.unusedVariables false
namespace Go.Proofs.YtccgngldoinokaaGreat
namespace Abs
open Go
@[irreducible]def Mh (lo x hi:Int):Bool:=decide (lo<=x)&&decide (x<=hi)
@[simp]theorem AO2 (lo x hi:Int):Mh lo x hi=(decide (lo<=x)&&decide (x<=hi)):=by unfold Mh;rfl
@[irreducible]def fdiv (n d:Int):Int:=n / d
@[simp]theorem AP0 (n d:Int):fdiv n d=n / d:=by unfold fdiv;rfl
def within:Spec [.int .i64,.int .i64,.int .i64]:=⟨fun _=>True,fun (x,lo,hi,_)=>.sb (Mh lo x hi)⟩
def floor:Spec [.int .i64,.int .i64]:=⟨fun ((n:Int),(d:Int),_)=>O2 .i64 n/\0<d,fun (n,d,_)=>.si .i64 (fdiv n d)⟩
@[irreducible]def HH (x:Int):Bool:=Mh (-1099511627776) x 1099511627776
end Abs
end Go.Proofs.YtccgngldoinokaaGreat

namespace Go.Proofs.YtccgngldoinokaaGreat
namespace Abs
open Go
def Aw (p:Nat->Bool):Nat->Nat
 | 0=>0
 | n+1=>let f:=Aw p n;if f<n then f else if p n then n else n+1
theorem NM (p:Nat->Bool):Aw p 0=0:=rfl
theorem Jh (p:Nat->Bool) (n:Nat):Aw p (n+1)=if Aw p n<n then Aw p n else if p n then n else n+1:=rfl
attribute [irreducible] Aw
theorem Ek (p:Nat->Bool):∀ n,Aw p n<=n
 | 0=>by rw [NM];omega
 | n+1=>by
   have:=Ek p n
   rw [Jh]
   split
   ·omega
   ·split<;>omega
theorem FB (p:Nat->Bool):∀ n k,k<Aw p n->p k=false
 | 0,k,h=>by rw [NM] at h;omega
 | n+1,k,h=>by
   have hle:=Ek p n
   rw [Jh] at h
   split at h
   ·exact FB p n k h
   ·by_cases hk:k<n
    ·exact FB p n k (by omega)
    ·split at h
     ·omega
     ·obtain rfl:k=n:=by omega
      cases hp:p k with
      | false=>rfl
      | true=>rename_i h1;exact absurd hp h1
theorem IC (p:Nat->Bool):∀ n,Aw p n<n->p (Aw p n)=true
 | 0,h=>by omega
 | n+1,h=>by
   have hle:=Ek p n
   rw [Jh] at h ⊢
   split
   ·rename_i h1;exact IC p n h1
   ·rename_i h1
    rw [if_neg h1] at h
    split
    ·rename_i h2;exact h2
    ·rename_i h2;rw [if_neg h2] at h;omega
theorem X9 {p:Nat->Bool} {n k:Nat} (hk:k<=n) (h1:∀ j,j<k->p j=false) (h2:k<n->p k=true):Aw p n=k:=by
 have hle:=Ek p n
 rcases Nat.lt_trichotomy (Aw p n) k with h|h|h
 ·have:=IC p n (by omega);rw [h1 _ h] at this;cases this
 ·exact h
 ·have:=FB p n k h;rw [h2 (by omega)] at this;cases this
theorem K8 {p:Nat->Bool} {n k:Nat} (hk:k<=Aw p n) (h:p k=false) (hn:k<n):k+1<=Aw p n:=by
 rcases Nat.lt_or_ge k (Aw p n) with h1|h1
 ·omega
 ·obtain rfl:k=Aw p n:=by omega
  have:=IC p n hn
  rw [h] at this;cases this
theorem K9 {p:Nat->Bool} {n k:Nat} (hk:k<=Aw p n) (h:p k=true):Aw p n=k:=by
 rcases Nat.lt_or_ge k (Aw p n) with h1|h1
 ·have:=FB p n k h1;rw [h] at this;cases this
 ·omega
@[irreducible]def Hh (p:Nat->Bool) (n:Nat):Bool:=decide (Aw p n<n)
theorem anyN_iff {p:Nat->Bool} {n:Nat}:Hh p n=true↔∃ k,k<n/\p k=true:=by
 unfold Hh
 simp only [decide_eq_true_eq]
 constructor
 ·intro h;exact ⟨_,h,IC p n h⟩
 ·rintro ⟨k,hk,hp⟩
  rcases Nat.lt_or_ge (Aw p n) n with h|h
  ·exact h
  ·have:=FB p n k (by omega);rw [hp] at this;cases this
theorem anyN_false {p:Nat->Bool} {n:Nat}:Hh p n=false↔∀ k,k<n->p k=false:=by
 constructor
 ·intro h k hk
  cases hp:p k with
  | false=>rfl
  | true=>have:=anyN_iff.2 ⟨k,hk,hp⟩;rw [h] at this;cases this
 ·intro h
  cases ha:Hh p n with
  | false=>rfl
  | true=>obtain ⟨k,hk,hp⟩:=anyN_iff.1 ha;rw [h k hk] at hp;cases hp
@[simp]theorem yl (p:Nat->Bool):Hh p 0=false:=anyN_false.2 fun k hk=>by omega
theorem T3 (p:Nat->Bool) (n:Nat):Hh p (n+1)=(Hh p n||p n):=by
 rw [Bool.eq_iff_iff,Bool.or_eq_true,anyN_iff,anyN_iff]
 constructor
 ·rintro ⟨k,hk,hp⟩
  by_cases h:k<n
  ·exact .inl ⟨k,h,hp⟩
  ·obtain rfl:k=n:=by omega
   exact .inr hp
 ·rintro (⟨k,hk,hp⟩|hp)
  ·exact ⟨k,by omega,hp⟩
  ·exact ⟨n,by omega,hp⟩
@[simp]theorem lu (p:Nat->Bool):Hh p 1=p 0:=by rw [T3];simp
@[simp]theorem lq (p:Nat->Bool):Hh p 2=(p 0||p 1):=by rw [T3];simp
@[irreducible]def fV (p:Nat->Bool) (n:Nat):Bool:=!(Hh (fun k=>!(p k)) n)
theorem allN_iff {p:Nat->Bool} {n:Nat}:fV p n=true↔∀ k,k<n->p k=true:=by
 unfold fV
 rw [Bool.not_eq_true',anyN_false]
 simp
@[irreducible]def Lo (p:Nat->Bool) (n:Nat):Int:=if Aw p n<n then (Aw p n:Int) else -1
theorem HQ {p:Nat->Bool} {n:Nat}:decide (0<=Lo p n)=Hh p n:=by
 unfold Lo Hh
 split<;>rename_i h<;>simp [h]<;>omega
end Abs
end Go.Proofs.YtccgngldoinokaaGreat

namespace Go.Proofs.YtccgngldoinokaaGreat
namespace Abs
open Go
@[simp]theorem yn (p:Nat->Bool):fV p 0=true:=allN_iff.2 fun k hk=>by omega
@[reducible]def Y1:Sh:=.agg [.int .i64,.int .i64]
@[reducible]def Zk:Sh:=.slice 2 [.int .i64,.int .i64]
@[reducible]def F7:Sh:=.slice 1 [.int .i64]
structure Vx where
 n:Nat
 v:Nat->Int
@[irreducible]def Vx.len (x:Vx):Nat:=x.n
@[irreducible]def Vx.at (x:Vx):Nat->Int:=x.v
@[simp]theorem Vx.len_mk (n:Nat) (v:Nat->Int):(Vx.mk n v).len=n:=by unfold Vx.len;rfl
@[simp]theorem Vx.at_mk (n:Nat) (v:Nat->Int):(Vx.mk n v).at=v:=by unfold Vx.at;rfl
structure Bx where
 n:Nat
 l:Nat->Int
 h:Nat->Int
@[irreducible]def Bx.len (b:Bx):Nat:=b.n
@[irreducible]def Bx.lo (b:Bx):Nat->Int:=b.l
@[irreducible]def Bx.hi (b:Bx):Nat->Int:=b.h
@[simp]theorem Bx.len_mk (n:Nat) (l h:Nat->Int):(Bx.mk n l h).len=n:=by unfold Bx.len;rfl
@[simp]theorem Bx.lo_mk (n:Nat) (l h:Nat->Int):(Bx.mk n l h).lo=l:=by unfold Bx.lo;rfl
@[simp]theorem Bx.hi_mk (n:Nat) (l h:Nat->Int):(Bx.mk n l h).hi=h:=by unfold Bx.hi;rfl
structure Mo where
 c:Int
 ns:Nat
 s:Nat->Int
 nf:Nat
 f:Nat->Int
 t:Nat->Int
 p:Nat->Int
@[irreducible]def Mo.sh (m:Mo):Nat->Int:=m.s
@[irreducible]def Mo.ff (m:Mo):Nat->Int:=m.f
structure Sys where
 a:Bx
 b:Bx
 nm:Nat
 m:Nat->Mo
 nw:Nat
 w:Nat->Bx
@[irreducible]def Sys.st (s:Sys):Bx:=s.b
@[irreducible]def Sys.md (s:Sys):Nat->Mo:=s.m
@[irreducible]def Gt (lo hi:Int):Bool:=HH lo&&HH hi&&decide (lo<=hi)
@[irreducible]def GV (lo hi:Int):Bool:=!(Gt lo hi)
theorem isQ_iff {x:Int}:HH x=true ↔ -1099511627776<=x/\x<=1099511627776:=by unfold HH;simp
@[irreducible]def QZ (b:Bool):Int:=if b then 0 else 2
@[simp]theorem yf:QZ true=0:=by unfold QZ;rfl
@[simp]theorem wB:QZ false=2:=by unfold QZ;rfl
@[simp]theorem AP1 (b:Bool):QZ b=0↔b=true:=by cases b<;>simp
end Abs
end Go.Proofs.YtccgngldoinokaaGreat

namespace Go.Proofs.YtccgngldoinokaaGreat
namespace Abs
open Go
@[irreducible]def FP (x n i:Int):Int:=x*(n / 2 ^ i.toNat)
theorem Qf (x n:Int):FP x n 0=x*n:=by unfold FP;simp
theorem gn {x n:Int} (h0:0<=n) (h1:n<17592186044416):FP x n 44=0:=by
 unfold FP
 rw [show (2:Int) ^ (44:Int).toNat=17592186044416 from rfl,Int.ediv_eq_zero_of_lt h0 h1,Int.mul_zero]
@[irreducible]def Mx (n i:Int):Int:=(n / 2 ^ i.toNat) % 2
theorem UU (n i:Int):Mx n i=0\/Mx n i=1:=by unfold Mx;omega
theorem Qg {x n i:Int} (hi:0<=i):FP x n i=2*FP x n (i+1)+Mx n i*x:=by
 unfold FP Mx
 have e:(i+1).toNat=i.toNat+1:=by omega
 have e2:(2:Int) ^ (i+1).toNat=2 ^ i.toNat*2:=by rw [e,Int.pow_succ]
 have e3:n / (2 ^ i.toNat*2)=n / 2 ^ i.toNat / 2:=by rw [Int.ediv_ediv_of_nonneg (Int.pow_nonneg (by decide))]
 rw [e2,e3]
 generalize n / 2 ^ i.toNat=y
 have h:y=2*(y / 2)+y % 2:=by omega
 calc x*y=x*(2*(y / 2)+y % 2):=by rw [<- h]
  _=2*(x*(y / 2))+y % 2*x:=by rw [Int.mul_add,Int.mul_left_comm,Int.mul_comm (y % 2) x]
theorem N8 {x n i:Int} (hx:0<=x) (hn:0<=n):0<=FP x n i:=by
 unfold FP;exact Int.mul_nonneg hx (Int.ediv_nonneg hn (Int.pow_nonneg (by decide)))
theorem Qh {x n:Int} (hx:0<=x) (hn:0<=n):∀ k:Nat,FP x n k<=x*n
 | 0=>by rw [show ((0:Nat):Int)=0 from rfl,Qf];exact Int.le_refl _
 | k+1=>by
   have h1:=Qh hx hn k
   have h2:=Qg (x:=x) (n:=n) (i:=(k:Int)) (by omega)
   have h3:=N8 (i:=((k:Int)+1)) hx hn
   rw [show ((k+1:Nat):Int)=(k:Int)+1 by omega]
   rcases UU n (k:Int) with h|h<;>rw [h] at h2<;>omega
@[irreducible]def T6 (x n d:Int):Int:=if x*n / d<=288230376151711744 then x*n / d else 1152921504606846976
@[irreducible]def fZ (x n d:Int):Int:=if x*n / d<=288230376151711744 then x*n % d else 0
theorem mS {q r d T:Int} (h:q*d+r=T) (h0:0<=r) (h1:r<d):q=T / d/\r=T % d:=by
 have hd:0<d:=by omega
 have:=(Int.ediv_emod_unique (a:=T) (b:=d) (r:=r) (q:=q) hd).2 ⟨by rw [<- h,Int.mul_comm];omega,h0,h1⟩
 exact ⟨this.1.symm,this.2.symm⟩
theorem tI {x n d:Int} {k:Nat} (hx:0<=x) (hn:0<=n) (hd:0<d) (h:288230376151711744<FP x n k / d):T6 x n d=1152921504606846976/\fZ x n d=0:=by
 have h1:FP x n k / d<=x*n / d:=Int.ediv_le_ediv hd (Qh hx hn k)
 unfold T6 fZ
 rw [if_neg (by omega),if_neg (by omega)];exact ⟨rfl,rfl⟩
theorem mT {x n d q r:Int} (h:q*d+r=FP x n 0) (h0:0<=r) (h1:r<d) (hq:q<=288230376151711744):T6 x n d=q/\fZ x n d=r:=by
 rw [Qf] at h
 obtain ⟨e1,e2⟩:=mS h h0 h1
 unfold T6 fZ
 rw [<- e1,<- e2,if_pos hq,if_pos hq];exact ⟨rfl,rfl⟩
theorem ri {x n d:Int} (hx:0<=x) (hn:0<=n) (hd:0<d):0<=T6 x n d/\T6 x n d<=1152921504606846976:=by
 have:0<=x*n / d:=Int.ediv_nonneg (Int.mul_nonneg hx hn) (Int.le_of_lt hd)
 unfold T6;split<;>omega
@[irreducible]def CP (x:Int):Int:=if x<0 then -x else x
theorem XW {x:Int} (h:x<0):CP x = -x:=by unfold CP;rw [if_pos h]
theorem HD {x:Int} (h:0<=x):CP x=x:=by unfold CP;rw [if_neg (by omega)]
theorem ZJ {x m:Int} (h1 : -m<=x) (h2:x<=m):0<=CP x/\CP x<=m:=by unfold CP;split<;>omega
@[irreducible]def dnV (x n d:Int):Int :=
 if (decide (x<0) != decide (n<0)) != decide (d<0) then -(if 0<fZ (CP x) (CP n) (CP d) then T6 (CP x) (CP n) (CP d)+1 else T6 (CP x) (CP n) (CP d)) else T6 (CP x) (CP n) (CP d)
theorem qU {x n d:Int} (hn:0<=n) (hd:0<d) (h:CP x*n / d<=288230376151711744):dnV x n d=x*n / d:=by
 unfold dnV T6 fZ
 rw [HD hn,HD (Int.le_of_lt hd),if_pos h,if_pos h,show decide (n<0)=false by simp;omega,show decide (d<0)=false by simp;omega]
 by_cases hx:x<0
 ·rw [XW hx]
  simp [hx]
  have hd0:d≠0:=by omega
  have e : -x*n = -(x*n):=Int.neg_mul ..
  rw [e]
  generalize x*n=y
  have h1:=Int.emod_add_mul_ediv (-y) d
  have h2:=Int.emod_nonneg (-y) hd0
  have h3:=Int.emod_lt_of_pos (-y) hd
  have h4:=Int.emod_add_mul_ediv y d
  have h5:=Int.emod_nonneg y hd0
  have h6:=Int.emod_lt_of_pos y hd
  generalize hq : -y / d=q at *
  generalize hq':y / d=q' at *
  generalize hr : -y % d=r at *
  generalize hr':y % d=r' at *
  have key:d*(q+q') = -(r+r'):=by rw [Int.mul_add];omega
  have k1 : -2<q+q':=by
   rcases Int.lt_or_le (-2) (q+q') with h|h
   ·exact h
   ·have:=Int.mul_le_mul_of_nonneg_left h (Int.le_of_lt hd);omega
  have k2:q+q'<=0:=by
   rcases Int.lt_or_le 0 (q+q') with h|h
   ·have:=Int.mul_le_mul_of_nonneg_left (show 1<=q+q' by omega) (Int.le_of_lt hd);omega
   ·exact h
  split
  ·rename_i hpos
   have:q+q'≠0:=fun h0=>by rw [h0] at key;omega
   omega
  ·have:q+q'=0:=by
    have hr0:r=0:=by omega
    rcases (by omega:q+q' = -1\/q+q'=0) with h0|h0
    ·rw [h0] at key;omega
    ·exact h0
   omega
 ·rw [HD (by omega)]
  simp [hx]
end Abs
end Go.Proofs.YtccgngldoinokaaGreat

namespace Go.Proofs.YtccgngldoinokaaGreat
namespace Abs
open Go
structure Crv where
 a:Nat
 b:Nat->Int
 c:Nat
 d:Nat->Int
@[irreducible]def Crv.nx (c:Crv):Nat:=c.a
@[irreducible]def Crv.x (c:Crv):Nat->Int:=c.b
@[irreducible]def Crv.ny (c:Crv):Nat:=c.c
@[irreducible]def Crv.y (c:Crv):Nat->Int:=c.d
@[simp]theorem Crv.nx_mk (a:Nat) (b:Nat->Int) (c:Nat) (d:Nat->Int):(Crv.mk a b c d).nx=a:=by unfold Crv.nx;rfl
@[simp]theorem Crv.ny_mk (a:Nat) (b:Nat->Int) (c:Nat) (d:Nat->Int):(Crv.mk a b c d).ny=c:=by unfold Crv.ny;rfl
@[simp]theorem Crv.x_mk (a:Nat) (b:Nat->Int) (c:Nat) (d:Nat->Int):(Crv.mk a b c d).x=b:=by unfold Crv.x;rfl
@[simp]theorem Crv.y_mk (a:Nat) (b:Nat->Int) (c:Nat) (d:Nat->Int):(Crv.mk a b c d).y=d:=by unfold Crv.y;rfl
@[reducible]def II:List Sh:=[F7,F7]
@[reducible]def M4:Sh:=.agg II
abbrev KX:=Nat × (Nat->Int × Unit)
@[irreducible]def EM (x:KX × KX × Unit):Crv:=⟨x.1.1,fun k=>(x.1.2 k).1,x.2.1.1,fun k=>(x.2.1.2 k).1⟩
@[reducible]def qi (c:Crv):KX × KX × Unit:=((c.nx,fun k=>(c.x k,())),(c.ny,fun k=>(c.y k,())),())
@[simp]theorem lC (c:Crv):EM ((c.nx,fun k=>(c.x k,())),(c.ny,fun k=>(c.y k,())),())=c:=by
 unfold EM Crv.nx Crv.x Crv.ny Crv.y;rfl
theorem Mu (x:fj M4):∃ c:Crv,x=qi c:=⟨EM x,by unfold qi EM Crv.nx Crv.x Crv.ny Crv.y;rfl⟩
structure Cel where
 a1:Int
 c1:Crv
 a2:Int
 c2:Crv
 a3:Int
 a4:Int
 a5:Int
 a6:Int
 a7:Int
 a8:Int
 c3:Crv
 a9:Int
 a10:Int
 a11:Int
@[irreducible]def Cel.cap (c:Cel):Int:=c.a1
@[irreducible]def Cel.ocv (c:Cel):Crv:=c.c1
@[irreducible]def Cel.shift (c:Cel):Int:=c.a2
@[irreducible]def Cel.cold (c:Cel):Crv:=c.c2
@[irreducible]def Cel.extra (c:Cel):Int:=c.a3
@[irreducible]def Cel.pair (c:Cel):Int:=c.a4
@[irreducible]def Cel.keep (c:Cel):Int:=c.a5
@[irreducible]def Cel.leak (c:Cel):Int:=c.a6
@[irreducible]def Cel.hcap (c:Cel):Int:=c.a7
@[irreducible]def Cel.cool (c:Cel):Int:=c.a8
@[irreducible]def Cel.stress (c:Cel):Crv:=c.c3
@[irreducible]def Cel.cyc (c:Cel):Int:=c.a9
@[irreducible]def Cel.agel (c:Cel):Int:=c.a10
@[irreducible]def Cel.grow (c:Cel):Int:=c.a11
@[reducible]def Db:List Sh:=[.int .i64,F7,F7,.int .i64,F7,F7,.int .i64,.int .i64,.int .i64,.int .i64,.int .i64,.int .i64,F7,F7,.int .i64,.int .i64,.int .i64]
@[reducible]def EN:Sh:=.agg Db
abbrev yM:=Int × KX × KX × Int × KX × KX × Int × Int × Int × Int × Int × Int × KX × KX × Int × Int × Int × Unit
@[irreducible]def A6 (x:yM):Cel :=
 let (a1,x1,y1,a2,x2,y2,a3,a4,a5,a6,a7,a8,x3,y3,a9,a10,a11,_):=x
 ⟨a1,EM (x1,y1,()),a2,EM (x2,y2,()),a3,a4,a5,a6,a7,a8,EM (x3,y3,()),a9,a10,a11⟩
@[reducible]def DQ (c:Cel):yM:=(c.cap,(c.ocv.nx,fun k=>(c.ocv.x k,())),(c.ocv.ny,fun k=>(c.ocv.y k,())),c.shift,(c.cold.nx,fun k=>(c.cold.x k,())),(c.cold.ny,fun k=>(c.cold.y k,())),
 c.extra,c.pair,c.keep,c.leak,c.hcap,c.cool,(c.stress.nx,fun k=>(c.stress.x k,())),(c.stress.ny,fun k=>(c.stress.y k,())),c.cyc,c.agel,c.grow,())
@[simp]theorem XN (c:Cel):A6 (c.cap,(c.ocv.nx,fun k=>(c.ocv.x k,())),(c.ocv.ny,fun k=>(c.ocv.y k,())),c.shift,(c.cold.nx,fun k=>(c.cold.x k,())),(c.cold.ny,fun k=>(c.cold.y k,())),
  c.extra,c.pair,c.keep,c.leak,c.hcap,c.cool,(c.stress.nx,fun k=>(c.stress.x k,())),(c.stress.ny,fun k=>(c.stress.y k,())),c.cyc,c.agel,c.grow,())=c:=by
 unfold A6 EM Cel.cap Cel.ocv Cel.shift Cel.cold Cel.extra Cel.pair Cel.keep Cel.leak Cel.hcap Cel.cool Cel.stress Cel.cyc Cel.agel Cel.grow Crv.nx Crv.x Crv.ny Crv.y;rfl
@[simp]theorem BM (c:Cel):A6 (DQ c)=c:=XN c
theorem E2 (x:fj EN):∃ c:Cel,x=DQ c:=⟨A6 x,by
 unfold DQ A6 EM Cel.cap Cel.ocv Cel.shift Cel.cold Cel.extra Cel.pair Cel.keep Cel.leak Cel.hcap Cel.cool Cel.stress Cel.cyc Cel.agel Cel.grow Crv.nx Crv.x Crv.ny Crv.y;rfl⟩
structure Sta where
 a1:Int
 a2:Int
 a3:Int
 a4:Int
 a5:Int
@[irreducible]def Sta.q (s:Sta):Int:=s.a1
@[irreducible]def Sta.rx (s:Sta):Int:=s.a2
@[irreducible]def Sta.tp (s:Sta):Int:=s.a3
@[irreducible]def Sta.th (s:Sta):Int:=s.a4
@[irreducible]def Sta.ag (s:Sta):Int:=s.a5
@[simp]theorem Sta.q_mk (a b c d e:Int):(Sta.mk a b c d e).q=a:=by unfold Sta.q;rfl
@[simp]theorem Sta.rx_mk (a b c d e:Int):(Sta.mk a b c d e).rx=b:=by unfold Sta.rx;rfl
@[simp]theorem Sta.tp_mk (a b c d e:Int):(Sta.mk a b c d e).tp=c:=by unfold Sta.tp;rfl
@[simp]theorem Sta.th_mk (a b c d e:Int):(Sta.mk a b c d e).th=d:=by unfold Sta.th;rfl
@[simp]theorem Sta.ag_mk (a b c d e:Int):(Sta.mk a b c d e).ag=e:=by unfold Sta.ag;rfl
@[reducible]def V6:List Sh:=[.int .i64,.int .i64,.int .i64,.int .i64,.int .i64]
@[reducible]def JA:Sh:=.agg V6
abbrev AK3:=Int × Int × Int × Int × Int × Unit
@[irreducible]def AC (x:AK3):Sta:=⟨x.1,x.2.1,x.2.2.1,x.2.2.2.1,x.2.2.2.2.1⟩
@[reducible]def Gs (s:Sta):AK3:=(s.q,s.rx,s.tp,s.th,s.ag,())
@[simp]theorem hL (s:Sta):AC (s.q,s.rx,s.tp,s.th,s.ag,())=s:=by unfold AC Sta.q Sta.rx Sta.tp Sta.th Sta.ag;rfl
@[simp]theorem LB (s:Sta):AC (Gs s)=s:=hL s
theorem J_ (x:fj JA):∃ s:Sta,x=Gs s:=⟨AC x,by unfold Gs AC Sta.q Sta.rx Sta.tp Sta.th Sta.ag;rfl⟩
theorem Sta.ext' {s t:Sta} (h1:s.q=t.q) (h2:s.rx=t.rx) (h3:s.tp=t.tp) (h4:s.th=t.th) (h5:s.ag=t.ag):s=t:=by
 unfold Sta.q at h1;unfold Sta.rx at h2;unfold Sta.tp at h3;unfold Sta.th at h4;unfold Sta.ag at h5
 cases s;cases t;simp_all
@[irreducible]def QN (c:Crv):Bool:=decide (c.nx=c.ny)&&decide (2<=c.nx)&&decide (c.nx<=64)&&fV (fun k=>HH (c.x k)&&HH (c.y k)) c.nx&&fV (fun k=>decide (c.x k<c.x (k+1))&&decide (c.y k<=c.y (k+1))) (c.nx-1)
theorem crB_iff {c:Crv}:QN c=true↔c.nx=c.ny/\2<=c.nx/\c.nx<=64/\(∀ k,k<c.nx->HH (c.x k)=true/\HH (c.y k)=true)/\∀ k,k+1<c.nx->c.x k<c.x (k+1)/\c.y k<=c.y (k+1):=by
 unfold QN
 simp only [Bool.and_eq_true,decide_eq_true_eq,allN_iff,and_assoc]
 constructor
 ·rintro ⟨a,b,c',d,e⟩;exact ⟨a,b,c',d,fun k hk=>e k (by omega)⟩
 ·rintro ⟨a,b,c',d,e⟩;exact ⟨a,b,c',d,fun k hk=>e k (by omega)⟩
@[irreducible]def lD (c:Crv):Int:=if 64<c.nx\/64<c.ny then 6 else if QN c=true then 0 else 2
theorem crE_iff {c:Crv}:lD c=0↔QN c=true:=by
 unfold lD
 split
 ·constructor
  ·intro h;cases h
  ·intro h;have:=crB_iff.1 h;omega
 ·split<;>simp [*]
@[irreducible]def iK (c:Crv) (x:Int):Nat:=Aw (fun i=>decide (x<c.x (i+1))) (c.nx-1)
@[irreducible]def yU (c:Crv) (i:Nat) (x:Int):Int:=c.y i+(x-c.x i)*(c.y (i+1)-c.y i) / (c.x (i+1)-c.x i)
@[irreducible]def zo (c:Crv) (i:Nat) (x:Int):Int:=c.y i + -(-(x-c.x i)*(c.y (i+1)-c.y i) / (c.x (i+1)-c.x i))
@[irreducible]def G_ (c:Crv) (x:Int):Int:=if c.x (c.nx-1)<=x then c.y (c.nx-1) else if x<c.x 0 then c.y 0 else yU c (iK c x) x
@[irreducible]def Xk (c:Crv) (x:Int):Int:=if c.x (c.nx-1)<=x then c.y (c.nx-1) else if x<c.x 0 then c.y 0 else zo c (iK c x) x
theorem lB {c:Crv} (h:QN c=true):∀ {j i:Nat},i<=j->j<c.nx->c.x i+((j-i:Nat):Int)<=c.x j
 | 0,i,h1,h2=>by
   obtain rfl:i=0:=by omega
   simp
 | j+1,i,h1,h2=>by
   rcases Nat.lt_or_ge i (j+1) with hl|hl
   ·have h3:=lB h (j:=j) (i:=i) (by omega) (by omega)
    have h4:=(crB_iff.1 h).2.2.2.2 j h2
    omega
   ·obtain rfl:i=j+1:=by omega
    simp
theorem cX {c:Crv} (h:QN c=true):∀ {j i:Nat},i<=j->j<c.nx->c.y i<=c.y j
 | 0,i,h1,h2=>by
   obtain rfl:i=0:=by omega
   exact Int.le_refl _
 | j+1,i,h1,h2=>by
   rcases Nat.lt_or_ge i (j+1) with hl|hl
   ·have h3:=cX h (j:=j) (i:=i) (by omega) (by omega)
    have h4:=(crB_iff.1 h).2.2.2.2 j h2
    omega
   ·obtain rfl:i=j+1:=by omega
    exact Int.le_refl _
theorem iJ {c:Crv} (h:QN c=true) {x:Int} (h0:c.x 0<=x) (h1:x<c.x (c.nx-1)):iK c x+1<c.nx/\c.x (iK c x)<=x/\x<c.x (iK c x+1):=by
 have hb:=crB_iff.1 h
 have hle:=Ek (fun i=>decide (x<c.x (i+1))) (c.nx-1)
 have hne:Aw (fun i=>decide (x<c.x (i+1))) (c.nx-1)<c.nx-1:=by
  rcases Nat.lt_or_ge (Aw (fun i=>decide (x<c.x (i+1))) (c.nx-1)) (c.nx-1) with h2|h2
  ·exact h2
  ·have:=FB (fun i=>decide (x<c.x (i+1))) (c.nx-1) (c.nx-2) (by omega)
   simp at this
   rw [show c.nx-2+1=c.nx-1 by omega] at this
   omega
 have h3:=IC _ _ hne
 unfold iK
 refine ⟨by omega,?_,by simpa using h3⟩
 generalize hi:Aw (fun i=>decide (x<c.x (i+1))) (c.nx-1)=i at *
 cases i with
 | zero=>exact h0
 | succ i =>
   have:=FB (fun i=>decide (x<c.x (i+1))) (c.nx-1) i (by omega)
   simpa using this
theorem V_ {c:Crv} (h:QN c=true) {x:Int} {i:Nat} (hi:i+1<c.nx) (h0:c.x i<=x) (h1:x<c.x (i+1)):iK c x=i:=by
 unfold iK
 refine X9 (by omega) (fun j hj=>?_) (fun _=>by simpa using h1)
 have:=lB h (j:=i) (i:=j+1) (by omega) (by omega)
 simp;omega
theorem Vb {a d w:Int} (ha:0<=a) (haw:a<=w) (hw:0<w) (hd:0<=d):0<=a*d / w/\a*d / w<=d/\0 <= -(-a*d / w) /\ -(-a*d / w)<=d:=by
 have e1:=Int.mul_nonneg ha hd
 have e2:=Int.mul_le_mul_of_nonneg_right haw hd
 have e3:0<=a*d / w:=Int.ediv_nonneg e1 (Int.le_of_lt hw)
 have e4:a*d / w<=d:=by
  refine Int.ediv_le_of_le_mul hw ?_
  rw [Int.mul_comm d w];exact e2
 have e5 : -a*d = -(a*d):=Int.neg_mul ..
 have e6 : -d <= -a*d / w:=by
  refine (Int.le_ediv_iff_mul_le hw).2 ?_
  rw [e5,Int.neg_mul,Int.mul_comm d w];omega
 have e7 : -a*d / w<=0:=by
  refine Int.ediv_le_of_le_mul hw ?_
  rw [e5];omega
 omega
theorem zn {c:Crv} (h:QN c=true) {i:Nat} (hi:i+1<c.nx) {x:Int} (h0:c.x i<=x) (h1:x<=c.x (i+1)) :
  c.y i<=yU c i x/\yU c i x<=c.y (i+1)/\c.y i<=zo c i x/\zo c i x<=c.y (i+1):=by
 have hb:=(crB_iff.1 h).2.2.2.2 i hi
 have:=Vb (a:=x-c.x i) (d:=c.y (i+1)-c.y i) (w:=c.x (i+1)-c.x i) (by omega) (by omega) (by omega) (by omega)
 unfold yU zo
 omega
theorem tP {c:Crv} (h:QN c=true) (x:Int):c.y 0<=G_ c x/\G_ c x<=c.y (c.nx-1):=by
 have hb:=crB_iff.1 h
 have hy:=cX h (j:=c.nx-1) (i:=0) (by omega) (by omega)
 unfold G_
 split
 ·omega
 ·split
  ·omega
  ·have hs:=iJ h (x:=x) (by omega) (by omega)
   have hp:=zn h hs.1 hs.2.1 (by omega)
   have h1:=cX h (j:=iK c x) (i:=0) (by omega) (by omega)
   have h2:=cX h (j:=c.nx-1) (i:=iK c x+1) (by omega) (by omega)
   omega
@[irreducible]def Px (n d:Int):Int:=n / d
theorem wI {n d:Int} (h1 : -4611686018427387904<=n) (h2:n<=4611686018427387904) (h3:1<=d):¬d=0 /\ -9223372036854775808<=n.tdiv d/\n.tdiv d<=9223372036854775807/\¬d=0 /\
  (n.tmod d<0 -> -9223372036854775808<=n.tdiv d-1/\n.tdiv d-1<=9223372036854775807/\n.tdiv d-1=Px n d)/\(0<=n.tmod d->n.tdiv d=Px n d):=by
 have hd:d≠0:=by omega
 have key:(n.tmod d<0->n.tdiv d-1=n / d)/\(0<=n.tmod d->n.tdiv d=n / d):=by
  have a1:=Int.tmod_add_mul_tdiv n d
  have a2:=Int.tmod_lt_of_pos n (show 0<d by omega)
  have a3:=Int.lt_tmod_of_pos n (show 0<d by omega)
  have a4:=Int.emod_add_mul_ediv n d
  have a5:=Int.emod_nonneg n hd
  have a6:=Int.emod_lt_of_pos n (show 0<d by omega)
  generalize n.tmod d=r at *
  generalize n.tdiv d=q at *
  generalize n % d=s at *
  generalize n / d=p at *
  have e:d*(p-q)=r-s:=by rw [Int.mul_sub];omega
  have k1 : -2<p-q:=by
   rcases Int.lt_or_le (-2) (p-q) with h|h
   ·exact h
   ·have:=Int.mul_le_mul_of_nonneg_left h (show 0<=d by omega);omega
  have k2:p-q<1:=by
   rcases Int.lt_or_le (p-q) 1 with h|h
   ·exact h
   ·have:=Int.mul_le_mul_of_nonneg_left h (show 0<=d by omega);omega
  rcases (by omega:p-q = -1\/p-q=0) with h|h<;>rw [h] at e
  ·constructor
   ·intro _;omega
   ·intro hr;omega
  ·constructor
   ·intro hr;omega
   ·intro _;omega
 have b1 : -4611686018427387904<=n / d:=by
  rw [Int.le_ediv_iff_mul_le (by omega)]
  have:=Int.mul_le_mul_of_nonneg_left h3 (show (0:Int)<=4611686018427387904 by decide)
  omega
 have b2:n / d<=4611686018427387904:=by
  rcases Int.lt_or_le n 0 with h|h
  ·have:=Int.ediv_neg_of_neg_of_pos h (show 0<d by omega);omega
  ·have:=Int.ediv_le_self d h;omega
 unfold Px
 rcases Int.lt_or_le (n.tmod d) 0 with h|h
 ·have:=key.1 h
  exact ⟨hd,by omega,by omega,hd,fun _=>by omega,fun h'=>by omega⟩
 ·have:=key.2 h
  exact ⟨hd,by omega,by omega,hd,fun h'=>by omega,fun _=>by omega⟩
@[irreducible]def M6 (x lo hi:Int):Int:=max lo (min x hi)
theorem M5 {x lo hi:Int} (h:lo<=hi):lo<=M6 x lo hi/\M6 x lo hi<=hi:=by unfold M6;omega
theorem E6 {a d:Int} (hd:1<=d) (h:0<=a):0<=Px a d:=by unfold Px;exact Int.ediv_nonneg h (by omega)
theorem H_ {a d m:Int} (hd:1<=d) (h:a<=m*d):Px a d<=m:=by unfold Px;exact Int.ediv_le_of_le_mul (by omega) h
theorem Yw {a d m:Int} (hd:1<=d) (h:m*d<=a):m<=Px a d:=by unfold Px;exact (Int.le_ediv_iff_mul_le (by omega)).2 h
@[irreducible]def fg (c:Crv) (last most:Int):Bool:=QN c&&decide (c.x 0=0)&&decide (c.x (c.nx-1)=last)&&decide (0<=c.y 0)&&decide (c.y (c.nx-1)<=most)
theorem scB_iff {c:Crv} {last most:Int}:fg c last most=true↔QN c=true/\c.x 0=0/\c.x (c.nx-1)=last/\0<=c.y 0/\c.y (c.nx-1)<=most:=by unfold fg;simp [and_assoc]
def Ai (c:Cel):Prop:=c.ocv.nx<=maxLen/\c.ocv.ny<=maxLen/\c.cold.nx<=maxLen/\c.cold.ny<=maxLen/\c.stress.nx<=maxLen/\c.stress.ny<=maxLen
structure CelOK (c:Cel):Prop where
 cap0:1<=c.cap
 cap1:c.cap<=4294967296
 sh0 : -8388608<=c.shift
 sh1:c.shift<=8388608
 ex0 : -1048576<=c.extra
 ex1:c.extra<=1048576
 pr0:0<=c.pair
 pr1:c.pair<=1048576
 lk0:0<=c.leak
 lk1:c.leak<=1048576
 kp0:0<=c.keep
 kp1:c.keep<=65536
 co0:0<=c.cool
 co1:c.cool<=65536
 hc0:1<=c.hcap
 hc1:c.hcap<=1099511627776
 cy0:0<=c.cyc
 cy1:c.cyc<=1048576
 al0:0<=c.agel
 al1:c.agel<=1048576
 gr0:0<=c.grow
 gr1:c.grow<=1048576
 ocv:fg c.ocv 65536 8388608=true
 cold:fg c.cold 400000 1048576=true
 stress:fg c.stress 400000 1048576=true
open Classical in
@[irreducible]noncomputable def Dl (c:Cel):Bool:=decide (CelOK c)
theorem celB_iff {c:Cel}:Dl c=true↔CelOK c:=by unfold Dl;simp
theorem qr {c:Cel} (h:CelOK c->False):Dl c=false:=by
 cases hb:Dl c with
 | false=>rfl
 | true=>exact (h (celB_iff.1 hb)).elim
theorem CelOK.max {c:Cel} (h:CelOK c):Ai c:=by
 have h1:=crB_iff.1 (scB_iff.1 h.ocv).1
 have h2:=crB_iff.1 (scB_iff.1 h.cold).1
 have h3:=crB_iff.1 (scB_iff.1 h.stress).1
 unfold Ai maxLen
 omega
theorem MR {c:Crv} {last most:Int} (h:fg c last most=true) (x:Int):0<=G_ c x/\G_ c x<=most:=by
 have h1:=scB_iff.1 h
 have:=tP h1.1 x
 omega
structure WearOK (c:Cel) (t a:Int):Prop where
 c0:0<=c.cyc
 c1:c.cyc<=1048576
 a0:0<=c.agel
 a1:c.agel<=1048576
 t0:0<=t
 t1:t<=2199023255552
 g0:0<=a
 g1:a<=2199023255552
theorem Hc {a b A B:Int} (h0:0<=a) (h1:a<=A) (h2:0<=b) (h3:b<=B):0<=a*b/\a*b<=A*B :=
 ⟨Int.mul_nonneg h0 h2,Int.le_trans (Int.mul_le_mul_of_nonneg_right h1 h2) (Int.mul_le_mul_of_nonneg_left h3 (by omega))⟩
theorem Ma {a b A B:Int} (h0 : -A<=a) (h1:a<=A) (h2:0<=b) (h3:b<=B) : -(A*B)<=a*b/\a*b<=A*B:=by
 have hA:0<=A:=by omega
 have k2:=Int.mul_le_mul_of_nonneg_left h3 hA
 have k3:=Int.mul_le_mul_of_nonneg_right h1 h2
 have k4:=Int.mul_le_mul_of_nonneg_right h0 h2
 rw [Int.neg_mul] at k4
 omega
@[irreducible]def Gl (c:Cel) (t a:Int):Int:=Px (t*c.cyc) 1073741824+Px (a*c.agel) 1073741824
theorem L6 {c:Cel} {t a:Int} (h:WearOK c t a):0<=Gl c t a/\Gl c t a<=4294967296:=by
 have h1:=Hc h.t0 h.t1 h.c0 h.c1
 have h2:=Hc h.g0 h.g1 h.a0 h.a1
 have h3:=H_ (a:=t*c.cyc) (d:=1073741824) (m:=2147483648) (by decide) (by omega)
 have h4:=H_ (a:=a*c.agel) (d:=1073741824) (m:=2147483648) (by decide) (by omega)
 have h5:=E6 (a:=t*c.cyc) (d:=1073741824) (by decide) h1.1
 have h6:=E6 (a:=a*c.agel) (d:=1073741824) (by decide) h2.1
 unfold Gl
 omega
@[irreducible]def JI (c:Cel) (w:Int):Int:=max 1 (c.cap-w)
theorem roomV_in {c:Cel} {w:Int}:1<=JI c w/\(0<=w->1<=c.cap->JI c w<=c.cap):=by unfold JI;omega
@[irreducible]def pcV (x o:Int):Int:=min 65536 (Px (x*65536) o)
@[irreducible]def aW (c:Cel) (f:Int):Int:=G_ c.ocv f+c.shift
@[irreducible]def oH (c:Cel) (t w:Int):Int:=M6 (G_ c.cold (400000-t)+c.extra+Px (w*c.grow) 65536) 0 1048576
@[irreducible]def TJ (c:Cel) (o p:Int):Int:=M6 (Px (1000*c.keep*o+(65536-c.keep)*p) 65536000) (-8388608) 8388608
end Abs
end Go.Proofs.YtccgngldoinokaaGreat

namespace Go.Proofs.YtccgngldoinokaaGreat
namespace Abs
open Go Go.RowKit
theorem mixed:Tryz.prog.follows .mixedOrders=true:=by kernel_rfl
end Abs
end Go.Proofs.YtccgngldoinokaaGreat

namespace Go.Proofs.YtccgngldoinokaaGreat
namespace Abs
open Go Go.RowKit
def tn:List (Option IntKind):=[some .i64,some .i64]
def nJ:List (Option IntKind):=[some .i64,some .i64,some .i64,some .i64,some .i64]
def wE:List (Nat × List (Option IntKind)):=[(94,tn),(42,nJ)]
theorem qO:∀ t ks,AL wE t=some ks->EqOK Tryz.prog t ks:=by
 intro t ks h
 unfold wE at h
 simp only [AL] at h
 split at h
 ·rename_i e
  obtain rfl:=Nat.eq_of_beq_eq_true e
  injection h with h;subst h
  exact EqOK.of 3 (by decide) (by kernel_rfl) (by kernel_rfl) (by kernel_rfl)
 ·first
  | cases h;done
  | split at h
    ·rename_i e
     obtain rfl:=Nat.eq_of_beq_eq_true e
     injection h with h;subst h
     exact EqOK.of 3 (by decide) (by kernel_rfl) (by kernel_rfl) (by kernel_rfl)
    ·cases h
noncomputable def S0:Sums:=⟨[],[],0,wE,[],[]⟩
theorem S0_ok:SumsOK Tryz.prog S0:=.nil _ _ _ qO
def vh:Spec [.int .i64]:=⟨fun _=>True,fun (x,_)=>.sb (HH x)⟩
set_option maxRecDepth 100000 in
theorem AG2:FnSpec Tryz.prog 108 _ vh:=by
 refine FnSpec.of S0_ok mixed (U:=0) (I:=fun _=>[]) Tryz.func108 rfl (by kernel_rfl) rfl rfl (by decide +kernel) ?_
 rintro ⟨(x:Int),⟨⟩⟩ -
 unfold A2
 conv=>arg 2;reduce
 simp [vh,HH]
noncomputable def SQ0:Sums:=⟨(108,A_ _ vh)::S0.one,S0.two,S0.lo,S0.eqs,S0.its,S0.imm⟩
theorem SQ0_ok:SumsOK Tryz.prog SQ0:=(S0_ok.cons Tryz.func108 (by kernel_rfl) (by kernel_rfl) AG2)
def rC:Spec [Y1]:=⟨fun _=>True,fun ((lo,hi,_),_)=>.sb (GV lo hi)⟩
set_option maxRecDepth 100000 in
theorem xG:FnSpec Tryz.prog 111 _ rC:=by
 refine FnSpec.of SQ0_ok mixed (U:=0) (I:=fun _=>[]) Tryz.func111 rfl (by kernel_rfl) rfl rfl (by decide +kernel) ?_
 rintro ⟨⟨(lo:Int),(hi:Int),⟨⟩⟩,⟨⟩⟩ -
 unfold A2
 conv=>arg 2;reduce
 simp [rC,vh,GV,Gt]
 cases HH lo<;>cases HH hi<;>(rw [Bool.eq_iff_iff];simp)
noncomputable def SQ1:Sums:=⟨(111,A_ _ rC)::SQ0.one,SQ0.two,SQ0.lo,SQ0.eqs,SQ0.its,SQ0.imm⟩
theorem SQ1_ok:SumsOK Tryz.prog SQ1:=(SQ0_ok.cons Tryz.func111 (by kernel_rfl) (by kernel_rfl) xG)
def Nz:Spec [.slice 2 [.int .i64,.int .i64],.fn 111 [] []]:=⟨fun x=>x.1.1<=maxLen,fun ((n,el),((_,c),_))=>.si .i64 (Lo (fun k=>GV (el k).1 (el k).2.1) n)⟩
noncomputable def rN:Ad [.slice 2 [.int .i64,.int .i64],.fn 111 [] []]->Cz:=fun ((n,el),((_,c),_))=>[(2,[],fun fr hp=>⟨Nat,fun g=>⟨J1 [.k 5,.t 1,.k 2,.s (.si .i64 (Em g)),.t 10] fr,hp⟩,Nat,fun g=>g,fun g=>g<=Aw (fun k=>GV (el k).1 (el k).2.1) n,fun g=>Hb n g⟩)]
set_option maxRecDepth 100000 in
theorem ZF:FnSpec Tryz.prog 128 _ Nz:=by
 refine FnSpec.of SQ1_ok mixed (U:=0) (I:=rN) Tryz.func128 rfl (by kernel_rfl) rfl rfl (by decide +kernel) ?_
 rintro ⟨⟨n,el⟩,⟨⟨⟩,c⟩,⟨⟩⟩ hpre
 have hn:n<=maxLen:=hpre
 unfold A2
 conv=>arg 2;reduce
 unfold maxLen at hn
 have hle:=Ek (fun k=>GV (el k).1 (el k).2.1) n
 simp [Nz,rC,and_assoc]
 refine ⟨⟨0,rfl,by omega⟩,fun k hk=>⟨fun h1=>?_,fun h1=>?_⟩⟩
 ·refine And.intro h1 ?_
  refine ⟨fun h2=>?_,fun h2=>?_⟩
  ·rw [Lo,K9 hk (by simpa using h2),if_pos h1];try simp
  ·have:=K8 hk (by simpa using h2) h1
   refine ⟨by omega,by omega,k+1,by omega,by omega,by omega⟩
 ·rw [Lo,if_neg (by omega)]
def anyBadC:Spec [.slice 2 [.int .i64,.int .i64],.fn 111 [] []]:=⟨fun x=>x.1.1<=maxLen,fun ((n,el),((_,c),_))=>.sb (Hh (fun k=>GV (el k).1 (el k).2.1) n)⟩
noncomputable def rM:Sums:=⟨(128,A_ _ Nz)::SQ1.one,SQ1.two,SQ1.lo,SQ1.eqs,SQ1.its,SQ1.imm⟩
theorem ZE:SumsOK Tryz.prog rM:=(SQ1_ok.cons Tryz.func128 (by kernel_rfl) (by kernel_rfl) ZF)
set_option maxRecDepth 100000 in
theorem ZG:FnSpec Tryz.prog 110 _ anyBadC:=by
 refine FnSpec.of ZE mixed (U:=0) (I:=fun _=>[]) Tryz.func110 rfl (by kernel_rfl) rfl rfl (by decide +kernel) ?_
 rintro ⟨⟨n,el⟩,⟨⟨⟩,c⟩,⟨⟩⟩ hpre
 unfold A2
 conv=>arg 2;reduce
 have hpre:anyBadC.pre ((n,el),(((),c),())):=hpre
 simp [anyBadC,Nz,HQ] at hpre ⊢
 exact hpre
@[irreducible]def Jy (el:Nat->Int × Int × Unit) (n:Nat):Bool:=!(Hh (fun k=>GV (el k).1 (el k).2.1) n)
@[simp]theorem sF (el:Nat->Int × Int × Unit):Jy el 1=Gt (el 0).1 (el 0).2.1:=by
 unfold Jy GV;rw [lu];simp
@[simp]theorem sE (el:Nat->Int × Int × Unit):Jy el 2=(Gt (el 0).1 (el 0).2.1&&Gt (el 1).1 (el 1).2.1):=by
 unfold Jy GV;rw [lq];simp
noncomputable def SQ2:Sums:=⟨(110,A_ _ anyBadC)::SQ1.one,SQ1.two,SQ1.lo,SQ1.eqs,SQ1.its,SQ1.imm⟩
theorem SQ2_ok:SumsOK Tryz.prog SQ2:=(SQ1_ok.cons Tryz.func110 (by kernel_rfl) (by kernel_rfl) ZG)
def TC:Spec [Zk]:=⟨fun x=>x.1.1<=maxLen,fun ((n,el),_)=>.sb (Jy el n)⟩
set_option maxRecDepth 100000 in
theorem gR:FnSpec Tryz.prog 95 _ TC:=by
 refine FnSpec.of SQ2_ok mixed (U:=0) (I:=fun _=>[]) Tryz.func95 rfl (by kernel_rfl) rfl rfl (by decide +kernel) ?_
 rintro ⟨⟨n,el⟩,⟨⟩⟩ (hn:n<=maxLen)
 unfold A2
 conv=>arg 2;reduce
 simp [TC,anyBadC,Jy]
 exact hn
noncomputable def SQ3:Sums:=⟨(95,A_ _ TC)::SQ2.one,SQ2.two,SQ2.lo,SQ2.eqs,SQ2.its,SQ2.imm⟩
theorem SQ3_ok:SumsOK Tryz.prog SQ3:=(SQ2_ok.cons Tryz.func95 (by kernel_rfl) (by kernel_rfl) gR)
end Abs
end Go.Proofs.YtccgngldoinokaaGreat

namespace Go.Proofs.YtccgngldoinokaaGreat
namespace Abs
open Go Go.RowKit
def fX (P1:Act->World->Prop):Exit->Act->World->Prop:=fun e a w=>e=.normal/\P1 a w
section
variable {F:Fence} {n:Nat} {P:Program} {P1:Act->World->Prop} {Q:Exit->Act->World->Prop}
theorem dC {o:Oper} {a:Act} {w:World} {K K':Act->World->Prop} (h:∀ a w,K a w->K' a w) (hh:o.wpIn F n P a w K (fX P1)):o.wpIn F n P a w K' Q:=by
 unfold Oper.wpIn at *
 refine ⟨hh.1,?_⟩
 have hh:=hh.2
 generalize (o.semAt F.round a.eval).run P w=r at *
 cases r with
 | ok x w' =>
   cases x<;>simp only [Oper.uponIn] at hh ⊢ <;>
    first
     | exact h _ _ hh
     | exact ⟨hh.1,CallsIn.mono hh.2 (fun e w'' he=>by cases e<;>first|exact h _ _ he|(obtain ⟨h1,_⟩:=he;cases h1;done)|(obtain ⟨_,_,h1,_⟩:=he;cases h1))⟩
     | exact ⟨hh.1,RowsIn.mono hh.2 (fun _ _ he=>h _ _ he)⟩
     | exact ⟨hh.1,RoundIn.mono hh.2 (fun e w'' he=>by cases e<;>first|exact h _ _ he|(obtain ⟨h1,_⟩:=he;cases h1;done)|(obtain ⟨_,_,h1,_⟩:=he;cases h1))⟩
 | halt x w'=>cases x<;>simp only [Oper.uponIn] at hh ⊢ <;> first|exact hh|(obtain ⟨h1,_⟩:=hh;cases h1)
theorem Um {ops ops':Array Oper} {tm:Array Value} {j:Nat} (h:ops[j]? = ops'[j]?):yielded ops tm j=yielded ops' tm j:=by unfold yielded;rw [h]
theorem Xg {pre all:List Oper} {o:Oper} {tm:Array Value} (hg:∀ g w,o.guard=some (g,w)->pre[g]? = all[g]?):Region.wanted o (yielded pre.toArray tm)=Region.wanted o (yielded all.toArray tm):=by
 unfold Region.wanted
 cases h:o.guard with
 | none=>rfl
 | some x=>obtain ⟨g,w⟩:=x;simp only;rw [Um (ops:=pre.toArray) (ops':=all.toArray) (by simpa using hg g w h)]
theorem V4 {all:List Oper} {k i:Nat} (h:i<k):(all.take k)[i]? = all[i]?:=by rw [List.getElem?_take];simp [h]
theorem Vf {all:List Oper} {k i:Nat} (hi:i<k) (hu:Dd (all.take k)=true) {a:Act} {w:World} {K K':Act->World->Prop} (h:∀ a w,K a w->K' a w) (hh:wpOpIn F n P (all.take k).toArray (fX P1) i K a w):wpOpIn F n P all.toArray Q i K' a w:=by
 unfold wpOpIn at *
 have e:(all.take k).toArray[i]? = all.toArray[i]?:=by simp [List.getElem?_take,hi]
 rw [e] at hh
 cases ho:all.toArray[i]? with
 | none=>rw [ho] at hh;exact h _ _ hh
 | some o =>
   rw [ho] at hh
   simp only at hh ⊢
   have hpo:(all.take k)[i]? = some o:=by simpa [List.getElem?_take,hi] using ho
   rw [Xg (pre:=all.take k) (all:=all) (fun g w hg=>V4 (Nat.lt_trans ((DR hu hpo).2 g w hg) hi))] at hh
   split
   ·rename_i hw;rw [hw] at hh;simp only [if_true] at hh;exact dC h hh
   ·rename_i hw;rw [Bool.eq_false_iff.2 hw] at hh;exact ⟨hh.1,h _ _ hh.2⟩
theorem ZD {all:List Oper} {k m:Nat} (hk:k<all.length) (hu:Dd (all.take k)=true) (hback:GH all) (hbar:Dj true all k=true)
  (hcont:∀ (a:Act) (w:World),P1 a w->∀ D:Array Bool,D.size=all.length->Fc all (Ac D)->(∀ i,i<k->Ac D i)->(∀ i,k<=i->¬ Ac D i)->wpAnyIn F n P .any all.toArray Q m D a w) :
  ∀ (fuel:Nat) (D' D:Array Bool) (a:Act) (w:World),D'.size=k->D.size=all.length->Fc all (Ac D)->(∀ i,i<k->D.getD i false=D'.getD i false)->(∀ i,k<=i->¬ Ac D i)->J3 (fun i=>D'.getD i false) k=fuel ->
    wpAnyIn F n P .any (all.take k).toArray (fX P1) fuel D' a w->wpAnyIn F n P .any all.toArray Q (fuel+m) D a w:=by
 have hlen:(all.take k).length=k:=by rw [List.length_take];omega
 intro fuel
 induction fuel with
 | zero =>
   intro D' D a w hs' hs hcl he hge hun h
   have hall:=Hl hun
   rw [Nat.zero_add]
   exact hcont a w h.2.2 D hs hcl (fun i hi=>by show D.getD i false=true;rw [he i hi];exact hall i hi) hge
 | succ fuel ih =>
   intro D' D a w hs' hs hcl he hge hun h
   have hnot:¬ ∀ i,i<k->Ac D i:=fun hh=>by
    have:J3 (fun i=>D'.getD i false) k=0:=by
     have key:∀ q,q<=k->J3 (fun i=>D'.getD i false) q=0:=by
      intro q
      induction q with
      | zero=>intro _;rfl
      | succ q ihq =>
        intro hq
        have h1:=hh q hq
        have h2:D'.getD q false=true:=by rw [<- he q hq];exact h1
        simp only [J3,h2]
        simpa using ihq (by omega)
     exact key k (Nat.le_refl _)
    omega
   rw [show fuel+1+m=(fuel+m)+1 by omega]
   refine ⟨fun hr=>absurd (fun i hi=>Ef hback hs hr i (by omega)) hnot,fun i hir=>?_⟩
   obtain ⟨o,ho,hnl,hpre,hLst,hclosed,_,hsz⟩:=BJ hs hcl hir
   have hik:i<k:=by
    rcases Nat.lt_or_ge i k with hi|hi
    ·exact hi
    ·exfalso
     rcases Nat.lt_or_ge k i with hi2|hi2
     ·exact hge k (Nat.le_refl _) (Au hback hcl _ _ ho hpre ((IL hbar (List.getElem?_eq_some_iff.1 ho).1).2 hi2))
     ·obtain rfl:i=k:=by omega
      exact hnot fun j hj=>Au hback hcl _ _ ho hpre ((IL hbar (by omega)).1 hj)
   have hpo:(all.take k)[i]? = some o:=by rw [V4 hik];exact ho
   have hnl':D'.getD i true=false:=by
    rw [CY (by omega)]
    have:D.getD i false=false:=by simpa [Ac] using hnl
    rw [<- he i hik];exact this
   have hmem:i∈Region.ready .any (all.take k).toArray D':=mem_ready hpo hnl' fun e he' hb=>by
    have:=hpre e he' hb
    have hlt:=hback i o ho e he' hb
    show D'.getD e.on false=true
    rw [<- he _ (by omega)];exact this
   refine Vf hik hu (fun a1 w1 h1=>?_) (h.2 i hmem)
   have hsz':(D'.setIfInBounds i true).size=k:=by simpa using hs'
   refine ih _ _ a1 w1 hsz' hsz hclosed (fun j hj=>?_) (fun j hj hl=>?_) ?_ h1
   ·rw [Ei (by omega),Ei (by omega),he j hj]
   ·rcases (hLst j).1 hl with h2|h2
    ·exact hge j hj h2
    ·omega
   ·have:=TD (f:=fun i=>D'.getD i false) (g:=fun j=>(D'.setIfInBounds i true).getD j false) (i:=i) (by rw [CY (by omega)] at hnl';exact hnl') (fun j=>Ei (by omega)) (n:=k) hik
    omega
theorem LS {all:List Oper} {k:Nat} (hk:k<=all.length) (hu:Dd (all.take k)=true) {rest:List Nat} (hcont:∀ a w,P1 a w->wpOpsIn F n P all.toArray Q rest a w) :
  ∀ (l:List Nat),(∀ i∈l,i<k)->∀ (a:Act) (w:World),wpOpsIn F n P (all.take k).toArray (fX P1) l a w->wpOpsIn F n P all.toArray Q (l++rest) a w
 | [],_,a,w,h=>hcont a w h.2
 | i::l,hl,a,w,h=>by
   rw [List.cons_append,wpOpsIn_cons]
   rw [wpOpsIn_cons] at h
   exact Vf (hl i (by simp)) hu (fun a w h=>LS hk hu hcont l (fun j hj=>hl j (by simp [hj])) a w h) h
end
end Abs
end Go.Proofs.YtccgngldoinokaaGreat

namespace Go.Proofs.YtccgngldoinokaaGreat
namespace Abs
open Go Go.RowKit
noncomputable section
def Lw:AV->AV
 | .li k n=>.li k n
 | .si k n=>.si k n
 | .lb b=>.lb b
 | .sb b=>.sb b
 | .v x=>.v x
 | _=>.top
def GO:List AV->List AV->List AV
 | _,[]=>[]
 | [],a::l=>Lw a::GO [] l
 | p::ps,_::l=>p::GO ps l
def SZ:List AV->List AV->(List AV->VC)->VC
 | _,[],k=>k []
 | [],a::l,k=>Ec (Lw a) fun a'=>SZ [] l fun l'=>k (a'::l')
 | p::ps,_::l,k=>SZ ps l fun l'=>k (p::l')
def GN (W:Nat):Nat->List AV->List AV->List AV
 | n,o::os,a::l=>(match Nat.testBit W n with|true=>Lw a|false=>o)::GN W (n+1) os l
 | _,_,_=>[]
def Ip (W:Nat):List AV->List AV->Nat->(List AV->VC)->VC
 | o::os,a::l,n,k=>(match Nat.testBit W n with
   | true=>Ec (Lw a) fun a'=>Ip W os l (n+1) fun l'=>k (a'::l')
   | false=>Ip W os l (n+1) fun l'=>k (o::l'))
 | _,_,_,k=>k []
def Gz (W:Nat):Nat->List AV->List AV->List AV
 | n,o::os,a::l=>(match Nat.testBit W n with|true=>a|false=>o)::Gz W (n+1) os l
 | _,_,_=>[]
def Oq (W:Nat):List AV->List AV->Nat->(List AV->VC)->VC
 | o::os,a::l,n,k=>(match Nat.testBit W n with
   | true=>Oq W os l (n+1) fun l'=>k (a::l')
   | false=>Oq W os l (n+1) fun l'=>k (o::l'))
 | _,_,_,k=>k []
def ik (o:Oper):Bool:=match o.guard,o.op with
 | none,.move _=>true
 | none,.assign _=>true
 | none,.load _ _=>true
 | none,.indexAddr _ _ _=>true
 | none,.fieldAddr _ _ _=>true
 | none,.nilCheck _=>true
 | _,_=>false
def Oj:List Oper->List Oper
 | []=>[]
 | o::l=>(match ik o with|true=>o::Oj l|false=>[])
def dX:List Oper->List Oper
 | []=>[]
 | o::l=>(match ik o with|true=>dX l|false=>o::l)
def lw:List Oper->List Bool
 | []=>[]
 | _::l=>true::lw l
def Yh:List Oper->Option (Oper × Oper)
 | [y,z]=>some (y,z)
 | _::l=>Yh l
 | []=>none
def M8:Op->Option (Nat × List Operand)
 | .call c=>(match c.callee with|.value (.tmp d)=>some (d,c.args.toList)|_=>none)
 | _=>none
def jH:Op->Option Nat
 | .unOp .not _ (.tmp e)=>some e
 | _=>none
def YX (d:Nat):List Oper->Bool
 | []=>false
 | o::l=>(match o.dst,o.op with|some e,.move (.tmp 0)=>Nat.beq e d||YX d l|_,_=>YX d l)
structure YCall where
 d:Nat
 args:List Operand
 yd:Nat
 zd:Nat
def TH (ops:List Oper):Option YCall :=
 match Yh ops with
 | none=>none
 | some (y,z)=>(match M8 y.op,jH z.op with
   | some (d,args),some e=>(match y.dst,z.dst,y.guard,z.guard with
     | some yd,some zd,none,none=>(match YX d ops&&Nat.beq e yd && !(Nat.beq yd zd) with|true=>some ⟨d,args,yd,zd⟩|false=>none)
     | _,_,_,_=>none)
   | _,_=>none)
structure YA where
 ps:List AV
 Y:Value
 n:Nat
 it:Nat->List AV
 fr:Nat->List AV
 {α:Type}
 dat:Nat->α
 q:α->Prop
def ua (A:YA):Ann:=⟨Nat,fun _=>⟨[],[]⟩,A.α,A.dat,A.q,fun _=>0⟩
def tF (A:YA) (W:Nat) (old:List AV) (y:YCall) (fr:List AV) (k:Nat) (Q:List AV->Option Nat->VC):VC :=
 .need ⟨fun z:AV × AV=>z.1=z.2,(A4 fr y.d,.v A.Y)⟩ (.need ⟨fun z:Nat × Nat=>z.1<z.2,(k,A.n)⟩ (forceLD (QL (ev fr) y.args) fun asg=>Av (A.it k) fun its=>KK (leAF 6 0 [] []) asg its
  (.loop (A:=Gp) (fun _=>()) (EF fr y.yd (.lb true) fun f=>EF f y.zd (.lb false) fun f=>Ip W old f 0 fun f=>Q f (some (Ii k 1)))
   fun _=>EF fr y.yd (.lb false) fun f=>EF f y.zd (.lb true) fun f=>Ip W old f 0 fun f=>Q f none)))
def fC (W:Nat) (old:List AV) (Q:List AV->VC) (fr:List AV) (hp:A0):VC:=match hp with|[]=>Ip W old fr 0 Q|_=>.fail
def tG (A:YA) (W:Nat) (old:List AV) (y:YCall) (k:Nat) (Q:List AV->Option Nat->VC) (fr:List AV) (hp:A0):VC:=match hp with|[]=>tF A W old y fr k Q|_=>.fail
def dB (P:Program) (S:Sums) (A:YA):Code->List AV->Option Nat->(AE->List AV->Option Nat->VC)->VC
 | .skip,fr,k,Q=>Q .normal fr k
 | .region _ ops dr,fr,k,Q=>(match TH ops.toList with
   | none=>(match dr with
     | false=>LL P ops.toList (Oj ops.toList) (lw (Oj ops.toList)) fr fun f=>Oq (Am (Oj ops.toList)) fr f 0 fun f =>
       AI P S false ops.toList none (I2 (Oj ops.toList)) (dX ops.toList) [] f [] (fC (Am (dX ops.toList)) f fun f=>Q .normal f k)
     | true=>AI P S dr ops.toList none 0 ops.toList [] fr [] (fC (Am ops.toList) fr fun f=>Q .normal f k))
   | some y=>(match k,Nat.blt y.yd fr.length with
     | some k,true=>AI P S dr (ops.toList.take (ops.toList.length-2)) none 0 (ops.toList.take (ops.toList.length-2)) [] fr [] (tG A (Am ops.toList) fr y k fun f k'=>Q .normal f k')
     | _,_=>.fail))
 | .seq a b,fr,k,Q=>dB P S A a fr k fun e fr' k'=>match e with
   | .normal=>dB P S A b fr' k' Q
   | e=>Q e fr' k'
 | .cond c t e,fr,k,Q=>(match c with
   | .tmp d=>(match Nat.ble A.ps.length d with|true=>KD fr d fun b fr=>(match b with|true=>dB P S A t fr k Q|false=>dB P S A e fr k Q)|false=>.fail)
   | _=>.fail)
 | .block id c,fr,k,Q=>dB P S A c fr k fun e fr' k'=>match e with
   | .exit j=>(match Nat.beq id j with|true=>Q .normal fr' k'|false=>Q (.exit j) fr' k')
   | e=>Q e fr' k'
 | .loop c,fr,k,Q=>(match k with
   | none=>.fail
   | some k=>.loop (A:=ua A) A.dat (KK (leAF 6 0 [] []) fr (A.fr k) (.need ⟨A.q,A.dat k⟩ .done)) fun g=>Av (A.fr g) fun f=>dB P S A c f (some g) fun e fr' k'=>match e with
     | .normal=>(match k' with
       | some k'=>.need ⟨fun z:Nat × Nat × Nat=>z.1<z.2.1/\z.1<z.2.2,(g,k',A.n)⟩ (KK (leAF 6 0 [] []) fr' (A.fr k') (.need ⟨A.q,A.dat k'⟩ .done))
       | none=>.fail)
     | e=>Q e fr' k')
 | .exit id,fr,k,Q=>Q (.exit id) fr k
 | .ret,fr,k,Q=>Q .ret fr k
 | _,_,_,_=>.fail
def yu (P:Program) (S:Sums) (A:YA) (fn:Func):VC :=
 match fn.body with
 | some c=>Av (KI A.ps fn.ntmps) fun fr=>SZ A.ps fr fun fr=>dB P S A c fr (some 0) fun e _ k=>match e with
   | .exit _=>.fail
   | _=>(match k with|some k=>.need ⟨fun z:Nat × Nat=>z.1=z.2,(k,A.n)⟩ .done|none=>.done)
 | none=>.fail
def IJ (np:Nat):Code->Bool
 | .region _ ops dr=>(match TH ops.toList with
   | none=>Iy dr ops.toList
   | some _=>Iy dr (ops.toList.take (ops.toList.length-2))&&Z_ ops.toList&&(match dr with|true=>Dj true ops.toList (ops.toList.length-2)|false=>true))&&En (fun t=>!(Nat.testBit (Am ops.toList) t)) np
 | .seq a b=>IJ np a&&IJ np b
 | .cond _ a b=>IJ np a&&IJ np b
 | .block _ a=>IJ np a
 | .loop a=>IJ np a
 | .skip=>true
 | .exit _=>true
 | .ret=>true
 | _=>false
end
theorem Pi:∀ (ps l:List AV) (k:List AV->VC),SZ ps l k=k (GO ps l)
 | [],[],k=>rfl
 | _::_,[],k=>rfl
 | [],a::l,k=>by unfold SZ GO;rw [Dz,Pi [] l]
 | p::ps,a::l,k=>by unfold SZ GO;rw [Pi ps l]
theorem IB (W:Nat):∀ (os l:List AV) (n:Nat) (k:List AV->VC),Ip W os l n k=k (GN W n os l)
 | [],_,_,_=>by simp [Ip,GN]
 | _::_,[],_,_=>by simp [Ip,GN]
 | o::os,a::l,n,k=>by
   unfold Ip GN
   cases Nat.testBit W n with
   | true=>simp only;rw [Dz,IB W os l]
   | false=>simp only;rw [IB W os l]
theorem Oo (W:Nat):∀ (os l:List AV) (n:Nat) (k:List AV->VC),Oq W os l n k=k (Gz W n os l)
 | [],_,_,_=>by simp [Oq,Gz]
 | _::_,[],_,_=>by simp [Oq,Gz]
 | o::os,a::l,n,k=>by
   unfold Oq Gz
   cases Nat.testBit W n with
   | true=>simp only;rw [Oo W os l]
   | false=>simp only;rw [Oo W os l]
theorem SI (W:Nat):∀ (n:Nat) (os l:List AV),os.length=l.length->(Gz W n os l).length=l.length
 | _,[],[],_=>by simp [Gz]
 | _,[],_::_,h=>by simp at h
 | _,_::_,[],h=>by simp at h
 | n,o::os,a::l,h=>by simp only [Gz,List.length_cons];rw [SI W (n+1) os l (by simpa using h)]
theorem Mk (W:Nat):∀ (n:Nat) (os l:List AV) (t:Nat),os.length=l.length->t<l.length->A4 (Gz W n os l) t=(match Nat.testBit W (n+t) with|true=>A4 l t|false=>A4 os t)
 | _,[],[],_,_,h=>by simp at h
 | _,[],_::_,_,h,_=>by simp at h
 | _,_::_,[],_,h,_=>by simp at h
 | n,o::os,a::l,0,_,_=>by simp only [Gz,Ej,Nat.add_zero]
 | n,o::os,a::l,t+1,h,ht=>by
   simp only [Gz,CO]
   rw [Mk W (n+1) os l t (by simpa using h) (by simpa using ht),show n+1+t=n+(t+1) by omega]
theorem SJ (W:Nat):∀ (n:Nat) (os l:List AV),os.length=l.length->(GN W n os l).length=l.length
 | _,[],[],_=>by simp [GN]
 | _,[],_::_,h=>by simp at h
 | _,_::_,[],h=>by simp at h
 | n,o::os,a::l,h=>by simp only [GN,List.length_cons];rw [SJ W (n+1) os l (by simpa using h)]
theorem Ml (W:Nat):∀ (n:Nat) (os l:List AV) (t:Nat),os.length=l.length->t<l.length->A4 (GN W n os l) t=(match Nat.testBit W (n+t) with|true=>Lw (A4 l t)|false=>A4 os t)
 | _,[],[],_,_,h=>by simp at h
 | _,[],_::_,_,h,_=>by simp at h
 | _,_::_,[],_,h,_=>by simp at h
 | n,o::os,a::l,0,_,_=>by simp only [GN,Ej,Nat.add_zero]
 | n,o::os,a::l,t+1,h,ht=>by
   simp only [GN,CO]
   rw [Ml W (n+1) os l t (by simpa using h) (by simpa using ht),show n+1+t=n+(t+1) by omega]
theorem SO:∀ {l:List Oper} {y z:Oper},Yh l=some (y,z)->2<=l.length/\l=l.take (l.length-2)++[y,z]
 | [],y,z,h=>by cases h
 | [a],y,z,h=>by simp [Yh] at h
 | [a,b],y,z,h=>by simp [Yh] at h;obtain ⟨rfl,rfl⟩:=h;exact ⟨by simp,by simp⟩
 | a::b::c::l,y,z,h=>by
   have h':Yh (b::c::l)=some (y,z):=by simpa [Yh] using h
   obtain ⟨h1,h2⟩:=SO h'
   refine ⟨by simp,?_⟩
   have e:(a::b::c::l).length-2=((b::c::l).length-2)+1:=by simp
   rw [e,List.take_succ_cons,List.cons_append,<- h2]
end Abs
end Go.Proofs.YtccgngldoinokaaGreat

namespace Go.Proofs.YtccgngldoinokaaGreat
namespace Abs
open Go Go.RowKit
section
variable {P:Program} {S:Sums} {C C':Cx} {w w':World} {A:YA} {J Jx:Nat->World->Prop} {sz0:Nat}
theorem cC (hρ:∀ i,C.ρ i=none) (hO:∀ b,C.O b=none) (hI:∀ b,C.I b->b<w.heap.size):HR C [] w :=
 ⟨fun i p h=>(by rw [hρ] at h;cases h),fun i j b c n b' c' n' h=>(by rw [hρ] at h;cases h),fun i b c n h=>(by rw [hρ] at h;cases h),hI,fun b x h=>(by rw [hO] at h;cases h)⟩
theorem pE (h:HR C [] w):∀ i,C.ρ i=none:=fun i=>by
 cases hc:C.ρ i with
 | none=>rfl
 | some p=>have:=h.live i p hc;cases p<;>exact this.elim
theorem O5 {lo:Nat} (hρ:∀ i,C.ρ i=none) (hO:∀ b,C.O b=none) (t:Tr lo C w C' w'):Quiet w w' :=
 ⟨t.os,t.tape,t.output,t.size,fun k hk=>t.keep k hk (fun i b c n h=>(by rw [hρ] at h;cases h)) (hO k)⟩
theorem X6 {a:AV} {v:Value} (h:Rel C w a v):Rel C' w' (Lw a) v:=by
 cases h<;>unfold Lw<;>first|exact .top _|exact .li _ _|exact .si _ _|exact .lb _|exact .sb _|exact .v _
theorem cQ (a:AV):EW (Lw a):=by cases a<;>trivial
theorem JY:∀ (ps l:List AV),(GO ps l).length=l.length
 | [],[]=>rfl
 | _::_,[]=>rfl
 | [],a::l=>by simp [GO,JY [] l]
 | p::ps,a::l=>by simp [GO,JY ps l]
theorem Lq:∀ (ps l:List AV) (t:Nat),t<l.length->A4 (GO ps l) t=if t<ps.length then A4 ps t else Lw (A4 l t)
 | _,[],t,h=>by simp at h
 | [],a::l,0,_=>rfl
 | [],a::l,t+1,h=>by
   unfold GO
   rw [CO,CO,Lq [] l t (by simpa using h)]
   simp
 | p::ps,a::l,0,_=>by simp [GO,Ej]
 | p::ps,a::l,t+1,h=>by
   unfold GO
   rw [CO,CO,CO,Lq ps l t (by simpa using h)]
   simp
structure InvY (A:YA) (C:Cx) (J Jx:Nat->World->Prop) (sz0:Nat) (fr:List AV) (k:Option Nat) (act:Act) (w:World):Prop where
 F:FR [] C w fr act.tmps
 ps:∀ t,t<A.ps.length->A4 fr t=A4 A.ps t
 np:A.ps.length<=fr.length
 size:sz0<=w.heap.size
 st:match k with|some k=>J k w|none=>∃ k,k<A.n/\Jx k w
 df:act.defers=[]
structure YCtx (P:Program) (A:YA) (C:Cx) (J Jx:Nat->World->Prop) (sz0 l:Nat):Prop where
 ρ:∀ i,C.ρ i=none
 O:∀ b,C.O b=none
 I:∀ b,C.I b->b<sz0
 ng:∀ t,EW (A4 A.ps t)
 fr:∀ g t,t<A.ps.length->A4 (A.fr g) t=A4 A.ps t
 Y:A.Y=.func (.yield l) #[] #[]
 hJ:∀ k W W',J k W->Quiet W W'->J k W'
 hJx:∀ k W W',Jx k W->Quiet W W'->Jx k W'
 hY:∀ (k:Nat) (W0 W:World) (I1:Nat->Prop) (vs:List Value),k<A.n->J k W0->Quiet W0 W->(∀ b,C.I b->I1 b)->(∀ b,I1 b->C.I b\/(W0.heap.size<=b/\b<W.heap.size)) ->
   RelL ⟨fun _=>none,I1,fun _=>none⟩ W (A.it k) vs->YieldAt (Fa none) 0 P l ⟨vs⟩ W fun e W' =>
    (∀ b,C.I b->W'.heap[b]? = W.heap[b]?)/\W.heap.size<=W'.heap.size/\((e=.returned (.bool true)/\J (k+1) W')\/(e=.returned (.bool false)/\Jx k W'))
theorem lU {l:Nat} (hc:YCtx P A C J Jx sz0 l) {fr fr':List AV} {k k':Option Nat} {act act':Act} {w1:World} {C1:Cx} {W:Nat} (hi:InvY A C J Jx sz0 fr k act w) (hF:FR [] C1 w1 fr' act'.tmps) (hb:∀ b,C.I b->w'.heap[b]? = w.heap[b]?) (hs:w.heap.size<=w'.heap.size)
  (hk:RegKept W act act') (hW:∀ t,t<A.ps.length->Nat.testBit W t=false) (hlen:fr'.length=fr.length) (st:match k' with|some k=>J k w'|none=>∃ k,k<A.n/\Jx k w'):InvY A C J Jx sz0 (GN W 0 fr fr') k' act' w':=by
 have hget:∀ t,t<A.ps.length->A4 (GN W 0 fr fr') t=A4 A.ps t:=fun t ht=>by
  rw [Ml _ _ _ _ _ hlen.symm (by have:=hi.np;omega),Nat.zero_add,hW t ht]
  exact hi.ps t ht
 have hl2:(GN W 0 fr fr').length=fr'.length:=SJ _ _ _ _ hlen.symm
 refine ⟨⟨by rw [hl2,hF.len],fun t=>?_⟩,hget,by rw [hl2,hlen];exact hi.np,Nat.le_trans hi.size hs,st,by rw [hk.2.2,hi.df]⟩
 by_cases ht:t<fr'.length
 ·rw [Ml _ _ _ _ _ hlen.symm ht,Nat.zero_add]
  cases hbt:Nat.testBit W t with
  | true=>exact .plain (X6 (hF.get t).1) (cQ _)
  | false =>
    simp only
    rw [hk.2.1 t hbt]
    exact (hi.F.get t).mono ⟨fun i p h=>h,fun b h=>h,hb⟩
 ·have e1:A4 (GN W 0 fr fr') t=.tup []:=by rw [DX,List.getD_eq_getElem?_getD,List.getElem?_eq_none (by rw [hl2];omega)];rfl
  have e2:act'.tmps.getD t undef=undef:=by
   rw [Array.getD_eq_getD_getElem?,Array.getElem?_eq_none (by rw [<- hF.len];omega)];rfl
  rw [e1,e2]
  exact .plain (.tup _ _ .nil) trivial
theorem wu {l:Nat} (hc:YCtx P A C J Jx sz0 l) {fr:List AV} {k:Option Nat} {act:Act} (hi:InvY A C J Jx sz0 fr k act w):InvY A C J Jx sz0 (GO A.ps fr) k act w:=by
 have hget:∀ t,t<A.ps.length->A4 (GO A.ps fr) t=A4 A.ps t:=fun t ht=>by
  rw [Lq _ _ _ (by have:=hi.np;omega),if_pos ht]
 refine ⟨⟨by rw [JY,hi.F.len],fun t=>?_⟩,hget,by rw [JY];exact hi.np,hi.size,hi.st,hi.df⟩
 by_cases ht:t<fr.length
 ·rw [Lq _ _ _ ht]
  by_cases hp:t<A.ps.length
  ·rw [if_pos hp]
   have h1:=(hi.F.get t).1
   rw [hi.ps t hp] at h1
   exact .plain h1 (hc.ng t)
  ·rw [if_neg hp]
   exact .plain (X6 (hi.F.get t).1) (cQ _)
 ·have e1:A4 (GO A.ps fr) t=.tup []:=by rw [DX,List.getD_eq_getElem?_getD,List.getElem?_eq_none (by rw [JY];omega)];rfl
  have e2:act.tmps.getD t undef=undef:=by
   rw [Array.getD_eq_getD_getElem?,Array.getElem?_eq_none (by rw [<- hi.F.len];omega)];rfl
  rw [e1,e2]
  exact .plain (.tup _ _ .nil) trivial
theorem ip:∀ {l:List Oper},∀ o∈Oj l,o.guard=none
 | [],o,ho=>by simp [Oj] at ho
 | p::l,o,ho=>by
   unfold Oj at ho
   split at ho
   ·rename_i hp
    rcases List.mem_cons.1 ho with rfl|ho
    ·unfold ik at hp;split at hp<;>first|assumption|cases hp
    ·exact ip o ho
   ·simp at ho
theorem VX:∀ l:List Oper,Oj l++dX l=l
 | []=>rfl
 | o::l=>by
   unfold Oj dX
   split
   ·simp [VX l]
   ·rfl
theorem VW {all:List Oper} {R:AV->A0->Prop} {F:Fence} {Q:Exit->Act->World->Prop} {ds:Act->Prop} {k:List AV->VC} (hf:∃ r,F=Fa r) {n:Nat} (hilt:∀ b,C.I b->b<w.heap.size) {e:Nat} {tl:List Nat}
  (hgoal:∀ fr' a',FR [] C w fr' a'.tmps->ds a'->(k fr').sat R->wpOpsIn F n P all.toArray Q tl a' w):∀ (rest:List Oper) (s:Nat) (fr:List AV) (a:Act),(∀ i,i<rest.length->all[s+i]? = rest[i]?)->Ep rest ds->(∀ o∈rest,o.guard=none)->FR [] C w fr a.tmps->ds a->(LL P all rest (lw rest) fr k).sat R ->
  wpOpsIn F n P all.toArray Q (List.range' s rest.length++tl) a w
 | [],s,fr,a,_,_,_,hF,hds,h=>by
   simp only [lw,LL] at h
   exact hgoal fr a hF hds h
 | o::rest,s,fr,a,hd,hput,hg,hF,hds,h=>by
   obtain ⟨r,rfl⟩:=hf
   have ho:all[s]? = some o:=by simpa using hd 0 (by simp)
   have hao:all.toArray[s]? = some o:=by simpa using ho
   have hgo:=hg o (by simp)
   simp only [lw,LL] at h
   split at h
   ·exact h.elim
   ·rw [Cy] at h
    split at h
    ·exact h.elim
    ·rename_i ps x hx
     obtain ⟨h1,h2⟩:=EB h
     rw [AT,FV] at h2
     obtain ⟨v,hv,hdf,hse,hrun⟩:=Lt (w:=w) (C:=C) (σ:=a.eval) hilt (fun y=>OR fr _ [] C w a hF y) (fun _=>rfl) hx h1
     have hF2:FR [] C w (CT fr o.dst (DN x)) (a.put o.dst v).tmps:=hF.put (.plain (Du hv) (BQ _)) _
     rw [List.length_cons,List.range'_succ,List.cons_append,wpOpsIn_cons]
     unfold wpOpIn
     simp only [hao]
     have hw:Region.wanted o (yielded all.toArray a.tmps)=true:=by unfold Region.wanted;rw [hgo]
     rw [hw]
     simp only [if_true]
     refine Ran.wpIn (.inl ⟨v,w,hrun w (fun _ _=>rfl),?_⟩)
     exact VW ⟨r,rfl⟩ hilt (e:=e) hgoal rest (s+1) _ _ (fun i hi=>by
      have:=hd (i+1) (by simpa using hi)
      rw [show s+1+i=s+(i+1) by omega];simpa using this) (fun o' ho'=>hput o' (by simp [ho'])) (fun o' ho'=>hg o' (by simp [ho'])) hF2 (hput o (by simp) _ _ hds) h2
theorem k7 {T':List Cnd} {all:List Oper} (hS:SumsOK P S) (hu:Dd all=true) {R:AV->A0->Prop} {K:List AV->A0->VC} {Q:Exit->Act->World->Prop} {ds:Act->Prop} {ro:Option Nat} {rm:Nat} :
  ∀ (rest:List Oper) (n:Nat) (T:List Cnd) (fr:List AV) (hp:A0) (C:Cx) (w:World) (act:Act),all.drop n=rest->Ep rest ds->TOK all T n fr->S.lo<=hp.length->HR C hp w->FR T C w fr act.tmps ->
    (AI P S false all none n rest T fr hp K).sat R->ds act->Goal P S R K Q C w ds->wpOpsIn (Fa ro) rm P all.toArray Q (List.range' n rest.length) act w:=by
 intro rest
 induction rest with
 | nil =>
   intro n T fr hp C w act hd hput ht AQ hH hF h hds hgoal
   simp only [AI,EC] at h
   exact hgoal _ _ C w act h AQ hH hF.clean (.refl _ _ _) hds
 | cons o rest ih =>
   intro n T fr hp C w act hd hput ht AQ hH hF h hds hgoal
   have hlt:n<all.length:=by
    rcases Nat.lt_or_ge n all.length with h|h
    ·exact h
    ·rw [List.drop_eq_nil_of_le h] at hd;cases hd
   have ho:all[n]? = some o:=by
    have:=List.getElem?_drop (xs:=all) (i:=n) (j:=0)
    rw [hd] at this;simpa using this.symm
   have hd':all.drop (n+1)=rest:=by
    rw [<- List.drop_drop,hd];rfl
   have hao:all.toArray[n]? = some o:=by simpa using ho
   have hput':Ep rest ds:=fun o' ho'=>hput o' (by simp [ho'])
   have hpo:=hput o (by simp)
   have hwp:∀ {T:List Cnd} {fr:List AV} {hp:A0} {C':Cx} {w':World} {act':Act},TOK all T (n+1) fr->S.lo<=hp.length->HR C' hp w'->FR T C' w' fr act'.tmps->(AI P S false all none (n+1) rest T fr hp K).sat R ->
     ds act'->Tr S.lo C w C' w'->wpOpsIn (Fa ro) rm P all.toArray Q (List.range' (n+1) rest.length) act' w':=fun h1 h2 h3 h4 h5 h6 h7=>ih (n+1) _ _ _ _ _ _ hd' hput' h1 h2 h3 h4 h5 h6 (hgoal.step h7)
   rw [List.length_cons,List.range'_succ]
   simp only [wpOpsIn,hao]
   rcases JG hS hu ho ht h with ⟨i,T1,hst,ht1,hh⟩|⟨_,htu,hw,ρ,hρ,fr',hp',a,hbo,ht1,hh⟩|⟨hdr,_⟩
   ·have hF1:=hF.sub hst.sub
    have hfree:=hH.free i.new
    rcases G0 hst (.refl _) (act:=act) (hH.ext i.new) (fun i hi=>Ax _ _ _ hi) hfree (fun x _=>EL x fun t _=>hF1.get t) (fun d _=>hF1.get d) with ⟨hw,hr⟩|⟨hw,hr⟩
    ·rw [hw]
     simp only [if_true]
     refine Ran.wpIn (hr.mono fun v w' ⟨C',h1,h2,h3⟩=>?_)
     have hx:=h3.cext hfree.none hH.ilt
     exact hwp ht1 (by simp;omega) h1 ((hF1.mono hx).put h2 _) hh (hpo _ _ hds) (h3.tr AQ)
    ·rw [hw]
     simp only [Bool.false_eq_true,if_false]
     obtain ⟨C',h1,h2,h3⟩:=hr
     have hx:=h3.cext hfree.none hH.ilt
     refine ⟨fun _ _=>trivial,?_⟩
     exact hwp ht1 (by simp;omega) h1 ((hF1.mono hx).put h2 _) hh (hpo _ _ hds) (h3.tr AQ)
   ·have hwant:Region.wanted o (yielded all.toArray act.tmps)=true:=Fg hw fun d _=>hF.get d
    rw [hwant]
    simp only [if_true]
    refine Ran.wpIn ((Jk hS o htu hρ hH hF AQ hbo).mono fun v w' ⟨C',h1,h2,h3,h4⟩=>?_)
    exact hwp ht1 (Nat.le_trans AQ hbo.len) h1 (h3.put (.plain (Du h2) (BQ _)) _) hh (hpo _ _ hds) h4
   ·cases hdr
theorem Lg {Q Q':Exit->Act->World->Prop} (hQ:∀ e a w,Q e a w->Q' e a w) (h:LetsOut Q):LetsOut Q':=h.elim fun a h=>h.elim fun w h=>⟨a,w,hQ _ _ _ h⟩
theorem Xf {F:Fence} {n:Nat} {o:Oper} {a:Act} {K:Act->World->Prop} {Q Q':Exit->Act->World->Prop} (hQ:∀ e a w,Q e a w->Q' e a w) (hh:o.wpIn F n P a w K Q):o.wpIn F n P a w K Q':=by
 unfold Oper.wpIn at *
 refine ⟨hh.1,?_⟩
 have hh:=hh.2
 generalize (o.semAt F.round a.eval).run P w=r at *
 cases r with
 | ok x w' =>
   cases x<;>simp only [Oper.uponIn] at hh ⊢ <;>
    first
     | exact hh
     | exact hQ _ _ _ hh
     | exact ⟨hh.1,CallsIn.mono hh.2 (fun e w'' he=>by cases e<;>first|exact he|exact hQ _ _ _ he|exact Lg hQ he)⟩
     | exact ⟨hh.1,RowsIn.mono hh.2 (fun _ _ he=>he)⟩
     | exact ⟨hh.1,RoundIn.mono hh.2 (fun e w'' he=>by cases e<;>first|exact he|exact hQ _ _ _ he|exact Lg hQ he)⟩
 | halt x w'=>cases x<;>simp only [Oper.uponIn] at hh ⊢ <;> first|exact hh|exact hQ _ _ _ hh
theorem N4 {F:Fence} {n:Nat} {ops:Array Oper} {Q Q':Exit->Act->World->Prop} (hQ:∀ e a w,Q e a w->Q' e a w):∀ (fuel:Nat) (D:Array Bool) (a:Act) (w:World),wpAnyIn F n P .any ops Q fuel D a w->wpAnyIn F n P .any ops Q' fuel D a w
 | 0,_,_,_,h=>⟨h.1,hQ _ _ _ h.2⟩
 | f+1,D,a,w,h=>⟨fun hr=>hQ _ _ _ (h.1 hr),fun i hi=>by
   have h2:=wpOpIn_mono (fun a' w' h'=>N4 hQ f _ a' w' h') (h.2 i hi)
   unfold wpOpIn at h2 ⊢
   split
   ·rename_i ho;simp only [ho] at h2;exact h2
   ·rename_i o ho
    simp only [ho] at h2
    split
    ·rename_i hw;simp only [hw,if_true] at h2;exact Xf hQ h2
    ·rename_i hw;simp only [hw] at h2;exact h2⟩
theorem l6 (hS:SumsOK P S) {ro:Option Nat} {rm:Nat} {ops:Array Oper} (hu:Dd ops.toList=true) (htmp:KO ops.toList=true) (hback:GH ops.toList) {R:AV->A0->Prop} {K:List AV->A0->VC} {Q:Exit->Act->World->Prop} {fr:List AV} {act:Act} {hp:A0}
  (AQ:S.lo<=hp.length) (hH:HR C hp w) (hF:FR [] C w fr act.tmps) (h:(AI P S true ops.toList none 0 ops.toList [] fr hp K).sat R) {ds:Act->Prop} (hput:Ep ops.toList ds) (hds:ds act) (hgoal:Goal P S R K Q C w ds) :
  wpAnyIn (Fa ro) rm P .any ops Q ops.size (Array.replicate ops.size false) act { w with drawn:=w.drawn+1 }:=by
 obtain ⟨L,T',hs,he⟩:=LG hS hu (s:=0) (T0:=[]) (fr0:=fr) (hp0:=hp) ops.toList [] [] ⟨by simp,.refl _,fun q hq=>by simp at hq⟩ (by simp) (fun k x hx=>by simp at hx) h
 have hsz:(Array.replicate ops.size false).size=ops.toList.length:=by simp
 have hno:∀ i,¬ Ac (Array.replicate ops.size false) i:=fun i h=>by
  unfold Ac at h
  rw [Array.getD_eq_getD_getElem?,Array.getElem?_replicate] at h
  split at h<;>simp at h
 obtain ⟨r,hr⟩:=Aj hp L L.length
 have hH1:HR C hp { w with drawn:=w.drawn+1 }:=HR.same (w:=w) rfl hH
 have hF1:FR [] C { w with drawn:=w.drawn+1 } fr act.tmps:=FR.mono (w:=w) (w':={ w with drawn:=w.drawn+1 }) (.same rfl) hF
 have hunl:∀ n,J3 (fun i=>(Array.replicate ops.size false).getD i false) n<=n:=fun n=>by
  induction n with
  | zero=>exact Nat.le_refl _
  | succ n ih=>simp only [J3];split<;>omega
 refine N4 (Q:=fun e a w=>(∀ c,e≠.panic c)/\Q e a w) (fun e a w h=>h.2) _ _ _ _ ?_
 have:=Ff _ _ _ _ <| (ME (Q:=fun e a w=>(∀ c,e≠.panic c)/\Q e a w) hS hu htmp hback hput (ro:=ro) (rm:=rm) (fun c a w h=>h.1 c rfl) ops.size (fun _ _=>True) (fun _ _ _ _ _ _=>trivial)).1 (Array.replicate ops.size false) 0 [] fr hp L T' C { w with drawn:=w.drawn+1 } act hs he
  ⟨hsz,fun i hi=>by omega,fun i _=>hno i,fun i o _ hl=>(hno i hl).elim,⟨by rw [hr];exact hH1.ext r,fun q _ _ t _=>by
   obtain ⟨r',hr'⟩:=Aj hp L q
   cases hc:C.ρ ((hps hp L q).length+t) with
   | none=>rfl
   | some p=>have:=hH1.lt hc;rw [hr'] at this;simp at this;omega,
   fun q _ hl=>(hno _ hl).elim,fun t _=>(hF1.get t).sub hs.sub,hF1.len⟩⟩ AQ (by have:=hunl ops.toList.length;simpa using this) hds (Goal.any fun fr' hp' C' w' act' h1 h2 h3 h4 h5 h6=>⟨fun c h=>by (cases h),(hgoal.step (.draw _ _ _ _)) fr' hp' C' w' act' h1 h2 h3 h4 h5 h6⟩)
 simpa using this
theorem gp {F:Fence} {n:Nat} {Q:Exit->Act->World->Prop} {pre:List Oper} {y z:Oper} (hback:GH (pre++[y,z])) (hbar:Dj true (pre++[y,z]) pre.length=true) (hy:y.guard=none) (hz:z.guard=none) {D:Array Bool} (hs:D.size=(pre++[y,z]).length)
  (hcl:Fc (pre++[y,z]) (Ac D)) (hb:∀ i,i<pre.length->Ac D i) (hge:∀ i,pre.length<=i->¬ Ac D i) {a:Act}
  (h:y.wpIn F n P a w (fun a2 w2=>z.wpIn F n P a2 w2 (fun a3 w3=>Q .normal a3 w3) Q) Q):wpAnyIn F n P .any (pre++[y,z]).toArray Q 2 D a w:=by
 have hlen:(pre++[y,z]).length=pre.length+2:=by simp
 have gy:(pre++[y,z])[pre.length]? = some y:=by simp
 have gz:(pre++[y,z])[pre.length+1]? = some z:=by simp
 have hwy:∀ f,Region.wanted y f=true:=fun f=>by unfold Region.wanted;rw [hy]
 have hwz:∀ f,Region.wanted z f=true:=fun f=>by unfold Region.wanted;rw [hz]
 refine ⟨fun hr=>absurd (Ef hback hs hr pre.length (by omega)) (hge _ (Nat.le_refl _)),fun i hir=>?_⟩
 obtain ⟨o,ho,hnl,hpre,hLst,hcl2,_,hsz⟩:=BJ hs hcl hir
 have hlt:=(List.getElem?_eq_some_iff.1 ho).1
 have hi:i=pre.length:=by
  rcases Nat.lt_trichotomy i pre.length with h1|h1|h1
  ·exact absurd (hb i h1) hnl
  ·exact h1
  ·exact absurd (Au hback hcl _ _ ho hpre ((IL hbar hlt).2 h1)) (hge _ (Nat.le_refl _))
 subst hi
 unfold wpOpIn
 rw [show (pre++[y,z]).toArray[pre.length]? = some y by simp]
 simp only [hwy,if_true]
 refine Oper.wpIn_mono (fun a2 w2 h2=>?_) h
 refine ⟨fun hr=>?_,fun i hir2=>?_⟩
 ·have:=Ef hback hsz hr (pre.length+1) (by omega)
  rcases (hLst _).1 this with h3|h3
  ·exact absurd h3 (hge _ (by omega))
  ·omega
 obtain ⟨o2,ho2,hnl2,hpre2,hLst2,hcl3,_,hsz2⟩:=BJ hsz hcl2 hir2
 have hlt2:=(List.getElem?_eq_some_iff.1 ho2).1
 have hi2:i=pre.length+1:=by
  rcases Nat.lt_trichotomy i (pre.length+1) with h1|h1|h1
  ·exfalso
   refine hnl2 ((hLst i).2 ?_)
   rcases Nat.lt_or_ge i pre.length with h3|h3
   ·exact .inl (hb i h3)
   ·exact .inr (by omega)
  ·exact h1
  ·omega
 subst hi2
 unfold wpOpIn
 rw [show (pre++[y,z]).toArray[pre.length+1]? = some z by simp]
 simp only [hwz,if_true]
 refine Oper.wpIn_mono (fun a3 w3 h3=>?_) h2
 refine ⟨?_,h3⟩
 cases hr:Region.ready .any (pre++[y,z]).toArray ((D.setIfInBounds pre.length true).setIfInBounds (pre.length+1) true) with
 | nil=>rfl
 | cons i r =>
   exfalso
   have hm:i∈Region.ready .any (pre++[y,z]).toArray ((D.setIfInBounds pre.length true).setIfInBounds (pre.length+1) true):=by rw [hr];simp
   obtain ⟨o4,ho4,hnl4,_⟩:=BJ hsz2 hcl3 hm
   have hlt4:=(List.getElem?_eq_some_iff.1 ho4).1
   refine hnl4 ((hLst2 i).2 ?_)
   rcases Nat.lt_trichotomy i pre.length with h1|h1|h1
   ·exact .inl ((hLst i).2 (.inl (hb i h1)))
   ·exact .inl ((hLst i).2 (.inr h1))
   ·exact .inr (by omega)
end
end Abs
end Go.Proofs.YtccgngldoinokaaGreat

namespace Go.Proofs.YtccgngldoinokaaGreat
namespace Abs
open Go Go.RowKit
section
variable {P:Program} {S:Sums} {C C':Cx} {w w':World} {A:YA} {J Jx:Nat->World->Prop} {sz0:Nat}
theorem Z4 {op:Op} {d:Nat} {args:List Operand} (h:M8 op=some (d,args)):∃ c,op=.call c/\c.callee=.value (.tmp d)/\c.args.toList=args:=by
 unfold M8 at h
 split at h
 ·rename_i c
  split at h
  ·rename_i d' hd
   injection h with h;injection h with h1 h2;subst h1 h2
   exact ⟨c,rfl,hd,rfl⟩
  ·cases h
 ·cases h
theorem pD {op:Op} {e:Nat} (h:jH op=some e):∃ t,op=.unOp .not t (.tmp e):=by
 unfold jH at h
 split at h
 ·injection h with h;subst h;exact ⟨_,rfl⟩
 ·cases h
theorem V7 {ops:List Oper} {y:YCall} (h:TH ops=some y):∃ oy oz,ops=ops.take (ops.length-2)++[oy,oz]/\2<=ops.length/\M8 oy.op=some (y.d,y.args)/\jH oz.op=some y.yd/\oy.dst=some y.yd/\oz.dst=some y.zd/\oy.guard=none/\oz.guard=none/\y.yd≠y.zd:=by
 unfold TH at h
 split at h
 ·cases h
 ·rename_i oy oz hl
  obtain ⟨h1,h2⟩:=SO hl
  split at h
  ·rename_i d args e hc hn
   split at h
   ·rename_i yd zd e1 e2 e3 e4
    split at h
    ·rename_i hb
     injection h with h;subst h
     simp only [Bool.and_eq_true,Bool.not_eq_true'] at hb
     obtain ⟨⟨_,hb2⟩,hb3⟩:=hb
     obtain rfl:=Nat.eq_of_beq_eq_true hb2
     refine ⟨oy,oz,h2,h1,hc,hn,e1,e2,e3,e4,fun e=>?_⟩
     simp only at e
     rw [e] at hb3;simp at hb3
    ·cases h
   ·cases h
  ·cases h
theorem d9 {l:Nat} (hc:YCtx P A C J Jx sz0 l) {R:AV->A0->Prop} {Qv:List AV->Option Nat->VC} {fr fr1:List AV} {k:Nat} {act a1:Act} {w1:World} {C1:Cx} {ops:List Oper} {oy oz:Oper} {y:YCall} {Q:Act->World->Prop} {Q':Exit->Act->World->Prop}
  (hi:InvY A C J Jx sz0 fr (some k) act w) (hF:FR [] C1 w1 fr1 a1.tmps) (hH:HR C1 [] w1) (ht:Tr 0 C w C1 w1) (hk:RegKept (Am ops) act a1) (hlen:fr1.length=fr.length) (hW:∀ t,t<A.ps.length->Nat.testBit (Am ops) t=false)
  (e1:M8 oy.op=some (y.d,y.args)) (e2:jH oz.op=some y.yd) (e3:oy.dst=some y.yd) (e4:oz.dst=some y.zd) (e5:y.yd≠y.zd) (ho:Ep [oy,oz] (RegKept (Am ops) act)) (hlt:y.yd<act.tmps.size)
  (h:(tF A (Am ops) fr y fr1 k Qv).sat R) (hgoal:∀ fr' k' act' w',(Qv fr' k').sat R->InvY A C J Jx sz0 fr' k' act' w'->Q act' w') :
  oy.wpIn (Fa none) 0 P a1 w1 (fun a2 w2=>oz.wpIn (Fa none) 0 P a2 w2 (fun a3 w3=>Q a3 w3) Q') Q':=by
 have hq:=O5 hc.ρ hc.O ht
 have hb1:∀ b,C.I b->w1.heap[b]? = w.heap[b]?:=fun b hb=>hq.keep b (Nat.lt_of_lt_of_le (hc.I b hb) hi.size)
 obtain ⟨hY,hkn,h⟩:=h
 simp only [AK,Ae] at h
 have h:=H4 (JZ 6) _ _ _ _ id h
 obtain ⟨h,himp⟩:=Ez h
 obtain ⟨c,hop,hcal,hargs⟩:=Z4 e1
 obtain ⟨tz,hoz⟩:=pD e2
 have hyv:a1.tmps.getD y.d undef=.func (.yield l) #[] #[]:=by
  have:=(hF.get y.d).1
  rw [show A4 fr1 y.d=.v A.Y from hY] at this
  rw [<- hc.Y]
  generalize a1.tmps.getD y.d undef=v at this
  cases this;rfl
 have hvs:RelL C1 w1 (QL (ev fr1) y.args) (y.args.map a1.eval):=HT fun x _=>(EL x fun t _=>hF.get t).1
 have hvs2:=(himp C1 w1 hH).2 _ hvs
 have hρ1:=pE hH
 have hvs3:RelL ⟨fun _=>none,C1.I,fun _=>none⟩ w1 (A.it k) (y.args.map a1.eval):=hvs2.mono ⟨fun i p hp=>(by
  unfold Cx.cut at hp
  simp only at hp
  split at hp
  ·rw [hρ1] at hp;cases hp
  ·cases hp),fun b hb=>(by
  rcases hb with hb|⟨i,c,n,_,hb⟩
  ·exact hb
  ·rw [hρ1] at hb;cases hb),fun _ _=>rfl⟩
 obtain ⟨fn,tmps,asg,bd,hrun,hround⟩:=hc.hY k w w1 C1.I _ hkn hi.st hq ht.imm (fun b hb=>by
  rcases ht.imm' b hb with h1|(h1|⟨x,h1⟩)|⟨i,c,n,_,h1⟩
  ·exact .inl h1
  ·exact .inr ⟨h1,hH.ilt b hb⟩
  ·rw [hc.O] at h1;cases h1
  ·rw [hc.ρ] at h1;cases h1) hvs3
 have hsem:(oy.semAt (Fa none).round a1.eval).run P w1=.ok (.round l fn tmps asg bd) w1:=by
  have e:(⟨y.args.map a1.eval⟩:Array Value) = #[]++c.args.map a1.eval:=by
   apply Array.ext';simp [hargs]
  rw [e] at hrun
  have hev:a1.eval (.tmp y.d)=.func (.yield l) #[] #[]:=hyv
  rw [Oper.semAt_eq _ _ _ (by intro c' hc';rw [hop] at hc';cases hc')]
  unfold execOp
  rw [hop]
  simp only [resolve,hcal,hev,Deferred.ofValue]
  simpa [invoke] using hrun
 refine ⟨fun _ _=>trivial,?_⟩
 rw [hsem,Oper.uponIn_round]
 refine ⟨fun hh=>by simp [Fa,Fence.wide] at hh,hround.mono ?_⟩
 rintro e w2 ⟨hb2,hs2,hres⟩
 have hb3:∀ b,C.I b->w2.heap[b]? = w.heap[b]?:=fun b hb=>(hb2 b (ht.imm b hb |> fun _=>hb)).trans (hb1 b hb)
 have hs3:w.heap.size<=w2.heap.size:=Nat.le_trans hq.size hs2
 have step:∀ b:Bool,(match (if b then some (k+1) else none:Option Nat) with|some k=>J k w2|none=>∃ k,k<A.n/\Jx k w2) ->
   (Qv (GN (Am ops) 0 fr (Ay (Ay fr1 y.yd (.lb b)) y.zd (.lb (!b)))) (if b then some (k+1) else none)).sat R ->
   oz.wpIn (Fa none) 0 P (a1.put oy.dst (.bool b)) w2 (fun a3 w3=>Q a3 w3) Q':=by
  intro b hst hsat
  have hF2:FR [] C1 w1 (Ay fr1 y.yd (.lb b)) (a1.put oy.dst (.bool b)).tmps:=by rw [e3];exact hF.put (a:=.lb b) (.plain (.lb _) trivial) (some y.yd)
  have hF3:FR [] C1 w1 (Ay (Ay fr1 y.yd (.lb b)) y.zd (.lb (!b))) ((a1.put oy.dst (.bool b)).put oz.dst (.bool (!b))).tmps:=by rw [e4];exact hF2.put (a:=.lb (!b)) (.plain (.lb _) trivial) (some y.zd)
  have hget:(a1.put oy.dst (.bool b)).tmps.getD y.yd undef=.bool b:=by
   rw [Dn,e3,if_pos ⟨rfl,by rw [hk.1];exact hlt⟩]
  refine Ran.wpIn (BI (m:=Op.unary .not ((a1.put oy.dst (.bool b)).tmps.getD y.yd undef)) ?_ ⟨.bool (!b),w2,?_,?_⟩)
  ·obtain ⟨dst,op,type,pos,after,guard⟩:=oz
   simp only at hoz
   subst hoz
   rfl
  ·rw [hget];simp [Op.unary]
  ·refine hgoal _ _ _ _ hsat (lU hc hi hF3 hb3 hs3 (W:=Am ops) (ho oz (by simp) _ _ (ho oy (by simp) _ _ hk)) hW (by rw [Ea,Ea,hlen]) hst)
 obtain ⟨ht1,ht2⟩:=h
 simp only [Aq,IB] at ht1 ht2
 rcases hres with ⟨rfl,hj⟩|⟨rfl,hj⟩
 ·refine step true hj ?_
  have:Ii k 1=k+1:=by unfold Ii;rfl
  rw [this] at ht1
  exact ht1
 ·exact step false ⟨k,hkn,hj⟩ (ht2 () trivial)
theorem WH {d:Nat} {o:Oper} {ops:List Oper} (h:o∈ops) (hd:o.dst=some d):Nat.testBit (Am ops) d=true:=WG hd h
theorem dw {ops:List Oper} {n t:Nat} (h:Nat.testBit (Am ops) t=false):Nat.testBit (Am (ops.take n)) t=false:=by
 induction ops generalizing n with
 | nil=>simpa using h
 | cons o l ih =>
   cases n with
   | zero=>simp [Am]
   | succ n =>
     rw [List.take_succ_cons]
     simp only [Am] at h ⊢
     cases hd:o.dst with
     | none=>rw [hd] at h;exact ih h
     | some d =>
       rw [hd] at h
       obtain ⟨h1,h2⟩:=Ij h
       show Nat.testBit (Nat.shiftLeft 1 d ||| Am (l.take n)) t=false
       rw [Nat.testBit_or,h1,ih h2];rfl
theorem RegKept.take {ops:List Oper} {n:Nat} {a a':Act} (h:RegKept (Am (ops.take n)) a a'):RegKept (Am ops) a a':=⟨h.1,fun t ht=>h.2.1 t (dw ht),h.2.2⟩
theorem db {l m:List Oper} {ds:Act->Prop} (h:Ep m ds) (hs:∀ o∈l,o∈m):Ep l ds:=fun o ho=>h o (hs o ho)
theorem fW {f:Nat->Bool} {n:Nat} (h:En f n=true):∀ i,i<n->f i=true:=fun i hi=>Ag h i hi
theorem dx {l m:List Oper} (hs:∀ o∈l,o∈m) {t:Nat} (h:Nat.testBit (Am l) t=true):Nat.testBit (Am m) t=true:=by
 induction l with
 | nil=>simp [Am] at h
 | cons o l ih =>
   simp only [Am] at h
   cases hd:o.dst with
   | none=>rw [hd] at h;exact ih (fun o' ho'=>hs o' (by simp [ho'])) h
   | some d =>
     rw [hd] at h
     simp only at h
     by_cases e:t=d
     ·subst e;exact WH (hs o (by simp)) hd
     ·refine ih (fun o' ho'=>hs o' (by simp [ho'])) ?_
      cases hb:Nat.testBit (Am l) t with
      | true=>rfl
      | false =>
        exfalso
        have h1:Nat.testBit (Nat.shiftLeft 1 d) t=false:=by
         show Nat.testBit (1 <<< d) t=false
         rw [Nat.testBit_shiftLeft]
         by_cases hle:d<=t
         ·have h0:t-d≠0:=fun h=>e (Nat.le_antisymm (Nat.le_of_sub_eq_zero h) hle)
          cases hq:Nat.testBit 1 (t-d) with
          | true=>exact absurd (Nat.testBit_one_eq_true_iff_self_eq_zero.1 hq) h0
          | false=>simp
         ·simp [hle]
        have h2:Nat.testBit (Nat.lor (Nat.shiftLeft 1 d) (Am l)) t=(Nat.testBit (Nat.shiftLeft 1 d) t||Nat.testBit (Am l) t):=Nat.testBit_or ..
        rw [h2,h1,hb] at h;cases h
theorem dA (hS:SumsOK P S) (hm:P.follows .mixedOrders=true) (hl0:S.lo=0) {l:Nat} (hc:YCtx P A C J Jx sz0 l) {R:AV->A0->Prop}:∀ (c:Code),IJ A.ps.length c=true->∀ (fr:List AV) (k:Option Nat) (Qv:AE->List AV->Option Nat->VC) (act:Act) (w:World) (Q:Exit->Act->World->Prop),
  InvY A C J Jx sz0 fr k act w->(dB P S A c fr k Qv).sat R->(∀ e fr' k' act' w',(Qv e fr' k').sat R->InvY A C J Jx sz0 fr' k' act' w'->Q (kr e) act' w')->c.wpIn (Fa none) 0 P Q act w:=by
 have known:∀ {fr:List AV} {k:Option Nat} {act:Act} {w:World},InvY A C J Jx sz0 fr k act w->∀ {d:Nat} {a:AV},A.ps.length<=d->RelG [] C w a (act.tmps.getD d undef)->InvY A C J Jx sz0 (Ay fr d a) k act w:=fun {fr k act w} hi d a hd ha =>
  ⟨hi.F.known ha,fun t ht=>by
   rw [E9,if_neg (fun h=>by have:=h.1;omega)];exact hi.ps t ht,by rw [Ea];exact hi.np,hi.size,hi.st,hi.df⟩
 intro c
 induction c with
 | skip =>
   intro _ fr k Qv act w Q hi h hgoal
   exact wpIn_skip (hgoal .normal fr k act w h hi)
 | region id ops dr =>
   intro hok fr k Qv act w Q hi h hgoal
   simp only [IJ,Bool.and_eq_true] at hok
   obtain ⟨hok,hW⟩:=hok
   have hW:∀ t,t<A.ps.length->Nat.testBit (Am ops.toList) t=false:=fun t ht=>by simpa using fW hW t ht
   have hH:HR C [] w:=cC hc.ρ hc.O fun b hb=>Nat.lt_of_lt_of_le (hc.I b hb) hi.size
   have hds:RegKept (Am ops.toList) act act:=⟨rfl,fun _ _=>rfl,rfl⟩
   have hput:=EV ops.toList act
   unfold dB at h
   split at h
   ·rename_i hsp
    rw [hsp] at hok
    simp only [Iy,Bool.and_eq_true] at hok
    cases dr with
    | false =>
      simp only at h
      have happ:=VX ops.toList
      generalize hpr:Oj ops.toList=pre at *
      generalize hrs:dX ops.toList=rest at *
      have hmw:∀ {l:List Oper},(∀ o∈l,o∈ops.toList)->∀ t,t<A.ps.length->Nat.testBit (Am l) t=false:=fun {l} hl t ht=>by
       cases hb:Nat.testBit (Am l) t with
       | false=>rfl
       | true =>
         have h1:=hW t ht
         rw [dx hl hb] at h1;cases h1
      have hpm:∀ o∈pre,o∈ops.toList:=fun o ho=>by rw [<- happ];exact List.mem_append_left _ ho
      have hrm:∀ o∈rest,o∈ops.toList:=fun o ho=>by rw [<- happ];exact List.mem_append_right _ ho
      have hlen:ops.size=pre.length+rest.length:=by rw [<- Array.length_toList,<- happ,List.length_append]
      apply wpIn_region
      rw [List.range_eq_range',hlen,<- List.range'_append_1]
      have hf0:RegKept (Am pre) act act:=⟨rfl,fun _ _=>rfl,rfl⟩
      have key:=VW (all:=ops.toList) (F:=Fa none) (n:=0) (Q:=Q) (ds:=RegKept (Am pre) act) (R:=R) (e:=0) (tl:=List.range' (0+pre.length) rest.length) ⟨_,rfl⟩ (fun b hb=>Nat.lt_of_lt_of_le (hc.I b hb) hi.size) (fun fr' a' hF' hd' hs'=>by
       rw [Oo] at hs'
       have hlen:fr'.length=fr.length:=by rw [hF'.len,hi.F.len,hd'.1]
       have hl2:(Gz (Am pre) 0 fr fr').length=fr'.length:=SI _ _ _ _ hlen.symm
       have hi1:InvY A C J Jx sz0 (Gz (Am pre) 0 fr fr') k a' w:=by
        refine ⟨⟨by rw [hl2,hF'.len],fun t=>?_⟩,fun t ht=>?_,by rw [hl2,hlen];exact hi.np,hi.size,hi.st,by rw [hd'.2.2,hi.df]⟩
        ·by_cases ht:t<fr'.length
         ·rw [Mk _ _ _ _ _ hlen.symm ht,Nat.zero_add]
          cases hbt:Nat.testBit (Am pre) t with
          | true=>exact hF'.get t
          | false =>
            simp only
            rw [hd'.2.1 t hbt]
            exact hi.F.get t
         ·have e1:A4 (Gz (Am pre) 0 fr fr') t=.tup []:=by rw [DX,List.getD_eq_getElem?_getD,List.getElem?_eq_none (by rw [hl2];omega)];rfl
          have e2:a'.tmps.getD t undef=undef:=by
           rw [Array.getD_eq_getD_getElem?,Array.getElem?_eq_none (by rw [<- hF'.len];omega)];rfl
          rw [e1,e2]
          exact .plain (.tup _ _ .nil) trivial
        ·rw [Mk _ _ _ _ _ hlen.symm (by have:=hi.np;omega),Nat.zero_add,hmw hpm t ht]
         exact hi.ps t ht
       generalize Gz (Am pre) 0 fr fr'=f1 at hs' hi1
       have hds1:RegKept (Am rest) a' a':=⟨rfl,fun _ _=>rfl,rfl⟩
       have hg:Goal P S R (fC (Am rest) f1 fun f=>Qv .normal f k) Q C w (RegKept (Am rest) a'):=by
        intro fr2 hp' C' w' act' h1 h2 h3 h4 h5 h6
        unfold fC at h1
        split at h1
        ·rw [IB] at h1
         have hq:=O5 hc.ρ hc.O h5
         refine hgoal .normal _ _ act' w' h1 (lU hc hi1 h4 (fun b hb=>hq.keep b (Nat.lt_of_lt_of_le (hc.I b hb) hi.size)) hq.size h6 (hmw hrm) (by rw [h4.len,hi1.F.len,h6.1]) ?_)
         have:=hi.st
         cases k with
         | some k=>exact hc.hJ _ _ _ this hq
         | none=>obtain ⟨j,hj,hx⟩:=this;exact ⟨j,hj,hc.hJx _ _ _ hx hq⟩
        ·exact h1.elim
       have hln:I2 pre=pre.length:=K3 pre
       rw [hln] at hs'
       have:=k7 (T':=[]) (all:=ops.toList) hS hok.1 (ro:=none) (rm:=0) rest pre.length [] f1 [] C w a' (by rw [<- happ];simp) (EV rest a') (fun k x hx=>by simp at hx) (by rw [hl0];exact Nat.zero_le _) hH hi1.F hs' hds1 hg
       rw [Nat.zero_add];exact this) pre 0 fr act (fun i hi=>by rw [Nat.zero_add,<- happ,List.getElem?_append_left hi]) (EV pre act) (fun o ho=>ip (l:=ops.toList) o (by rw [hpr];exact ho)) hi.F hf0 h
      simpa using key
    | true =>
      have hg:Goal P S R (fC (Am ops.toList) fr fun f=>Qv .normal f k) Q C w (RegKept (Am ops.toList) act):=by
       intro fr' hp' C' w' act' h1 h2 h3 h4 h5 h6
       unfold fC at h1
       split at h1
       ·rw [IB] at h1
        have hq:=O5 hc.ρ hc.O h5
        refine hgoal .normal _ _ act' w' h1 (lU hc hi h4 (fun b hb=>hq.keep b (Nat.lt_of_lt_of_le (hc.I b hb) hi.size)) hq.size h6 hW (by rw [h4.len,hi.F.len,h6.1]) ?_)
        have:=hi.st
        cases k with
        | some k=>exact hc.hJ _ _ _ this hq
        | none=>obtain ⟨j,hj,hx⟩:=this;exact ⟨j,hj,hc.hJx _ _ _ hx hq⟩
       ·exact h1.elim
      have h2:=hok.2
      simp only [Bool.and_eq_true] at h2
      exact ND hS hm hok.1 h2.1 (ED h2.2) (by rw [hl0];exact Nat.zero_le _) hH hi.F h hput hds hg
   ·rename_i y hsp
    rw [hsp] at hok
    simp only [Bool.and_eq_true] at hok
    obtain ⟨⟨hok,hback⟩,hbar⟩:=hok
    simp only [Iy,Bool.and_eq_true] at hok
    split at h
    case h_2=>exact h.elim
    rename_i k hblt
    have hlt:y.yd<act.tmps.size:=by rw [<- hi.F.len];simpa [Nat.blt_eq] using hblt
    obtain ⟨oy,oz,hsplit,h2len,e1,e2,e3,e4,e5,e6,e7⟩:=V7 hsp
    generalize hpre:ops.toList.take (ops.toList.length-2)=pre at *
    have hplen:pre.length=ops.toList.length-2:=by rw [<- hpre,List.length_take];omega
    have hoy:oy∈ops.toList:=by rw [hsplit];simp
    have hoz:oz∈ops.toList:=by rw [hsplit];simp
    have hyd:A.ps.length<=y.yd:=by
     rcases Nat.lt_or_ge y.yd A.ps.length with hlt|hge
     ·have:=hW _ hlt;rw [WH hoy e3] at this;cases this
     ·exact hge
    let P1:Act->World->Prop:=fun a1 w1=>∃ C1 fr1,HR C1 [] w1/\FR [] C1 w1 fr1 a1.tmps/\Tr 0 C w C1 w1/\RegKept (Am pre) act a1/\(tF A (Am ops.toList) fr y fr1 k fun f k'=>Qv .normal f k').sat R
    have hg:Goal P S R (tG A (Am ops.toList) fr y k fun f k'=>Qv .normal f k') (fX P1) C w (RegKept (Am pre) act):=by
     intro fr' hp' C' w' act' h1 h2 h3 h4 h5 h6
     refine ⟨rfl,C',fr',?_,h4,by rw [<- hl0];exact h5,h6,?_⟩
     ·cases hp' with
      | nil=>exact h3
      | cons b r=>exact h1.elim
     ·cases hp' with
      | nil=>exact h1
      | cons b r=>exact h1.elim
    have hdsp:RegKept (Am pre) act act:=⟨rfl,fun _ _=>rfl,rfl⟩
    have htwo:∀ a1 w1,P1 a1 w1->oy.wpIn (Fa none) 0 P a1 w1 (fun a2 w2=>oz.wpIn (Fa none) 0 P a2 w2 (fun a3 w3=>Q .normal a3 w3) Q) Q:=by
     rintro a1 w1 ⟨C1,fr1,q1,q2,q3,q4,q5⟩
     have q4':RegKept (Am ops.toList) act a1:=by rw [<- hpre] at q4;exact q4.take
     exact d9 hc hi q2 q1 q3 q4' (by rw [q2.len,hi.F.len,q4.1]) hW e1 e2 e3 e4 e7 (db hput fun o ho=>by
       simp at ho;rcases ho with rfl|rfl
       ·exact hoy
       ·exact hoz) hlt q5 fun fr' k' act' w' hs hinv=>hgoal .normal fr' k' act' w' hs hinv
    have hal:ops=(pre++[oy,oz]).toArray:=by rw [<- hsplit]
    have htk:(pre++[oy,oz]).take pre.length=pre:=by simp
    have hputp:=EV pre act
    have AQ:S.lo<=([]:A0).length:=by rw [hl0];exact Nat.zero_le _
    have h2:=hok.2
    cases dr with
    | true =>
      simp only [Bool.and_eq_true] at h2
      have hbk:GH (pre++[oy,oz]):=by rw [<- hsplit];exact ED hback
      have hbr:Dj true (pre++[oy,oz]) pre.length=true:=by
       simp only at hbar
       rw [hsplit] at hbar
       rw [hplen,hsplit];exact hbar
      apply wpIn_region_any hm
      rw [hal]
      have hd:=l6 (ops:=pre.toArray) (w:=w) hS (ro:=none) (rm:=0) (by simpa using hok.1) (by simpa using h2.1) (by simpa using ED h2.2) AQ hH hi.F (by simpa using h) (by simpa using hputp) hdsp hg
      have:=ZD (F:=Fa none) (n:=0) (P:=P) (P1:=P1) (Q:=Q) (all:=pre++[oy,oz]) (k:=pre.length) (m:=2) (by simp) (by rw [htk];exact hok.1) hbk hbr
       (fun a1 w1 hp D hs hcl hb hge=>gp hbk hbr e5 e6 hs hcl hb hge (htwo a1 w1 hp)) pre.length (Array.replicate pre.length false) (Array.replicate (pre++[oy,oz]).length false) act { w with drawn:=w.drawn+1 } (by simp) (by simp)
       (fun i o _ hl=>?_) (fun i hi=>?_) (fun i _ hl=>?_) ?_ ?_
      ·simpa using this
      ·exfalso
       unfold Ac at hl
       rw [Array.getD_eq_getD_getElem?,Array.getElem?_replicate] at hl
       split at hl<;>simp at hl
      ·rw [Array.getD_eq_getD_getElem?,Array.getD_eq_getD_getElem?,Array.getElem?_replicate,Array.getElem?_replicate,if_pos hi,if_pos (by simp;omega)]
      ·unfold Ac at hl
       rw [Array.getD_eq_getD_getElem?,Array.getElem?_replicate] at hl
       split at hl<;>simp at hl
      ·have key:∀ q,q<=pre.length->J3 (fun i=>(Array.replicate pre.length false).getD i false) q=q:=by
        intro q
        induction q with
        | zero=>intro _;rfl
        | succ q ihq =>
          intro hq
          have:(Array.replicate pre.length false).getD q false=false:=by
           rw [Array.getD_eq_getD_getElem?,Array.getElem?_replicate];split<;>rfl
          simp only [J3,this]
          rw [ihq (by omega)];simp;omega
       exact key _ (Nat.le_refl _)
      ·rw [htk];simpa using hd
    | false =>
      apply wpIn_region
      rw [hal]
      have hin:=cA hS (all:=pre) hok.1 (K:=tG A (Am ops.toList) fr y k fun f k'=>Qv .normal f k') (Q:=fX P1) hputp (ro:=none) (rm:=0) pre 0 [] fr [] C w act (by simp) (fun k x hx=>by simp at hx) AQ hH hi.F h hdsp hg
      have hrg:List.range (pre++[oy,oz]).toArray.size=List.range' 0 pre.length++[pre.length,pre.length+1]:=by
       rw [List.range_eq_range']
       have:(pre++[oy,oz]).toArray.size=pre.length+2:=by simp
       rw [this,<- List.range'_append_1]
       simp [List.range'_succ]
      rw [hrg]
      refine LS (all:=pre++[oy,oz]) (k:=pre.length) (P1:=P1) (by simp) (by rw [htk];exact hok.1) (fun a1 w1 hp=>?_) _ (fun i hi=>by simp [List.mem_range'] at hi;omega) act w (by rw [htk];exact hin)
      have gy:(pre++[oy,oz]).toArray[pre.length]? = some oy:=by simp
      have gz:(pre++[oy,oz]).toArray[pre.length+1]? = some oz:=by simp
      have hwy:∀ f,Region.wanted oy f=true:=fun f=>by unfold Region.wanted;rw [e5]
      have hwz:∀ f,Region.wanted oz f=true:=fun f=>by unfold Region.wanted;rw [e6]
      simp only [wpOpsIn,gy,gz,hwy,hwz,if_true]
      exact htwo a1 w1 hp
 | seq a b iha ihb =>
   intro hok fr k Qv act w Q hi h hgoal
   simp only [IJ,Bool.and_eq_true] at hok
   simp only [dB] at h
   refine wpIn_seq (iha hok.1 fr k _ act w _ hi h ?_)
   intro e fr' k' act' w' h1 h2
   cases e with
   | normal=>exact ihb hok.2 fr' k' Qv act' w' Q h2 h1 hgoal
   | exit id=>exact hgoal (.exit id) fr' k' act' w' h1 h2
   | ret=>exact hgoal .ret fr' k' act' w' h1 h2
 | cond c a b iha ihb =>
   intro hok fr k Qv act w Q hi h hgoal
   simp only [IJ,Bool.and_eq_true] at hok
   simp only [dB] at h
   split at h
   case h_2=>exact h.elim
   rename_i d
   split at h
   case h_2=>exact h.elim
   rename_i hdp
   have hdp:A.ps.length<=d:=Nat.le_of_ble_eq_true hdp
   unfold KD at h
   have hd:=(hi.F.get d).1
   split at h
   ·rename_i hv
    rw [hv] at hd
    refine wpIn_cond_true (c:=.tmp d) ?_ (iha hok.1 fr k Qv act w Q hi h hgoal)
    show act.tmps.getD d undef=_
    generalize act.tmps.getD d undef=u at hd;cases hd;rfl
   ·rename_i hv
    rw [hv] at hd
    refine wpIn_cond_false (c:=.tmp d) ?_ (ihb hok.2 fr k Qv act w Q hi h hgoal)
    show act.tmps.getD d undef=_
    generalize act.tmps.getD d undef=u at hd;cases hd;rfl
   ·rename_i t hv
    rw [hv] at hd
    have hvt:act.tmps.getD d undef=.bool t:=by generalize act.tmps.getD d undef=u at hd;cases hd;rfl
    refine wpIn_cond_split (c:=.tmp d) hvt (fun ht=>?_) (fun ht=>?_)
    ·have h1:=h.1 ht
     rw [Aq] at h1
     exact iha hok.1 _ k Qv act w Q (known hi hdp (a:=.lb true) (.plain (by rw [hvt,ht];exact .lb _) trivial)) h1 hgoal
    ·have h1:=h.2 ht
     rw [Aq] at h1
     exact ihb hok.2 _ k Qv act w Q (known hi hdp (a:=.lb false) (.plain (by rw [hvt,ht];exact .lb _) trivial)) h1 hgoal
   ·exact h.elim
 | block id c ih =>
   intro hok fr k Qv act w Q hi h hgoal
   simp only [IJ] at hok
   simp only [dB] at h
   refine wpIn_block (ih hok fr k _ act w _ hi h ?_)
   intro e fr' k' act' w' h1 h2
   cases e with
   | normal=>exact hgoal .normal fr' k' act' w' h1 h2
   | exit j =>
     simp only at h1
     show (if j=id then Q .normal act' w' else Q (.exit j) act' w')
     split at h1
     ·rename_i hj
      rw [if_pos (Nat.eq_of_beq_eq_true hj).symm]
      exact hgoal .normal fr' k' act' w' h1 h2
     ·rename_i hj
      rw [if_neg (fun e=>by subst e;simp at hj)]
      exact hgoal (.exit j) fr' k' act' w' h1 h2
   | ret=>exact hgoal .ret fr' k' act' w' h1 h2
 | loop c ih =>
   intro hok fr k Qv act w Q hi h hgoal
   simp only [IJ] at hok
   simp only [dB] at h
   cases k with
   | none=>exact h.elim
   | some k =>
     obtain ⟨h0,h3⟩:=h
     have enter:∀ {fr:List AV} {g:Nat} {act:Act} {w:World},(KK (leAF 6 0 [] []) fr (A.fr g) (.need ⟨A.q,A.dat g⟩ .done)).sat R->InvY A C J Jx sz0 fr (some g) act w->A.q (A.dat g)/\InvY A C J Jx sz0 (A.fr g) (some g) act w:=by
      intro fr g act w hle hi
      have hH:HR C [] w:=cC hc.ρ hc.O fun b hb=>Nat.lt_of_lt_of_le (hc.I b hb) hi.size
      have hle:=H4 (JZ 6) _ _ _ _ id hle
      obtain ⟨hq,himp⟩:=Ez hle
      have hln:=(himp C w hH).1
      refine ⟨hq.1,⟨by rw [<- hln];exact hi.F.len,fun t=>?_⟩,fun t ht=>hc.fr g t ht,by rw [<- hln];exact hi.np,hi.size,hi.st,hi.df⟩
      have h1:=Mf hle C w hH t _ (hi.F.get t).1
      refine ⟨h1.1.mono ⟨fun i p hp=>?_,fun b hb=>?_,fun _ _=>rfl⟩,fun k b e=>by obtain ⟨x,hx,_⟩:=h1.2 k b e;simp at hx⟩
      ·unfold Cx.cut at hp
       simp only at hp
       split at hp
       ·exact hp
       ·cases hp
      ·rcases hb with hb|⟨i,c,n,_,hb⟩
       ·exact hb
       ·rw [hc.ρ] at hb;cases hb
     obtain ⟨hq,hi⟩:=enter h0 hi
     refine wpIn_loop_ghost (fun m a w1=>∃ g,A.n-g=m/\A.q (A.dat g)/\InvY A C J Jx sz0 (A.fr g) (some g) a w1) (A.n-k) ⟨k,rfl,hq,hi⟩ ?_
     rintro m a w1 ⟨g,rfl,hqg,hi⟩
     have h4:=h3 g hqg
     simp only [Ae] at h4
     refine ih hok _ _ _ a w1 _ hi h4 ?_
     intro e fr' k' act' w' h1 h2
     cases e with
     | normal =>
       cases k' with
       | none=>exact h1.elim
       | some k' =>
         obtain ⟨⟨hlt,hgn⟩,h1⟩:=h1
         obtain ⟨hq',hi'⟩:=enter h1 h2
         simp only at hlt hgn
         exact ⟨A.n-k',by omega,k',rfl,hq',hi'⟩
     | exit id=>exact hgoal (.exit id) fr' k' act' w' h1 h2
     | ret=>exact hgoal .ret fr' k' act' w' h1 h2
 | exit id =>
   intro _ fr k Qv act w Q hi h hgoal
   exact wpIn_exit (hgoal (.exit id) fr k act w h hi)
 | ret =>
   intro _ fr k Qv act w Q hi h hgoal
   exact wpIn_ret (hgoal .ret fr k act w h hi)
 | _ =>
   intro hok
   cases hok
structure SpecI (shs:List Sh) where
 pre:Ad shs->Prop
 n:Ad shs->Nat
 it:Ad shs->Nat->List AV
noncomputable def e_ (shs:List Sh) (sp:SpecI shs):IN:=fun caps=>match Kc shs caps with
 | true=>Jm shs caps fun x=>some ⟨Nf (Iv shs caps) [⟨sp.pre,x⟩],sp.n x,sp.it x⟩
 | false=>none
theorem IterOK.of (hS:SumsOK P S) (hm:P.follows .mixedOrders=true) (hl0:S.lo=0) {shs:List Sh} {sp:SpecI shs} {gf:FuncId} {fn:Func} {c:Code} (hf:P.funcs[gf]? = some fn) (hb:fn.body=some c) (hres:fn.results = #[]) (hok:IJ (shs.length+1) c=true) (hany:La shs=true) (hn:shs.length+1<=fn.ntmps)
  {α:Type} {dat:Ad shs->Nat->α} {q:α->Prop} {fr:Value->Ad shs->Nat->List AV} (hfr:∀ Y x g t,t<shs.length+1->A4 (fr Y x g) t=A4 (.v Y::Ab shs x) t)
  (h:∀ Y x,sp.pre x->(yu P S ⟨.v Y::Ab shs x,Y,sp.n x,sp.it x,fr Y x,dat x,q⟩ fn).sat fun _ _=>True):IterOK P gf (e_ shs sp):=by
 intro caps x hx hpre C0 w lb hρ hI hlb l J Jx hJ hJx hY h0
 obtain ⟨C,hCρ,hCI,hO⟩:∃ C:Cx,C.ρ=C0.ρ/\C.I=C0.I/\∀ b,C.O b=none:=⟨⟨C0.ρ,C0.I,fun _=>none⟩,rfl,rfl,fun _=>rfl⟩
 rw [<- hCρ] at hρ
 rw [<- hCI] at hI hY
 have hlb:RelL C w caps lb:=hlb.mono ⟨fun i p h=>by rw [hCρ];exact h,fun b h=>by rw [hCI];exact h,fun _ _=>rfl⟩
 unfold e_ at hx
 simp only [Gc,IF,HB] at hx
 split at hx
 case h_2=>cases hx
 rename_i hsh
 rw [Ex hsh] at hx
 injection hx with hx;subst hx
 obtain ⟨hp1,hp2⟩:=Fb hpre
 have hsp:=hp2 _ (List.mem_singleton.2 rfl)
 have hlb:=E1 (Fx hsh hp1) hlb
 generalize DP shs caps=x at *
 have hv:=h (.func (.yield l) #[] #[]) x hsp
 refine callsIn_of_wp_marks (F:=Fa none) (n:=0) hf hb trivial ?_ rfl
 unfold yu at hv
 simp only [hb,Ae,Pi] at hv
 let A:YA:=⟨.v (.func (.yield l) #[] #[])::Ab shs x,.func (.yield l) #[] #[],sp.n x,sp.it x,fr (.func (.yield l) #[] #[]) x,dat x,q⟩
 have hA:A.ps=.v (.func (.yield l) #[] #[])::Ab shs x:=rfl
 have hAl:A.ps.length=shs.length+1:=by rw [hA];simp [G7]
 have hps:RelL C w A.ps (.func (.yield l) #[] #[]::lb):=.cons _ _ _ _ (.v _) hlb
 have hng:∀ t,EW (A4 A.ps t):=fun t=>by
  rw [hA]
  cases t with
  | zero=>rw [Ej];trivial
  | succ t=>rw [CO];exact HU hany t
 have hc:YCtx P A C J Jx w.heap.size l:=⟨hρ,hO,hI,hng,fun g t ht=>hfr _ x g t (by rw [hAl] at ht;exact ht),rfl,hJ,hJx,hY⟩
 have hle:=hps.len
 have hpad:∀ (l:List AV) (n:Nat),l.length<=n->KI l n=l++List.replicate (n-l.length) (.tup []):=by
  intro l
  induction l with
  | nil =>
    intro n _
    induction n with
    | zero=>rfl
    | succ n ih=>simp only [KI,ih (by simp)];simp [List.replicate_succ]
  | cons a l ih =>
    intro n hn
    cases n with
    | zero=>simp at hn
    | succ n=>simp only [KI,ih n (by simpa using hn)];simp
 have hnl:A.ps.length<=fn.ntmps:=by omega
 generalize hvs:(.func (.yield l) #[] #[]::lb:List Value)=vs at *
 have hF:FR [] C w (KI A.ps fn.ntmps) ((⟨vs⟩:Array Value)++Array.replicate (fn.ntmps-(⟨vs⟩:Array Value).size) undef):=by
  rw [hpad _ _ hnl]
  refine ⟨by simp [hle],fun t=>?_⟩
  rw [DX,List.getD_eq_getElem?_getD,Array.getD_eq_getD_getElem?]
  by_cases ht:t<A.ps.length
  ·rw [List.getElem?_append_left ht,Array.getElem?_append_left (by simp;omega)]
   have h1:A.ps[t]? = some (A.ps[t]'ht):=List.getElem?_eq_getElem _
   obtain ⟨v,h2,h3⟩:=hps.get h1
   rw [h1]
   simp only [List.getElem?_toArray,h2,Option.getD_some]
   refine .plain h3 ?_
   have:=hng t
   rwa [DX,List.getD_eq_getElem?_getD,h1] at this
  ·rw [List.getElem?_append_right (by omega),Array.getElem?_append_right (by simp;omega)]
   refine .plain ?_ ?_
   ·have e1:((List.replicate (fn.ntmps-A.ps.length) (AV.tup []))[t-A.ps.length]?).getD (.tup [])=.tup []:=by
     rw [List.getElem?_replicate];split<;>rfl
    have e2:((Array.replicate (fn.ntmps-(⟨vs⟩:Array Value).size) undef)[t-(⟨vs⟩:Array Value).size]?).getD undef=undef:=by
     rw [Array.getElem?_replicate];split<;>rfl
    rw [e1,e2]
    exact .tup _ _ .nil
   ·rw [List.getElem?_replicate];split<;>trivial
 have hplen:(KI A.ps fn.ntmps).length=fn.ntmps:=by rw [hpad _ _ hnl];simp;omega
 have hget:∀ t,t<A.ps.length->A4 (KI A.ps fn.ntmps) t=A4 A.ps t:=fun t ht=>by
  rw [hpad _ _ hnl,DX,DX,List.getD_eq_getElem?_getD,List.getD_eq_getElem?_getD,List.getElem?_append_left ht]
 have hi0:InvY A C J Jx w.heap.size (KI A.ps fn.ntmps) (some 0) ⟨(⟨vs⟩:Array Value)++Array.replicate (fn.ntmps-(⟨vs⟩:Array Value).size) undef,[]⟩ w :=
  ⟨hF,hget,by rw [hplen];exact hnl,Nat.le_refl _,h0,rfl⟩
 have hi:InvY A C J Jx w.heap.size (GO A.ps (KI A.ps fn.ntmps)) (some 0) ⟨(⟨vs⟩:Array Value)++Array.replicate (fn.ntmps-(⟨vs⟩:Array Value).size) undef,[]⟩ w :=
  wu hc hi0
 refine dA hS hm hl0 hc c (by rw [hAl];exact hok) _ _ _ _ w _ hi hv ?_
 intro e fr' k' act' w' h1 h2
 have fin:(J (sp.n x) w'\/∃ k,k<sp.n x/\Jx k w')->LeavesInM (Fa none) 0 P fn act'.tmps (fun e W'=>(∃ v,e=.returned v)/\(J (sp.n x) W'\/∃ k,k<sp.n x/\Jx k W')) act'.defers .returning w':=by
  intro hj
  rw [h2.df]
  refine ⟨.tuple #[],?_,⟨_,rfl⟩,hj⟩
  simp [results,hres]
 have st:=h2.st
 cases e with
 | exit id=>exact h1.elim
 | normal =>
   cases k' with
   | none=>exact fin (.inr st)
   | some k'=>exact fin (.inl (by have e:k'=sp.n x:=h1.1;rw [<- e];exact st))
 | ret =>
   cases k' with
   | none=>exact fin (.inr st)
   | some k'=>exact fin (.inl (by have e:k'=sp.n x:=h1.1;rw [<- e];exact st))
end
end Abs
end Go.Proofs.YtccgngldoinokaaGreat

namespace Go.Proofs.YtccgngldoinokaaGreat
namespace Abs
namespace W4
open Go Go.RowKit
noncomputable section
attribute [local irreducible] A2
def rE:Spec [Zk]:=⟨fun ((n,el),_)=>n=1/\HH (el 0).1=true/\HH (el 0).2.1=true,fun ((_,el),_)=>.tup [.agg [.si .i64 (el 0).1,.si .i64 (el 0).2.1],.si .i64 0]⟩
set_option maxRecDepth 100000 in
theorem xI:FnSpec Tryz.prog 96 _ rE:=by
 refine FnSpec.of SQ3_ok mixed (U:=1) (I:=fun _=>[]) Tryz.func96 rfl (by kernel_rfl) rfl rfl (by decide +kernel) ?_
 rintro ⟨⟨n,el⟩,⟨⟩⟩ ⟨(hn:n=1),(h1:HH (el 0).1=true),(h2:HH (el 0).2.1=true)⟩
 unfold A2
 conv=>arg 2;reduce
 simp [rE,vh,Ar,A3,AP,AB,and_assoc,h1,h2]
 omega
noncomputable def SA0:Sums:=⟨(96,A_ _ rE)::SQ3.one,SQ3.two,SQ3.lo,SQ3.eqs,SQ3.its,SQ3.imm⟩
theorem SA0_ok:SumsOK Tryz.prog SA0:=(SQ3_ok.cons Tryz.func96 (by kernel_rfl) (by kernel_rfl) xI)
def rQ:Spec [Y1,Y1]:=⟨fun ((a,b,_),(c,d,_),_)=>Gt a b=true/\Gt c d=true/\HH (a+c)=true/\HH (b+d)=true,fun (((a:Int),(b:Int),_),((c:Int),(d:Int),_),_)=>.tup [.agg [.si .i64 (a+c),.si .i64 (b+d)],.si .i64 0]⟩
theorem XG (s:Sh) (l:List Sh) (a:AV) (m:List AV):DP (s::l) (a::m)=(NO s a,DP l m):=rfl
theorem AI2 (q q':IntKind) (n:Int):NO (.int q) (.si q' n)=n:=rfl
theorem qV (q q':IntKind) (n:Int):NO (.int q) (.li q' n)=n:=rfl
theorem sI (a b c d:AV):AZ 2 [a,b,c,d] 0=[a,b]:=rfl
theorem sH (a b c d:AV):AZ 2 [a,b,c,d] 1=[c,d]:=rfl
theorem zY (a b:AV):AZ 2 [a,b] 0=[a,b]:=rfl
theorem iW (a b c:AV):AZ 1 [a,b,c] 0=[a]:=rfl
theorem Zs (a b c:AV):AZ 1 [a,b,c] 1=[b]:=rfl
theorem iV (a b c:AV):AZ 1 [a,b,c] 2=[c]:=rfl
theorem Zr (a b:AV):AZ 1 [a,b] 0=[a]:=rfl
theorem Zq (a b:AV):AZ 1 [a,b] 1=[b]:=rfl
section
attribute [local irreducible] DP
set_option maxRecDepth 100000 in
theorem xQ:FnSpec Tryz.prog 77 _ rQ:=by
 refine FnSpec.of SA0_ok mixed (U:=0) (I:=fun _=>[]) Tryz.func77 rfl (by kernel_rfl) rfl rfl (by decide +kernel) ?_
 rintro ⟨⟨(a:Int),(b:Int),⟨⟩⟩,⟨(c:Int),(d:Int),⟨⟩⟩,⟨⟩⟩ ⟨(h1:Gt a b=true),(h2:Gt c d=true),(h3:HH (a+c)=true),(h4:HH (b+d)=true)⟩
 unfold A2
 conv=>arg 2;reduce
 have q3 : -1099511627776<=a+c/\a+c<=1099511627776:=by unfold HH at h3;simp at h3;exact h3
 have q4 : -1099511627776<=b+d/\b+d<=1099511627776:=by unfold HH at h4;simp at h4;exact h4
 have hk:∀ k,k<2->EO [Sh.int IntKind.i64,Sh.int IntKind.i64] (AZ 2 [AV.si IntKind.i64 a,AV.si IntKind.i64 b,AV.si IntKind.i64 c,AV.si IntKind.i64 d] k):=fun k hk=>by
  rcases (show k=0\/k=1 by omega) with rfl|rfl<;>simp [sI,sH]
 simp [rQ,rE,TC,sI,sH,zY,XG,AI2,Ar,A3,AP,AB,and_assoc,h1,h2,h3,h4,maxLen]
 exact ⟨hk,by omega⟩
end
def g_:Spec [.int .i64,.int .i64,.int .i64]:=⟨fun _=>True,fun ((x:Int),(lo:Int),(hi:Int),_)=>.sb (Mh lo x hi)⟩
set_option maxRecDepth 100000 in
theorem tH:FnSpec Tryz.prog 98 _ g_:=by
 refine FnSpec.of SQ3_ok mixed (U:=0) (I:=fun _=>[]) Tryz.func98 rfl (by kernel_rfl) rfl rfl (by decide +kernel) ?_
 rintro ⟨(x:Int),(lo:Int),(hi:Int),⟨⟩⟩ -
 unfold A2
 conv=>arg 2;reduce
 simp [g_,Mh]
def qI:Spec [.int .i64,.int .i64]:=⟨fun ((n:Int),(d:Int),_)=>n=50/\d=10,fun _=>.si .i64 5⟩
set_option maxRecDepth 100000 in
theorem w8:FnSpec Tryz.prog 99 _ qI:=by
 refine FnSpec.of SQ3_ok mixed (U:=0) (I:=fun _=>[]) Tryz.func99 rfl (by kernel_rfl) rfl rfl (by decide +kernel) ?_
 rintro ⟨(n:Int),(d:Int),⟨⟩⟩ ⟨(h1:n=50),(h2:d=10)⟩
 subst h1 h2
 unfold A2
 conv=>arg 2;reduce
 simp [qI]
noncomputable def SA1:Sums:=⟨(99,A_ _ qI)::(98,A_ _ g_)::SQ3.one,SQ3.two,SQ3.lo,SQ3.eqs,SQ3.its,SQ3.imm⟩
theorem SA1_ok:SumsOK Tryz.prog SA1:=((SQ3_ok.cons Tryz.func98 (by kernel_rfl) (by kernel_rfl) tH).cons Tryz.func99 (by kernel_rfl) (by kernel_rfl) w8)
@[reducible]def sG:Sh:=.agg [.int .i64,.int .i64,.int .i64,.int .i64]
def qh:Spec [sG]:=⟨fun (((a:Int),(b:Int),(c:Int),(d:Int),_),_)=>a=3/\b=10/\c=0/\d=100,fun _=>.si .i64 0⟩
set_option maxRecDepth 100000 in
theorem wO:FnSpec Tryz.prog 97 _ qh:=by
 refine FnSpec.of SA1_ok mixed (U:=0) (I:=fun _=>[]) Tryz.func97 rfl (by kernel_rfl) rfl rfl (by decide +kernel) ?_
 rintro ⟨⟨(a:Int),(b:Int),(c:Int),(d:Int),⟨⟩⟩,⟨⟩⟩ ⟨(h1:a=3),(h2:b=10),(h3:c=0),(h4:d=100)⟩
 subst h1 h2 h3 h4
 unfold A2
 conv=>arg 2;reduce
 simp [qh,g_]
noncomputable def SA2:Sums:=⟨(97,A_ _ qh)::SA1.one,SA1.two,SA1.lo,SA1.eqs,SA1.its,SA1.imm⟩
theorem yJ:SumsOK Tryz.prog SA2:=(SA1_ok.cons Tryz.func97 (by kernel_rfl) (by kernel_rfl) wO)
def na:Spec [sG,.int .i64,.int .i64]:=⟨fun (((a:Int),(b:Int),(c:Int),(d:Int),_),(x:Int),(n:Int),_)=>(a=3/\b=10/\c=0/\d=100)/\x=42/\n=3,fun _=>.tup [.si .i64 50,.si .i64 0]⟩
set_option maxRecDepth 100000 in
theorem u6:FnSpec Tryz.prog 78 _ na:=by
 refine FnSpec.of yJ mixed (U:=0) (I:=fun _=>[]) Tryz.func78 rfl (by kernel_rfl) rfl rfl (by decide +kernel) ?_
 rintro ⟨⟨(a:Int),(b:Int),(c:Int),(d:Int),⟨⟩⟩,(x:Int),(n:Int),⟨⟩⟩ ⟨⟨(h1:a=3),(h2:b=10),(h3:c=0),(h4:d=100)⟩,(h5:x=42),(h6:n=3)⟩
 subst h1 h2 h3 h4 h5 h6
 unfold A2
 conv=>arg 2;reduce
 simp [na,qh,g_,qI]
 decide
@[reducible]def Dw:Sh:=.slice 1 [.int .i64]
def lvS:Spec [Dw]:=⟨fun ((n,el),_)=>1<=n/\n<=16/\∀ k,k<n->0<=(el k).1/\(el k).1<=100,fun _=>.si .i64 0⟩
def lvI:Ad [Dw]->Cz:=fun ((n,_),_)=>[
 (4,[],fun fr hp=>⟨Nat,fun g=>⟨J1 [.k 4,.t 1,.k 10,.s (.si .i64 (Em g)),.t 10] fr,hp⟩,Nat × Nat,fun g=>(n,g),fun (n,g)=>g<=n,fun g=>Hb n g⟩)]
set_option maxRecDepth 100000 in
theorem AF7:FnSpec Tryz.prog 100 _ lvS:=by
 refine FnSpec.of SQ3_ok mixed (U:=0) (I:=lvI) Tryz.func100 rfl (by kernel_rfl) rfl rfl (by decide +kernel) ?_
 rintro ⟨⟨n,el⟩,⟨⟩⟩ ⟨(hn:1<=n),(hn':n<=16),(h3:∀ k,k<n->0<=(el k).1/\(el k).1<=100)⟩
 obtain ⟨c,rfl⟩:∃ c:Nat->Int,el=fun k=>(c k,()):=⟨fun k=>(el k).1,rfl⟩
 unfold A2
 conv=>arg 2;reduce
 simp [lvS,Ar,A3,AP,AB,and_assoc]
 have h3:∀ k,k<n->0<=c k/\c k<=100:=h3
 refine ⟨by omega,by omega,fun _ _=>⟨⟨0,rfl,by omega⟩,fun g hg hlt=>?_⟩⟩
 have:=h3 g hlt
 exact ⟨hlt,this.1,this.2,fun _ _=>⟨by omega,by omega,g+1,by omega,by omega,by omega⟩⟩
def flS:Spec [Dw,Dw]:=⟨fun ((n,_),(m,f),_)=>m+1=n/\n<=16/\∀ k,k<m -> -2000<=(f k).1/\(f k).1<=2000,fun _=>.si .i64 0⟩
def flI:Ad [Dw,Dw]->Cz:=fun ((n,_),(m,f),_)=>[
 (4,[],fun fr hp=>⟨Nat,fun g=>⟨J1 [.k 6,.t 1,.k 8,.s (.si .i64 (Em g)),.t 10] fr,hp⟩,Nat × Nat,fun g=>(m,g),fun (m,g)=>g<=m,fun g=>Hb m g⟩)]
set_option maxRecDepth 100000 in
theorem AI0:FnSpec Tryz.prog 101 _ flS:=by
 refine FnSpec.of SQ3_ok mixed (U:=0) (I:=flI) Tryz.func101 rfl (by kernel_rfl) rfl rfl (by decide +kernel) ?_
 rintro ⟨⟨n,el⟩,⟨m,f'⟩,⟨⟩⟩ ⟨(hn:m+1=n),(hn':n<=16),(h4:∀ k,k<m -> -2000<=(f' k).1/\(f' k).1<=2000)⟩
 obtain ⟨c,rfl⟩:∃ c:Nat->Int,el=fun k=>(c k,()):=⟨fun k=>(el k).1,rfl⟩
 obtain ⟨f,rfl⟩:∃ f:Nat->Int,f'=fun k=>(f k,()):=⟨fun k=>(f' k).1,rfl⟩
 unfold A2
 conv=>arg 2;reduce
 simp [flS,Ar,A3,AP,AB,and_assoc]
 have h4:∀ k,k<m -> -2000<=f k/\f k<=2000:=h4
 refine ⟨by omega,by omega,by omega,fun _=>⟨⟨0,rfl,by omega⟩,fun g hg hlt=>?_⟩⟩
 have:=h4 g hlt
 exact ⟨hlt,this.1,this.2,fun _ _=>⟨by omega,by omega,g+1,by omega,by omega,by omega⟩⟩
@[irreducible]def X7 (m:Nat) (f:Nat->Int) (k:Nat):Int:=if k<m then f k else 0
theorem Lx {m k:Nat} {f:Nat->Int} (h:k<m):X7 m f k=f k:=by unfold X7;rw [if_pos h]
theorem Pj {m k:Nat} {f:Nat->Int} (h:m<=k):X7 m f k=0:=by unfold X7;rw [if_neg (by omega)]
def AG8 (m:Nat) (f:Nat->Int):Nat->Int
 | 0=>0
 | k+1=>X7 m f k
@[irreducible]def PX (m:Nat) (f:Nat->Int) (k:Nat):Int:=AG8 m f k
@[simp]theorem yc (m:Nat) (f:Nat->Int):PX m f 0=0:=by unfold PX;rfl
@[simp]theorem SP (m:Nat) (f:Nat->Int) (k:Nat):PX m f (k+1)=X7 m f k:=by unfold PX;rfl
@[irreducible]def t_ (c:Nat->Int) (m:Nat) (f:Nat->Int) (k:Nat):Int:=c k+PX m f k-X7 m f k
theorem Z8 (c:Nat->Int) (m:Nat) (f:Nat->Int) (k:Nat):t_ c m f k=c k+PX m f k-X7 m f k:=by unfold t_;rfl
theorem pm {m:Nat} {f:Nat->Int} (h:∀ k,k<m -> -2000<=f k/\f k<=2000):∀ g:Nat,-2000<=PX m f g/\PX m f g<=2000
 | 0=>by simp
 | g+1=>by
   rw [SP]
   by_cases hg:g<m
   ·rw [Lx hg];exact h g hg
   ·rw [Pj (by omega)];omega
def mvS:Spec [Dw,Dw]:=⟨fun _=>True,fun (c,f,_)=>.fn (.func 129) [] [.xp [enc Dw c],.xp [enc Dw f]]⟩
set_option maxRecDepth 100000 in
theorem mv_ok:FnSpec Tryz.prog 112 _ mvS:=by
 refine FnSpec.of SQ3_ok mixed (U:=0) (I:=fun _=>[]) Tryz.func112 rfl (by kernel_rfl) rfl rfl (by decide +kernel) ?_
 rintro ⟨⟨n,el⟩,⟨m,f'⟩,⟨⟩⟩ -
 unfold A2
 conv=>arg 2;reduce
 simp [mvS,enc,Ab,ownIn,ownIn.ownInL,kj,A3,AP,AB,AO,Ar]
def il:Nat->List AV->List AV
 | 0,l=>l
 | n+1,l=>.top::il n l
def mvI:SpecI [.ptr [Dw],.ptr [Dw]]:=⟨fun (((n,c),_),((m,f),_),_)=>n<=16/\m<=16/\(∀ k,k<n->0<=(c k).1/\(c k).1<=100)/\∀ k,k<m -> -2000<=(f k).1/\(f k).1<=2000,fun (((n,_),_),_,_)=>n,
 fun (((_,c),_),((m,f),_),_) i=>[.si .i64 (Em i),.si .i64 (t_ (fun k=>(c k).1) m (fun k=>(f k).1) i)]⟩
def mvF (Y:Value) (x:Ad [.ptr [Dw],.ptr [Dw]]) (g:Nat):List AV:=.v Y::.xp (Ab [Dw] x.1)::.xp (Ab [Dw] x.2.1)::.top::.si .i64 (PX x.2.1.1.1 (fun k=>(x.2.1.1.2 k).1) g)::il 3 (enc Dw x.1.1::.si .i64 (Em x.1.1.1)::.si .i64 (Em g)::il 23 [])
set_option maxRecDepth 100000 in
set_option maxHeartbeats 2000000 in
theorem ud:IterOK Tryz.prog 129 (e_ [.ptr [Dw],.ptr [Dw]] mvI):=by
 refine IterOK.of SQ3_ok mixed rfl Tryz.func129 rfl rfl (by decide +kernel) rfl (by decide) (dat:=fun x g=>(g,x.1.1.1)) (q:=fun z:Nat × Nat=>z.1<=z.2) (fr:=mvF) (fun Y x g t ht=>?_) ?_
 ·have:t=0\/t=1\/t=2:=by simp at ht;omega
  rcases this with rfl|rfl|rfl<;>rfl
 rintro Y ⟨⟨⟨n,c'⟩,⟨⟩⟩,⟨⟨m,f'⟩,⟨⟩⟩,⟨⟩⟩ ⟨(h1:n<=16),(h2:m<=16),(h3:∀ k,k<n->0<=(c' k).1/\(c' k).1<=100),(h4:∀ k,k<m -> -2000<=(f' k).1/\(f' k).1<=2000)⟩
 obtain ⟨c,rfl⟩:∃ c:Nat->Int,c'=fun k=>(c k,()):=⟨fun k=>(c' k).1,rfl⟩
 obtain ⟨f,rfl⟩:∃ f:Nat->Int,f'=fun k=>(f k,()):=⟨fun k=>(f' k).1,rfl⟩
 conv=>arg 2;reduce
 simp [Gp,ua,Ar,and_assoc]
 have h3:∀ k,k<n->0<=c k/\c k<=100:=h3
 have h4:∀ k,k<m -> -2000<=f k/\f k<=2000:=h4
 have e1:(fun k=>c k)=c:=rfl
 have e2:(fun k=>f k)=f:=rfl
 simp only [e1,e2]
 intro g hg
 have a:=pm (m:=m) (f:=f) h4 g
 refine ⟨fun hlt=>⟨hlt,fun hm=>?_,fun hm=>?_⟩,fun h=>by omega⟩
 ·have b:=h3 g hlt
  have d:=h4 g hm
  have e3:t_ c m f g=c g+PX m f g-f g:=by rw [Z8,Lx hm]
  rw [e3,Lx hm]
  exact ⟨hm,by omega,by omega,by omega,by omega,hlt,rfl,by omega,by omega,hlt,rfl,by omega⟩
 ·have b:=h3 g hlt
  have e3:t_ c m f g=c g+PX m f g:=by rw [Z8,Pj hm];omega
  rw [e3,Pj hm]
  exact ⟨by omega,by omega,by omega,by omega,hlt,rfl,by omega,by omega,hlt,rfl,by omega⟩
noncomputable def SA3:Sums:=⟨(112,A_ _ mvS)::(101,A_ _ flS)::(100,A_ _ lvS)::SQ3.one,SQ3.two,SQ3.lo,SQ3.eqs,SQ3.its,SQ3.imm⟩
theorem SA3_ok:SumsOK Tryz.prog SA3:=(((SQ3_ok.cons Tryz.func100 (by kernel_rfl) (by kernel_rfl) AF7).cons Tryz.func101 (by kernel_rfl) (by kernel_rfl) AI0).cons Tryz.func112 (by kernel_rfl) (by kernel_rfl) mv_ok)
noncomputable def SA4:Sums:=⟨SA3.one,SA3.two,SA3.lo,SA3.eqs,(129,e_ [.ptr [Dw],.ptr [Dw]] mvI)::SA3.its,SA3.imm⟩
theorem yI:SumsOK Tryz.prog SA4:=SA3_ok.addIt Tryz.func129 (by kernel_rfl) (by kernel_rfl) ud
def bhS:Spec [Dw,Dw]:=⟨fun ((n,c),(m,f),_)=>n<=16/\m<=16/\(∀ k,k<n->0<=(c k).1/\(c k).1<=100)/\∀ k,k<m -> -2000<=(f k).1/\(f k).1<=2000,fun ((n,c),(m,f),_)=>.slc (.sym n) 1 (fun k=>[.si .i64 (t_ (fun k=>(c k).1) m (fun k=>(f k).1) k)])⟩
def bhI:Ad [Dw,Dw]->Cz:=fun ((n,c),(m,f),_)=>[
 (3,[],fun fr hp=>⟨Nat,fun g=>⟨J1 [.k 7,.t 14] fr,AM hp 0 (.row 3 1 (.sym g) (fun k=>[.si .i64 (t_ (fun k=>(c k).1) m (fun k=>(f k).1) k)]))⟩,Nat × Nat,fun g=>(n,g),fun (n,g)=>g<=n,fun g=>g⟩)]
set_option maxRecDepth 100000 in
theorem AI8:FnSpec Tryz.prog 102 _ bhS:=by
 refine FnSpec.of yI mixed (U:=0) (I:=bhI) Tryz.func102 rfl (by kernel_rfl) rfl rfl (by decide +kernel) ?_
 rintro ⟨⟨n,c'⟩,⟨m,f'⟩,⟨⟩⟩ ⟨(h1:n<=16),(h2:m<=16),(h3:∀ k,k<n->0<=(c' k).1/\(c' k).1<=100),(h4:∀ k,k<m -> -2000<=(f' k).1/\(f' k).1<=2000)⟩
 obtain ⟨c,rfl⟩:∃ c:Nat->Int,c'=fun k=>(c k,()):=⟨fun k=>(c' k).1,rfl⟩
 obtain ⟨f,rfl⟩:∃ f:Nat->Int,f'=fun k=>(f k,()):=⟨fun k=>(f' k).1,rfl⟩
 unfold A2
 conv=>arg 2;reduce
 simp [bhS,Ar,A3,AP,AB,CV,and_assoc]
 have h3:∀ k,k<n->0<=c k/\c k<=100:=h3
 have h4:∀ k,k<m -> -2000<=f k/\f k<=2000:=h4
 have e1:(fun k=>c k)=c:=rfl
 have e2:(fun k=>f k)=f:=rfl
 simp only [e1,e2]
 exact ⟨by omega,h1,h2,h3,h4,fun g hg=>⟨fun hlt=>⟨by omega,fun j hj=>rG hj (fun _=>rfl) (fun e=>by subst e;rfl),by omega⟩,fun h=>by omega⟩⟩
noncomputable def SA5:Sums:=⟨(102,A_ _ bhS)::SA3.one,SA3.two,SA3.lo,SA3.eqs,SA3.its,SA3.imm⟩
theorem yH:SumsOK Tryz.prog SA5:=(SA3_ok.cons Tryz.func102 (by kernel_rfl) (by kernel_rfl) AI8)
def bfS:Spec [Dw,Dw]:=⟨fun ((n,c),(m,f),_)=>(1<=n/\n<=16/\m+1=n)/\(∀ k,k<n->0<=(c k).1/\(c k).1<=100)/\∀ k,k<m -> -2000<=(f k).1/\(f k).1<=2000,fun ((n,c),(m,f),_)=>.tup [.slc (.sym n) 1 (fun k=>[.si .i64 (t_ (fun k=>(c k).1) m (fun k=>(f k).1) k)]),.si .i64 0]⟩
set_option maxRecDepth 100000 in
theorem AI9:FnSpec Tryz.prog 79 _ bfS:=by
 refine FnSpec.of yH mixed (U:=0) (I:=fun _=>[]) Tryz.func79 rfl (by kernel_rfl) rfl rfl (by decide +kernel) ?_
 rintro ⟨⟨n,c'⟩,⟨m,f'⟩,⟨⟩⟩ ⟨⟨(h0:1<=n),(h1:n<=16),(h2:m+1=n)⟩,(h3:∀ k,k<n->0<=(c' k).1/\(c' k).1<=100),(h4:∀ k,k<m -> -2000<=(f' k).1/\(f' k).1<=2000)⟩
 obtain ⟨c,rfl⟩:∃ c:Nat->Int,c'=fun k=>(c k,()):=⟨fun k=>(c' k).1,rfl⟩
 obtain ⟨f,rfl⟩:∃ f:Nat->Int,f'=fun k=>(f k,()):=⟨fun k=>(f' k).1,rfl⟩
 unfold A2
 conv=>arg 2;reduce
 simp [bfS,lvS,flS,bhS,Ar,A3,AP,AB,CV,and_assoc]
 have h3:∀ k,k<n->0<=c k/\c k<=100:=h3
 have h4:∀ k,k<m -> -2000<=f k/\f k<=2000:=h4
 exact ⟨h0,h1,h3,h2,h1,h4,h1,by omega,h3,h4⟩
noncomputable def SA6:Sums:=⟨(79,A_ _ bfS)::(78,A_ _ na)::(77,A_ _ rQ)::SA0.one,SA0.two,SA0.lo,SA0.eqs,SA0.its,SA0.imm⟩
theorem yG:SumsOK Tryz.prog SA6:=(((SA0_ok.cons Tryz.func77 (by kernel_rfl) (by kernel_rfl) xQ).cons Tryz.func78 (by kernel_rfl) (by kernel_rfl) u6).cons Tryz.func79 (by kernel_rfl) (by kernel_rfl) AI9)
section
attribute [local irreducible] DP
def w4S:Spec []:=⟨fun _=>True,fun _=>.sb true⟩
set_option maxRecDepth 100000 in
theorem w4_ok:FnSpec Tryz.prog 47 _ w4S:=by
 refine FnSpec.of yG mixed (U:=0) (I:=fun _=>[]) Tryz.func47 rfl (by kernel_rfl) rfl rfl (by decide +kernel) ?_
 rintro ⟨⟩ -
 unfold A2
 conv=>arg 2;reduce
 simp [w4S,rQ,na,bfS,iW,Zs,iV,Zr,Zq,XG,AI2,qV,Ar,A3,AP,AB,CV,and_assoc]
 have h3:∀ k,k<3->k=0\/k=1\/k=2:=fun k hk=>by omega
 have h2:∀ k,k<2->k=0\/k=1:=fun k hk=>by omega
 refine ⟨by unfold Gt HH;simp,by unfold Gt HH;simp,by unfold HH;simp,by unfold HH;simp,fun k hk=>?_,fun k hk=>?_,fun k hk=>?_,fun k hk=>?_,?_⟩
 ·rcases h3 k hk with rfl|rfl|rfl<;>simp [iW,Zs,iV]
 ·rcases h2 k hk with rfl|rfl<;>simp [Zr,Zq]
 ·rcases h3 k hk with rfl|rfl|rfl<;>simp [iW,Zs,iV,XG,qV]
 ·rcases h2 k hk with rfl|rfl<;>simp [Zr,Zq,XG,qV]
 ·rw [Z8,SP,Lx (show 0<2 by omega),Lx (show 1<2 by omega)]
  simp [Zs,Zr,Zq,XG,qV]
end
end
end W4
end Abs
end Go.Proofs.YtccgngldoinokaaGreat

namespace Go.Proofs.YtccgngldoinokaaGreat
namespace Abs
open Go Go.RowKit
noncomputable section
structure Gd where
 y0:Int
 y1:Int
 y2:Int
 y3:Int
 y4:Int
 y5:Int
 y6:Int
 y7:Int
@[irreducible]def Gd.d0 (z:Gd):Int:=z.y0
@[irreducible]def Gd.d1 (z:Gd):Int:=z.y1
@[irreducible]def Gd.d2 (z:Gd):Int:=z.y2
@[irreducible]def Gd.d3 (z:Gd):Int:=z.y3
@[irreducible]def Gd.d4 (z:Gd):Int:=z.y4
@[irreducible]def Gd.d5 (z:Gd):Int:=z.y5
@[irreducible]def Gd.d6 (z:Gd):Int:=z.y6
@[irreducible]def Gd.op (z:Gd):Int:=z.y7
section
variable (x0 x1 x2 x3 x4 x5 x6 x7:Int)
@[simp]theorem Gd.d0_mk:(Gd.mk x0 x1 x2 x3 x4 x5 x6 x7).d0=x0:=by unfold Gd.d0;rfl
@[simp]theorem Gd.d1_mk:(Gd.mk x0 x1 x2 x3 x4 x5 x6 x7).d1=x1:=by unfold Gd.d1;rfl
@[simp]theorem Gd.d2_mk:(Gd.mk x0 x1 x2 x3 x4 x5 x6 x7).d2=x2:=by unfold Gd.d2;rfl
@[simp]theorem Gd.d3_mk:(Gd.mk x0 x1 x2 x3 x4 x5 x6 x7).d3=x3:=by unfold Gd.d3;rfl
@[simp]theorem Gd.d4_mk:(Gd.mk x0 x1 x2 x3 x4 x5 x6 x7).d4=x4:=by unfold Gd.d4;rfl
@[simp]theorem Gd.d5_mk:(Gd.mk x0 x1 x2 x3 x4 x5 x6 x7).d5=x5:=by unfold Gd.d5;rfl
@[simp]theorem Gd.d6_mk:(Gd.mk x0 x1 x2 x3 x4 x5 x6 x7).d6=x6:=by unfold Gd.d6;rfl
@[simp]theorem Gd.op_mk:(Gd.mk x0 x1 x2 x3 x4 x5 x6 x7).op=x7:=by unfold Gd.op;rfl
end
@[simp]theorem Gd.eta (z:Gd):Gd.mk z.d0 z.d1 z.d2 z.d3 z.d4 z.d5 z.d6 z.op=z:=by unfold Gd.d0 Gd.d1 Gd.d2 Gd.d3 Gd.d4 Gd.d5 Gd.d6 Gd.op;rfl
abbrev yr:=Int × Int × Int × Int × Int × Int × Int × Int × Int × Int × Int × Int × Int × Int × Int × Int × Int × Int × Int × Int × Int × Int × Unit
@[irreducible]def J4 (z:yr):Gd :=
 let (x0,x1,x2,x3,x4,x5,x6,x7,x8,x9,x10,x11,x12,x13,x14,x15,x16,x17,x18,x19,x20,x21,_):=z
 ⟨x11,x12,x13,x14,x15,x16,x17,x20⟩
@[reducible]def J6 (z:Gd):yr:=(4100000,3200000,100000,60000,320000,100000,10000,10000,1000,2000,5000,z.d0,z.d1,z.d2,z.d3,z.d4,z.d5,z.d6,1,5,z.op,1000,())
def Lr (z:Gd):List AV:=[.si .i64 4100000,.si .i64 3200000,.si .i64 100000,.si .i64 60000,.si .i64 320000,.si .i64 100000,.si .i64 10000,.si .i64 10000,.si .i64 1000,.si .i64 2000,.si .i64 5000,.si .i64 z.d0,.si .i64 z.d1,.si .i64 z.d2,.si .i64 z.d3,.si .i64 z.d4,.si .i64 z.d5,.si .i64 z.d6,.si .i64 1,.si .i64 5,.si .i64 z.op,.si .i64 1000]
@[reducible]def Dy:List Sh:=[.int .i64,.int .i64,.int .i64,.int .i64,.int .i64,.int .i64,.int .i64,.int .i64,.int .i64,.int .i64,.int .i64,.int .i64,.int .i64,.int .i64,.int .i64,.int .i64,.int .i64,.int .i64,.int .i64,.int .i64,.int .i64,.int .i64]
theorem Ko (z:Gd):J4 (J6 z)=z:=by unfold J4 J6 Gd.d0 Gd.d1 Gd.d2 Gd.d3 Gd.d4 Gd.d5 Gd.d6 Gd.op;rfl
@[irreducible]def Nu (x:yr):Prop:=x=J6 (J4 x)
theorem gdC_iff {x:yr}:Nu x↔x=J6 (J4 x):=by unfold Nu;exact Iff.rfl
@[simp]theorem AW0 (z:Gd):Nu (4100000,3200000,100000,60000,320000,100000,10000,10000,1000,2000,5000,z.d0,z.d1,z.d2,z.d3,z.d4,z.d5,z.d6,1,5,z.op,1000,()):=gdC_iff.2 (by show J6 z=J6 (J4 (J6 z));rw [Ko])
@[simp]theorem cL (z:Gd):J4 (4100000,3200000,100000,60000,320000,100000,10000,10000,1000,2000,5000,z.d0,z.d1,z.d2,z.d3,z.d4,z.d5,z.d6,1,5,z.op,1000,())=z:=Ko z
structure Sg where
 y0:Bool
 y1:Int
 y2:Int
 y3:Int
 y4:Int
 y5:Int
 y6:Bool
 y7:Int
 y8:Int
 y9:Int
 y10:Int
 y11:Int
 y12:Bool
 y13:Int
 y14:Int
 y15:Int
 y16:Int
 y17:Int
 y18:Bool
 y19:Bool
 y20:Bool
 y21:Bool
 y22:Bool
 y23:Bool
 y24:Bool
 y25:Bool
 y26:Bool
 y27:Int
 y28:Int
 y29:Bool
 y30:Bool
@[irreducible]def Sg.h0 (z:Sg):Bool:=z.y0
@[irreducible]def Sg.v00 (z:Sg):Int:=z.y1
@[irreducible]def Sg.v01 (z:Sg):Int:=z.y2
@[irreducible]def Sg.v02 (z:Sg):Int:=z.y3
@[irreducible]def Sg.v03 (z:Sg):Int:=z.y4
@[irreducible]def Sg.v04 (z:Sg):Int:=z.y5
@[irreducible]def Sg.h1 (z:Sg):Bool:=z.y6
@[irreducible]def Sg.v10 (z:Sg):Int:=z.y7
@[irreducible]def Sg.v11 (z:Sg):Int:=z.y8
@[irreducible]def Sg.v12 (z:Sg):Int:=z.y9
@[irreducible]def Sg.v13 (z:Sg):Int:=z.y10
@[irreducible]def Sg.v14 (z:Sg):Int:=z.y11
@[irreducible]def Sg.h2 (z:Sg):Bool:=z.y12
@[irreducible]def Sg.v20 (z:Sg):Int:=z.y13
@[irreducible]def Sg.v21 (z:Sg):Int:=z.y14
@[irreducible]def Sg.v22 (z:Sg):Int:=z.y15
@[irreducible]def Sg.v23 (z:Sg):Int:=z.y16
@[irreducible]def Sg.v24 (z:Sg):Int:=z.y17
@[irreducible]def Sg.c0 (z:Sg):Bool:=z.y18
@[irreducible]def Sg.c1 (z:Sg):Bool:=z.y19
@[irreducible]def Sg.c2 (z:Sg):Bool:=z.y20
@[irreducible]def Sg.w0 (z:Sg):Bool:=z.y21
@[irreducible]def Sg.w1 (z:Sg):Bool:=z.y22
@[irreducible]def Sg.w2 (z:Sg):Bool:=z.y23
@[irreducible]def Sg.k0 (z:Sg):Bool:=z.y24
@[irreducible]def Sg.k1 (z:Sg):Bool:=z.y25
@[irreducible]def Sg.k2 (z:Sg):Bool:=z.y26
@[irreducible]def Sg.lk (z:Sg):Int:=z.y27
@[irreducible]def Sg.pk (z:Sg):Int:=z.y28
@[irreducible]def Sg.wt (z:Sg):Bool:=z.y29
@[irreducible]def Sg.rs (z:Sg):Bool:=z.y30
section
variable (x0:Bool) (x1 x2 x3 x4 x5:Int) (x6:Bool) (x7 x8 x9 x10 x11:Int) (x12:Bool) (x13 x14 x15 x16 x17:Int) (x18 x19 x20 x21 x22 x23 x24 x25 x26:Bool) (x27 x28:Int) (x29 x30:Bool)
@[simp]theorem Sg.h0_mk:(Sg.mk x0 x1 x2 x3 x4 x5 x6 x7 x8 x9 x10 x11 x12 x13 x14 x15 x16 x17 x18 x19 x20 x21 x22 x23 x24 x25 x26 x27 x28 x29 x30).h0=x0:=by unfold Sg.h0;rfl
@[simp]theorem Sg.v00_mk:(Sg.mk x0 x1 x2 x3 x4 x5 x6 x7 x8 x9 x10 x11 x12 x13 x14 x15 x16 x17 x18 x19 x20 x21 x22 x23 x24 x25 x26 x27 x28 x29 x30).v00=x1:=by unfold Sg.v00;rfl
@[simp]theorem Sg.v01_mk:(Sg.mk x0 x1 x2 x3 x4 x5 x6 x7 x8 x9 x10 x11 x12 x13 x14 x15 x16 x17 x18 x19 x20 x21 x22 x23 x24 x25 x26 x27 x28 x29 x30).v01=x2:=by unfold Sg.v01;rfl
@[simp]theorem Sg.v02_mk:(Sg.mk x0 x1 x2 x3 x4 x5 x6 x7 x8 x9 x10 x11 x12 x13 x14 x15 x16 x17 x18 x19 x20 x21 x22 x23 x24 x25 x26 x27 x28 x29 x30).v02=x3:=by unfold Sg.v02;rfl
@[simp]theorem Sg.v03_mk:(Sg.mk x0 x1 x2 x3 x4 x5 x6 x7 x8 x9 x10 x11 x12 x13 x14 x15 x16 x17 x18 x19 x20 x21 x22 x23 x24 x25 x26 x27 x28 x29 x30).v03=x4:=by unfold Sg.v03;rfl
@[simp]theorem Sg.v04_mk:(Sg.mk x0 x1 x2 x3 x4 x5 x6 x7 x8 x9 x10 x11 x12 x13 x14 x15 x16 x17 x18 x19 x20 x21 x22 x23 x24 x25 x26 x27 x28 x29 x30).v04=x5:=by unfold Sg.v04;rfl
@[simp]theorem Sg.h1_mk:(Sg.mk x0 x1 x2 x3 x4 x5 x6 x7 x8 x9 x10 x11 x12 x13 x14 x15 x16 x17 x18 x19 x20 x21 x22 x23 x24 x25 x26 x27 x28 x29 x30).h1=x6:=by unfold Sg.h1;rfl
@[simp]theorem Sg.v10_mk:(Sg.mk x0 x1 x2 x3 x4 x5 x6 x7 x8 x9 x10 x11 x12 x13 x14 x15 x16 x17 x18 x19 x20 x21 x22 x23 x24 x25 x26 x27 x28 x29 x30).v10=x7:=by unfold Sg.v10;rfl
@[simp]theorem Sg.v11_mk:(Sg.mk x0 x1 x2 x3 x4 x5 x6 x7 x8 x9 x10 x11 x12 x13 x14 x15 x16 x17 x18 x19 x20 x21 x22 x23 x24 x25 x26 x27 x28 x29 x30).v11=x8:=by unfold Sg.v11;rfl
@[simp]theorem Sg.v12_mk:(Sg.mk x0 x1 x2 x3 x4 x5 x6 x7 x8 x9 x10 x11 x12 x13 x14 x15 x16 x17 x18 x19 x20 x21 x22 x23 x24 x25 x26 x27 x28 x29 x30).v12=x9:=by unfold Sg.v12;rfl
@[simp]theorem Sg.v13_mk:(Sg.mk x0 x1 x2 x3 x4 x5 x6 x7 x8 x9 x10 x11 x12 x13 x14 x15 x16 x17 x18 x19 x20 x21 x22 x23 x24 x25 x26 x27 x28 x29 x30).v13=x10:=by unfold Sg.v13;rfl
@[simp]theorem Sg.v14_mk:(Sg.mk x0 x1 x2 x3 x4 x5 x6 x7 x8 x9 x10 x11 x12 x13 x14 x15 x16 x17 x18 x19 x20 x21 x22 x23 x24 x25 x26 x27 x28 x29 x30).v14=x11:=by unfold Sg.v14;rfl
@[simp]theorem Sg.h2_mk:(Sg.mk x0 x1 x2 x3 x4 x5 x6 x7 x8 x9 x10 x11 x12 x13 x14 x15 x16 x17 x18 x19 x20 x21 x22 x23 x24 x25 x26 x27 x28 x29 x30).h2=x12:=by unfold Sg.h2;rfl
@[simp]theorem Sg.v20_mk:(Sg.mk x0 x1 x2 x3 x4 x5 x6 x7 x8 x9 x10 x11 x12 x13 x14 x15 x16 x17 x18 x19 x20 x21 x22 x23 x24 x25 x26 x27 x28 x29 x30).v20=x13:=by unfold Sg.v20;rfl
@[simp]theorem Sg.v21_mk:(Sg.mk x0 x1 x2 x3 x4 x5 x6 x7 x8 x9 x10 x11 x12 x13 x14 x15 x16 x17 x18 x19 x20 x21 x22 x23 x24 x25 x26 x27 x28 x29 x30).v21=x14:=by unfold Sg.v21;rfl
@[simp]theorem Sg.v22_mk:(Sg.mk x0 x1 x2 x3 x4 x5 x6 x7 x8 x9 x10 x11 x12 x13 x14 x15 x16 x17 x18 x19 x20 x21 x22 x23 x24 x25 x26 x27 x28 x29 x30).v22=x15:=by unfold Sg.v22;rfl
@[simp]theorem Sg.v23_mk:(Sg.mk x0 x1 x2 x3 x4 x5 x6 x7 x8 x9 x10 x11 x12 x13 x14 x15 x16 x17 x18 x19 x20 x21 x22 x23 x24 x25 x26 x27 x28 x29 x30).v23=x16:=by unfold Sg.v23;rfl
@[simp]theorem Sg.v24_mk:(Sg.mk x0 x1 x2 x3 x4 x5 x6 x7 x8 x9 x10 x11 x12 x13 x14 x15 x16 x17 x18 x19 x20 x21 x22 x23 x24 x25 x26 x27 x28 x29 x30).v24=x17:=by unfold Sg.v24;rfl
@[simp]theorem Sg.c0_mk:(Sg.mk x0 x1 x2 x3 x4 x5 x6 x7 x8 x9 x10 x11 x12 x13 x14 x15 x16 x17 x18 x19 x20 x21 x22 x23 x24 x25 x26 x27 x28 x29 x30).c0=x18:=by unfold Sg.c0;rfl
@[simp]theorem Sg.c1_mk:(Sg.mk x0 x1 x2 x3 x4 x5 x6 x7 x8 x9 x10 x11 x12 x13 x14 x15 x16 x17 x18 x19 x20 x21 x22 x23 x24 x25 x26 x27 x28 x29 x30).c1=x19:=by unfold Sg.c1;rfl
@[simp]theorem Sg.c2_mk:(Sg.mk x0 x1 x2 x3 x4 x5 x6 x7 x8 x9 x10 x11 x12 x13 x14 x15 x16 x17 x18 x19 x20 x21 x22 x23 x24 x25 x26 x27 x28 x29 x30).c2=x20:=by unfold Sg.c2;rfl
@[simp]theorem Sg.w0_mk:(Sg.mk x0 x1 x2 x3 x4 x5 x6 x7 x8 x9 x10 x11 x12 x13 x14 x15 x16 x17 x18 x19 x20 x21 x22 x23 x24 x25 x26 x27 x28 x29 x30).w0=x21:=by unfold Sg.w0;rfl
@[simp]theorem Sg.w1_mk:(Sg.mk x0 x1 x2 x3 x4 x5 x6 x7 x8 x9 x10 x11 x12 x13 x14 x15 x16 x17 x18 x19 x20 x21 x22 x23 x24 x25 x26 x27 x28 x29 x30).w1=x22:=by unfold Sg.w1;rfl
@[simp]theorem Sg.w2_mk:(Sg.mk x0 x1 x2 x3 x4 x5 x6 x7 x8 x9 x10 x11 x12 x13 x14 x15 x16 x17 x18 x19 x20 x21 x22 x23 x24 x25 x26 x27 x28 x29 x30).w2=x23:=by unfold Sg.w2;rfl
@[simp]theorem Sg.k0_mk:(Sg.mk x0 x1 x2 x3 x4 x5 x6 x7 x8 x9 x10 x11 x12 x13 x14 x15 x16 x17 x18 x19 x20 x21 x22 x23 x24 x25 x26 x27 x28 x29 x30).k0=x24:=by unfold Sg.k0;rfl
@[simp]theorem Sg.k1_mk:(Sg.mk x0 x1 x2 x3 x4 x5 x6 x7 x8 x9 x10 x11 x12 x13 x14 x15 x16 x17 x18 x19 x20 x21 x22 x23 x24 x25 x26 x27 x28 x29 x30).k1=x25:=by unfold Sg.k1;rfl
@[simp]theorem Sg.k2_mk:(Sg.mk x0 x1 x2 x3 x4 x5 x6 x7 x8 x9 x10 x11 x12 x13 x14 x15 x16 x17 x18 x19 x20 x21 x22 x23 x24 x25 x26 x27 x28 x29 x30).k2=x26:=by unfold Sg.k2;rfl
@[simp]theorem Sg.lk_mk:(Sg.mk x0 x1 x2 x3 x4 x5 x6 x7 x8 x9 x10 x11 x12 x13 x14 x15 x16 x17 x18 x19 x20 x21 x22 x23 x24 x25 x26 x27 x28 x29 x30).lk=x27:=by unfold Sg.lk;rfl
@[simp]theorem Sg.pk_mk:(Sg.mk x0 x1 x2 x3 x4 x5 x6 x7 x8 x9 x10 x11 x12 x13 x14 x15 x16 x17 x18 x19 x20 x21 x22 x23 x24 x25 x26 x27 x28 x29 x30).pk=x28:=by unfold Sg.pk;rfl
@[simp]theorem Sg.wt_mk:(Sg.mk x0 x1 x2 x3 x4 x5 x6 x7 x8 x9 x10 x11 x12 x13 x14 x15 x16 x17 x18 x19 x20 x21 x22 x23 x24 x25 x26 x27 x28 x29 x30).wt=x29:=by unfold Sg.wt;rfl
@[simp]theorem Sg.rs_mk:(Sg.mk x0 x1 x2 x3 x4 x5 x6 x7 x8 x9 x10 x11 x12 x13 x14 x15 x16 x17 x18 x19 x20 x21 x22 x23 x24 x25 x26 x27 x28 x29 x30).rs=x30:=by unfold Sg.rs;rfl
end
@[simp]theorem Sg.eta (z:Sg):Sg.mk z.h0 z.v00 z.v01 z.v02 z.v03 z.v04 z.h1 z.v10 z.v11 z.v12 z.v13 z.v14 z.h2 z.v20 z.v21 z.v22 z.v23 z.v24 z.c0 z.c1 z.c2 z.w0 z.w1 z.w2 z.k0 z.k1 z.k2 z.lk z.pk z.wt z.rs=z:=by unfold Sg.h0 Sg.v00 Sg.v01 Sg.v02 Sg.v03 Sg.v04 Sg.h1 Sg.v10 Sg.v11 Sg.v12 Sg.v13 Sg.v14 Sg.h2 Sg.v20 Sg.v21 Sg.v22 Sg.v23 Sg.v24 Sg.c0 Sg.c1 Sg.c2 Sg.w0 Sg.w1 Sg.w2 Sg.k0 Sg.k1 Sg.k2 Sg.lk Sg.pk Sg.wt Sg.rs;rfl
abbrev SgT:=Bool × Int × Int × Int × Int × Int × Bool × Int × Int × Int × Int × Int × Bool × Int × Int × Int × Int × Int × Bool × Bool × Bool × Bool × Bool × Bool × Bool × Bool × Bool × Int × Int × Bool × Bool × Unit
@[irreducible]def LF (z:SgT):Sg :=
 let (x0,x1,x2,x3,x4,x5,x6,x7,x8,x9,x10,x11,x12,x13,x14,x15,x16,x17,x18,x19,x20,x21,x22,x23,x24,x25,x26,x27,x28,x29,x30,_):=z
 ⟨x0,x1,x2,x3,x4,x5,x6,x7,x8,x9,x10,x11,x12,x13,x14,x15,x16,x17,x18,x19,x20,x21,x22,x23,x24,x25,x26,x27,x28,x29,x30⟩
@[reducible]def yQ (z:Sg):SgT:=(z.h0,z.v00,z.v01,z.v02,z.v03,z.v04,z.h1,z.v10,z.v11,z.v12,z.v13,z.v14,z.h2,z.v20,z.v21,z.v22,z.v23,z.v24,z.c0,z.c1,z.c2,z.w0,z.w1,z.w2,z.k0,z.k1,z.k2,z.lk,z.pk,z.wt,z.rs,())
def iL (z:Sg):List AV:=[.sb z.h0,.si .i64 z.v00,.si .i64 z.v01,.si .i64 z.v02,.si .i64 z.v03,.si .i64 z.v04,.sb z.h1,.si .i64 z.v10,.si .i64 z.v11,.si .i64 z.v12,.si .i64 z.v13,.si .i64 z.v14,.sb z.h2,.si .i64 z.v20,.si .i64 z.v21,.si .i64 z.v22,.si .i64 z.v23,.si .i64 z.v24,.sb z.c0,.sb z.c1,.sb z.c2,.sb z.w0,.sb z.w1,.sb z.w2,.sb z.k0,.sb z.k1,.sb z.k2,.si .i64 z.lk,.si .i64 z.pk,.sb z.wt,.sb z.rs]
@[reducible]def iI:List Sh:=[.bool,.int .i64,.int .i64,.int .i64,.int .i64,.int .i64,.bool,.int .i64,.int .i64,.int .i64,.int .i64,.int .i64,.bool,.int .i64,.int .i64,.int .i64,.int .i64,.int .i64,.bool,.bool,.bool,.bool,.bool,.bool,.bool,.bool,.bool,.int .i64,.int .i64,.bool,.bool]
theorem Y5 (z:Sg):LF (yQ z)=z:=by unfold LF yQ Sg.h0 Sg.v00 Sg.v01 Sg.v02 Sg.v03 Sg.v04 Sg.h1 Sg.v10 Sg.v11 Sg.v12 Sg.v13 Sg.v14 Sg.h2 Sg.v20 Sg.v21 Sg.v22 Sg.v23 Sg.v24 Sg.c0 Sg.c1 Sg.c2 Sg.w0 Sg.w1 Sg.w2 Sg.k0 Sg.k1 Sg.k2 Sg.lk Sg.pk Sg.wt Sg.rs;rfl
@[irreducible]def GB (ca c:Int):Int:=if ca=0 then c else ca
@[simp]theorem AM4 (z:Sg):LF (z.h0,z.v00,z.v01,z.v02,z.v03,z.v04,z.h1,z.v10,z.v11,z.v12,z.v13,z.v14,z.h2,z.v20,z.v21,z.v22,z.v23,z.v24,z.c0,z.c1,z.c2,z.w0,z.w1,z.w2,z.k0,z.k1,z.k2,z.lk,z.pk,z.wt,z.rs,())=z:=Y5 z
structure Sn where
 y0:Bool
 y1:Int
 y2:Int
 y3:Int
 y4:Int
 y5:Int
 y6:Bool
 y7:Int
 y8:Int
 y9:Int
 y10:Int
 y11:Int
 y12:Bool
 y13:Int
 y14:Int
 y15:Int
 y16:Int
 y17:Int
 y18:Bool
 y19:Bool
 y20:Bool
 y21:Bool
 y22:Bool
 y23:Bool
 y24:Bool
 y25:Bool
 y26:Bool
 y27:Int
 y28:Int
 y29:Bool
 y30:Bool
 y31:Bool
 y32:Bool
 y33:Bool
 y34:Bool
 y35:Bool
 y36:Bool
 y37:Bool
 y38:Bool
 y39:Bool
@[irreducible]def Sn.h0 (z:Sn):Bool:=z.y0
@[irreducible]def Sn.v00 (z:Sn):Int:=z.y1
@[irreducible]def Sn.v01 (z:Sn):Int:=z.y2
@[irreducible]def Sn.v02 (z:Sn):Int:=z.y3
@[irreducible]def Sn.v03 (z:Sn):Int:=z.y4
@[irreducible]def Sn.v04 (z:Sn):Int:=z.y5
@[irreducible]def Sn.h1 (z:Sn):Bool:=z.y6
@[irreducible]def Sn.v10 (z:Sn):Int:=z.y7
@[irreducible]def Sn.v11 (z:Sn):Int:=z.y8
@[irreducible]def Sn.v12 (z:Sn):Int:=z.y9
@[irreducible]def Sn.v13 (z:Sn):Int:=z.y10
@[irreducible]def Sn.v14 (z:Sn):Int:=z.y11
@[irreducible]def Sn.h2 (z:Sn):Bool:=z.y12
@[irreducible]def Sn.v20 (z:Sn):Int:=z.y13
@[irreducible]def Sn.v21 (z:Sn):Int:=z.y14
@[irreducible]def Sn.v22 (z:Sn):Int:=z.y15
@[irreducible]def Sn.v23 (z:Sn):Int:=z.y16
@[irreducible]def Sn.v24 (z:Sn):Int:=z.y17
@[irreducible]def Sn.c0 (z:Sn):Bool:=z.y18
@[irreducible]def Sn.c1 (z:Sn):Bool:=z.y19
@[irreducible]def Sn.c2 (z:Sn):Bool:=z.y20
@[irreducible]def Sn.w0 (z:Sn):Bool:=z.y21
@[irreducible]def Sn.w1 (z:Sn):Bool:=z.y22
@[irreducible]def Sn.w2 (z:Sn):Bool:=z.y23
@[irreducible]def Sn.k0 (z:Sn):Bool:=z.y24
@[irreducible]def Sn.k1 (z:Sn):Bool:=z.y25
@[irreducible]def Sn.k2 (z:Sn):Bool:=z.y26
@[irreducible]def Sn.lk (z:Sn):Int:=z.y27
@[irreducible]def Sn.pk (z:Sn):Int:=z.y28
@[irreducible]def Sn.wt (z:Sn):Bool:=z.y29
@[irreducible]def Sn.rs (z:Sn):Bool:=z.y30
@[irreducible]def Sn.n0 (z:Sn):Bool:=z.y31
@[irreducible]def Sn.n1 (z:Sn):Bool:=z.y32
@[irreducible]def Sn.n2 (z:Sn):Bool:=z.y33
@[irreducible]def Sn.n3 (z:Sn):Bool:=z.y34
@[irreducible]def Sn.n4 (z:Sn):Bool:=z.y35
@[irreducible]def Sn.n5 (z:Sn):Bool:=z.y36
@[irreducible]def Sn.n6 (z:Sn):Bool:=z.y37
@[irreducible]def Sn.cu (z:Sn):Bool:=z.y38
@[irreducible]def Sn.cl (z:Sn):Bool:=z.y39
section
variable (x0:Bool) (x1 x2 x3 x4 x5:Int) (x6:Bool) (x7 x8 x9 x10 x11:Int) (x12:Bool) (x13 x14 x15 x16 x17:Int) (x18 x19 x20 x21 x22 x23 x24 x25 x26:Bool) (x27 x28:Int) (x29 x30 x31 x32 x33 x34 x35 x36 x37 x38 x39:Bool)
@[simp]theorem Sn.h0_mk:(Sn.mk x0 x1 x2 x3 x4 x5 x6 x7 x8 x9 x10 x11 x12 x13 x14 x15 x16 x17 x18 x19 x20 x21 x22 x23 x24 x25 x26 x27 x28 x29 x30 x31 x32 x33 x34 x35 x36 x37 x38 x39).h0=x0:=by unfold Sn.h0;rfl
@[simp]theorem Sn.v00_mk:(Sn.mk x0 x1 x2 x3 x4 x5 x6 x7 x8 x9 x10 x11 x12 x13 x14 x15 x16 x17 x18 x19 x20 x21 x22 x23 x24 x25 x26 x27 x28 x29 x30 x31 x32 x33 x34 x35 x36 x37 x38 x39).v00=x1:=by unfold Sn.v00;rfl
@[simp]theorem Sn.v01_mk:(Sn.mk x0 x1 x2 x3 x4 x5 x6 x7 x8 x9 x10 x11 x12 x13 x14 x15 x16 x17 x18 x19 x20 x21 x22 x23 x24 x25 x26 x27 x28 x29 x30 x31 x32 x33 x34 x35 x36 x37 x38 x39).v01=x2:=by unfold Sn.v01;rfl
@[simp]theorem Sn.v02_mk:(Sn.mk x0 x1 x2 x3 x4 x5 x6 x7 x8 x9 x10 x11 x12 x13 x14 x15 x16 x17 x18 x19 x20 x21 x22 x23 x24 x25 x26 x27 x28 x29 x30 x31 x32 x33 x34 x35 x36 x37 x38 x39).v02=x3:=by unfold Sn.v02;rfl
@[simp]theorem Sn.v03_mk:(Sn.mk x0 x1 x2 x3 x4 x5 x6 x7 x8 x9 x10 x11 x12 x13 x14 x15 x16 x17 x18 x19 x20 x21 x22 x23 x24 x25 x26 x27 x28 x29 x30 x31 x32 x33 x34 x35 x36 x37 x38 x39).v03=x4:=by unfold Sn.v03;rfl
@[simp]theorem Sn.v04_mk:(Sn.mk x0 x1 x2 x3 x4 x5 x6 x7 x8 x9 x10 x11 x12 x13 x14 x15 x16 x17 x18 x19 x20 x21 x22 x23 x24 x25 x26 x27 x28 x29 x30 x31 x32 x33 x34 x35 x36 x37 x38 x39).v04=x5:=by unfold Sn.v04;rfl
@[simp]theorem Sn.h1_mk:(Sn.mk x0 x1 x2 x3 x4 x5 x6 x7 x8 x9 x10 x11 x12 x13 x14 x15 x16 x17 x18 x19 x20 x21 x22 x23 x24 x25 x26 x27 x28 x29 x30 x31 x32 x33 x34 x35 x36 x37 x38 x39).h1=x6:=by unfold Sn.h1;rfl
@[simp]theorem Sn.v10_mk:(Sn.mk x0 x1 x2 x3 x4 x5 x6 x7 x8 x9 x10 x11 x12 x13 x14 x15 x16 x17 x18 x19 x20 x21 x22 x23 x24 x25 x26 x27 x28 x29 x30 x31 x32 x33 x34 x35 x36 x37 x38 x39).v10=x7:=by unfold Sn.v10;rfl
@[simp]theorem Sn.v11_mk:(Sn.mk x0 x1 x2 x3 x4 x5 x6 x7 x8 x9 x10 x11 x12 x13 x14 x15 x16 x17 x18 x19 x20 x21 x22 x23 x24 x25 x26 x27 x28 x29 x30 x31 x32 x33 x34 x35 x36 x37 x38 x39).v11=x8:=by unfold Sn.v11;rfl
@[simp]theorem Sn.v12_mk:(Sn.mk x0 x1 x2 x3 x4 x5 x6 x7 x8 x9 x10 x11 x12 x13 x14 x15 x16 x17 x18 x19 x20 x21 x22 x23 x24 x25 x26 x27 x28 x29 x30 x31 x32 x33 x34 x35 x36 x37 x38 x39).v12=x9:=by unfold Sn.v12;rfl
@[simp]theorem Sn.v13_mk:(Sn.mk x0 x1 x2 x3 x4 x5 x6 x7 x8 x9 x10 x11 x12 x13 x14 x15 x16 x17 x18 x19 x20 x21 x22 x23 x24 x25 x26 x27 x28 x29 x30 x31 x32 x33 x34 x35 x36 x37 x38 x39).v13=x10:=by unfold Sn.v13;rfl
@[simp]theorem Sn.v14_mk:(Sn.mk x0 x1 x2 x3 x4 x5 x6 x7 x8 x9 x10 x11 x12 x13 x14 x15 x16 x17 x18 x19 x20 x21 x22 x23 x24 x25 x26 x27 x28 x29 x30 x31 x32 x33 x34 x35 x36 x37 x38 x39).v14=x11:=by unfold Sn.v14;rfl
@[simp]theorem Sn.h2_mk:(Sn.mk x0 x1 x2 x3 x4 x5 x6 x7 x8 x9 x10 x11 x12 x13 x14 x15 x16 x17 x18 x19 x20 x21 x22 x23 x24 x25 x26 x27 x28 x29 x30 x31 x32 x33 x34 x35 x36 x37 x38 x39).h2=x12:=by unfold Sn.h2;rfl
@[simp]theorem Sn.v20_mk:(Sn.mk x0 x1 x2 x3 x4 x5 x6 x7 x8 x9 x10 x11 x12 x13 x14 x15 x16 x17 x18 x19 x20 x21 x22 x23 x24 x25 x26 x27 x28 x29 x30 x31 x32 x33 x34 x35 x36 x37 x38 x39).v20=x13:=by unfold Sn.v20;rfl
@[simp]theorem Sn.v21_mk:(Sn.mk x0 x1 x2 x3 x4 x5 x6 x7 x8 x9 x10 x11 x12 x13 x14 x15 x16 x17 x18 x19 x20 x21 x22 x23 x24 x25 x26 x27 x28 x29 x30 x31 x32 x33 x34 x35 x36 x37 x38 x39).v21=x14:=by unfold Sn.v21;rfl
@[simp]theorem Sn.v22_mk:(Sn.mk x0 x1 x2 x3 x4 x5 x6 x7 x8 x9 x10 x11 x12 x13 x14 x15 x16 x17 x18 x19 x20 x21 x22 x23 x24 x25 x26 x27 x28 x29 x30 x31 x32 x33 x34 x35 x36 x37 x38 x39).v22=x15:=by unfold Sn.v22;rfl
@[simp]theorem Sn.v23_mk:(Sn.mk x0 x1 x2 x3 x4 x5 x6 x7 x8 x9 x10 x11 x12 x13 x14 x15 x16 x17 x18 x19 x20 x21 x22 x23 x24 x25 x26 x27 x28 x29 x30 x31 x32 x33 x34 x35 x36 x37 x38 x39).v23=x16:=by unfold Sn.v23;rfl
@[simp]theorem Sn.v24_mk:(Sn.mk x0 x1 x2 x3 x4 x5 x6 x7 x8 x9 x10 x11 x12 x13 x14 x15 x16 x17 x18 x19 x20 x21 x22 x23 x24 x25 x26 x27 x28 x29 x30 x31 x32 x33 x34 x35 x36 x37 x38 x39).v24=x17:=by unfold Sn.v24;rfl
@[simp]theorem Sn.c0_mk:(Sn.mk x0 x1 x2 x3 x4 x5 x6 x7 x8 x9 x10 x11 x12 x13 x14 x15 x16 x17 x18 x19 x20 x21 x22 x23 x24 x25 x26 x27 x28 x29 x30 x31 x32 x33 x34 x35 x36 x37 x38 x39).c0=x18:=by unfold Sn.c0;rfl
@[simp]theorem Sn.c1_mk:(Sn.mk x0 x1 x2 x3 x4 x5 x6 x7 x8 x9 x10 x11 x12 x13 x14 x15 x16 x17 x18 x19 x20 x21 x22 x23 x24 x25 x26 x27 x28 x29 x30 x31 x32 x33 x34 x35 x36 x37 x38 x39).c1=x19:=by unfold Sn.c1;rfl
@[simp]theorem Sn.c2_mk:(Sn.mk x0 x1 x2 x3 x4 x5 x6 x7 x8 x9 x10 x11 x12 x13 x14 x15 x16 x17 x18 x19 x20 x21 x22 x23 x24 x25 x26 x27 x28 x29 x30 x31 x32 x33 x34 x35 x36 x37 x38 x39).c2=x20:=by unfold Sn.c2;rfl
@[simp]theorem Sn.w0_mk:(Sn.mk x0 x1 x2 x3 x4 x5 x6 x7 x8 x9 x10 x11 x12 x13 x14 x15 x16 x17 x18 x19 x20 x21 x22 x23 x24 x25 x26 x27 x28 x29 x30 x31 x32 x33 x34 x35 x36 x37 x38 x39).w0=x21:=by unfold Sn.w0;rfl
@[simp]theorem Sn.w1_mk:(Sn.mk x0 x1 x2 x3 x4 x5 x6 x7 x8 x9 x10 x11 x12 x13 x14 x15 x16 x17 x18 x19 x20 x21 x22 x23 x24 x25 x26 x27 x28 x29 x30 x31 x32 x33 x34 x35 x36 x37 x38 x39).w1=x22:=by unfold Sn.w1;rfl
@[simp]theorem Sn.w2_mk:(Sn.mk x0 x1 x2 x3 x4 x5 x6 x7 x8 x9 x10 x11 x12 x13 x14 x15 x16 x17 x18 x19 x20 x21 x22 x23 x24 x25 x26 x27 x28 x29 x30 x31 x32 x33 x34 x35 x36 x37 x38 x39).w2=x23:=by unfold Sn.w2;rfl
@[simp]theorem Sn.k0_mk:(Sn.mk x0 x1 x2 x3 x4 x5 x6 x7 x8 x9 x10 x11 x12 x13 x14 x15 x16 x17 x18 x19 x20 x21 x22 x23 x24 x25 x26 x27 x28 x29 x30 x31 x32 x33 x34 x35 x36 x37 x38 x39).k0=x24:=by unfold Sn.k0;rfl
@[simp]theorem Sn.k1_mk:(Sn.mk x0 x1 x2 x3 x4 x5 x6 x7 x8 x9 x10 x11 x12 x13 x14 x15 x16 x17 x18 x19 x20 x21 x22 x23 x24 x25 x26 x27 x28 x29 x30 x31 x32 x33 x34 x35 x36 x37 x38 x39).k1=x25:=by unfold Sn.k1;rfl
@[simp]theorem Sn.k2_mk:(Sn.mk x0 x1 x2 x3 x4 x5 x6 x7 x8 x9 x10 x11 x12 x13 x14 x15 x16 x17 x18 x19 x20 x21 x22 x23 x24 x25 x26 x27 x28 x29 x30 x31 x32 x33 x34 x35 x36 x37 x38 x39).k2=x26:=by unfold Sn.k2;rfl
@[simp]theorem Sn.lk_mk:(Sn.mk x0 x1 x2 x3 x4 x5 x6 x7 x8 x9 x10 x11 x12 x13 x14 x15 x16 x17 x18 x19 x20 x21 x22 x23 x24 x25 x26 x27 x28 x29 x30 x31 x32 x33 x34 x35 x36 x37 x38 x39).lk=x27:=by unfold Sn.lk;rfl
@[simp]theorem Sn.pk_mk:(Sn.mk x0 x1 x2 x3 x4 x5 x6 x7 x8 x9 x10 x11 x12 x13 x14 x15 x16 x17 x18 x19 x20 x21 x22 x23 x24 x25 x26 x27 x28 x29 x30 x31 x32 x33 x34 x35 x36 x37 x38 x39).pk=x28:=by unfold Sn.pk;rfl
@[simp]theorem Sn.wt_mk:(Sn.mk x0 x1 x2 x3 x4 x5 x6 x7 x8 x9 x10 x11 x12 x13 x14 x15 x16 x17 x18 x19 x20 x21 x22 x23 x24 x25 x26 x27 x28 x29 x30 x31 x32 x33 x34 x35 x36 x37 x38 x39).wt=x29:=by unfold Sn.wt;rfl
@[simp]theorem Sn.rs_mk:(Sn.mk x0 x1 x2 x3 x4 x5 x6 x7 x8 x9 x10 x11 x12 x13 x14 x15 x16 x17 x18 x19 x20 x21 x22 x23 x24 x25 x26 x27 x28 x29 x30 x31 x32 x33 x34 x35 x36 x37 x38 x39).rs=x30:=by unfold Sn.rs;rfl
@[simp]theorem Sn.n0_mk:(Sn.mk x0 x1 x2 x3 x4 x5 x6 x7 x8 x9 x10 x11 x12 x13 x14 x15 x16 x17 x18 x19 x20 x21 x22 x23 x24 x25 x26 x27 x28 x29 x30 x31 x32 x33 x34 x35 x36 x37 x38 x39).n0=x31:=by unfold Sn.n0;rfl
@[simp]theorem Sn.n1_mk:(Sn.mk x0 x1 x2 x3 x4 x5 x6 x7 x8 x9 x10 x11 x12 x13 x14 x15 x16 x17 x18 x19 x20 x21 x22 x23 x24 x25 x26 x27 x28 x29 x30 x31 x32 x33 x34 x35 x36 x37 x38 x39).n1=x32:=by unfold Sn.n1;rfl
@[simp]theorem Sn.n2_mk:(Sn.mk x0 x1 x2 x3 x4 x5 x6 x7 x8 x9 x10 x11 x12 x13 x14 x15 x16 x17 x18 x19 x20 x21 x22 x23 x24 x25 x26 x27 x28 x29 x30 x31 x32 x33 x34 x35 x36 x37 x38 x39).n2=x33:=by unfold Sn.n2;rfl
@[simp]theorem Sn.n3_mk:(Sn.mk x0 x1 x2 x3 x4 x5 x6 x7 x8 x9 x10 x11 x12 x13 x14 x15 x16 x17 x18 x19 x20 x21 x22 x23 x24 x25 x26 x27 x28 x29 x30 x31 x32 x33 x34 x35 x36 x37 x38 x39).n3=x34:=by unfold Sn.n3;rfl
@[simp]theorem Sn.n4_mk:(Sn.mk x0 x1 x2 x3 x4 x5 x6 x7 x8 x9 x10 x11 x12 x13 x14 x15 x16 x17 x18 x19 x20 x21 x22 x23 x24 x25 x26 x27 x28 x29 x30 x31 x32 x33 x34 x35 x36 x37 x38 x39).n4=x35:=by unfold Sn.n4;rfl
@[simp]theorem Sn.n5_mk:(Sn.mk x0 x1 x2 x3 x4 x5 x6 x7 x8 x9 x10 x11 x12 x13 x14 x15 x16 x17 x18 x19 x20 x21 x22 x23 x24 x25 x26 x27 x28 x29 x30 x31 x32 x33 x34 x35 x36 x37 x38 x39).n5=x36:=by unfold Sn.n5;rfl
@[simp]theorem Sn.n6_mk:(Sn.mk x0 x1 x2 x3 x4 x5 x6 x7 x8 x9 x10 x11 x12 x13 x14 x15 x16 x17 x18 x19 x20 x21 x22 x23 x24 x25 x26 x27 x28 x29 x30 x31 x32 x33 x34 x35 x36 x37 x38 x39).n6=x37:=by unfold Sn.n6;rfl
@[simp]theorem Sn.cu_mk:(Sn.mk x0 x1 x2 x3 x4 x5 x6 x7 x8 x9 x10 x11 x12 x13 x14 x15 x16 x17 x18 x19 x20 x21 x22 x23 x24 x25 x26 x27 x28 x29 x30 x31 x32 x33 x34 x35 x36 x37 x38 x39).cu=x38:=by unfold Sn.cu;rfl
@[simp]theorem Sn.cl_mk:(Sn.mk x0 x1 x2 x3 x4 x5 x6 x7 x8 x9 x10 x11 x12 x13 x14 x15 x16 x17 x18 x19 x20 x21 x22 x23 x24 x25 x26 x27 x28 x29 x30 x31 x32 x33 x34 x35 x36 x37 x38 x39).cl=x39:=by unfold Sn.cl;rfl
end
@[simp]theorem Sn.eta (z:Sn):Sn.mk z.h0 z.v00 z.v01 z.v02 z.v03 z.v04 z.h1 z.v10 z.v11 z.v12 z.v13 z.v14 z.h2 z.v20 z.v21 z.v22 z.v23 z.v24 z.c0 z.c1 z.c2 z.w0 z.w1 z.w2 z.k0 z.k1 z.k2 z.lk z.pk z.wt z.rs z.n0 z.n1 z.n2 z.n3 z.n4 z.n5 z.n6 z.cu z.cl=z:=by unfold Sn.h0 Sn.v00 Sn.v01 Sn.v02 Sn.v03 Sn.v04 Sn.h1 Sn.v10 Sn.v11 Sn.v12 Sn.v13 Sn.v14 Sn.h2 Sn.v20 Sn.v21 Sn.v22 Sn.v23 Sn.v24 Sn.c0 Sn.c1 Sn.c2 Sn.w0 Sn.w1 Sn.w2 Sn.k0 Sn.k1 Sn.k2 Sn.lk Sn.pk Sn.wt Sn.rs Sn.n0 Sn.n1 Sn.n2 Sn.n3 Sn.n4 Sn.n5 Sn.n6 Sn.cu Sn.cl;rfl
abbrev SnT:=Bool × Int × Int × Int × Int × Int × Bool × Int × Int × Int × Int × Int × Bool × Int × Int × Int × Int × Int × Bool × Bool × Bool × Bool × Bool × Bool × Bool × Bool × Bool × Int × Int × Bool × Bool × Bool × Bool × Bool × Bool × Bool × Bool × Bool × Bool × Bool × Unit
@[irreducible]def IR (z:SnT):Sn :=
 let (x0,x1,x2,x3,x4,x5,x6,x7,x8,x9,x10,x11,x12,x13,x14,x15,x16,x17,x18,x19,x20,x21,x22,x23,x24,x25,x26,x27,x28,x29,x30,x31,x32,x33,x34,x35,x36,x37,x38,x39,_):=z
 ⟨x0,x1,x2,x3,x4,x5,x6,x7,x8,x9,x10,x11,x12,x13,x14,x15,x16,x17,x18,x19,x20,x21,x22,x23,x24,x25,x26,x27,x28,x29,x30,x31,x32,x33,x34,x35,x36,x37,x38,x39⟩
@[reducible]def nV (z:Sn):SnT:=(z.h0,z.v00,z.v01,z.v02,z.v03,z.v04,z.h1,z.v10,z.v11,z.v12,z.v13,z.v14,z.h2,z.v20,z.v21,z.v22,z.v23,z.v24,z.c0,z.c1,z.c2,z.w0,z.w1,z.w2,z.k0,z.k1,z.k2,z.lk,z.pk,z.wt,z.rs,z.n0,z.n1,z.n2,z.n3,z.n4,z.n5,z.n6,z.cu,z.cl,())
def zO (z:Sn):List AV:=[.sb z.h0,.si .i64 z.v00,.si .i64 z.v01,.si .i64 z.v02,.si .i64 z.v03,.si .i64 z.v04,.sb z.h1,.si .i64 z.v10,.si .i64 z.v11,.si .i64 z.v12,.si .i64 z.v13,.si .i64 z.v14,.sb z.h2,.si .i64 z.v20,.si .i64 z.v21,.si .i64 z.v22,.si .i64 z.v23,.si .i64 z.v24,.sb z.c0,.sb z.c1,.sb z.c2,.sb z.w0,.sb z.w1,.sb z.w2,.sb z.k0,.sb z.k1,.sb z.k2,.si .i64 z.lk,.si .i64 z.pk,.sb z.wt,.sb z.rs,.sb z.n0,.sb z.n1,.sb z.n2,.sb z.n3,.sb z.n4,.sb z.n5,.sb z.n6,.sb z.cu,.sb z.cl]
@[reducible]def Qm:List Sh:=[.bool,.int .i64,.int .i64,.int .i64,.int .i64,.int .i64,.bool,.int .i64,.int .i64,.int .i64,.int .i64,.int .i64,.bool,.int .i64,.int .i64,.int .i64,.int .i64,.int .i64,.bool,.bool,.bool,.bool,.bool,.bool,.bool,.bool,.bool,.int .i64,.int .i64,.bool,.bool,.bool,.bool,.bool,.bool,.bool,.bool,.bool,.bool,.bool]
theorem O8 (z:Sn):IR (nV z)=z:=by unfold IR nV Sn.h0 Sn.v00 Sn.v01 Sn.v02 Sn.v03 Sn.v04 Sn.h1 Sn.v10 Sn.v11 Sn.v12 Sn.v13 Sn.v14 Sn.h2 Sn.v20 Sn.v21 Sn.v22 Sn.v23 Sn.v24 Sn.c0 Sn.c1 Sn.c2 Sn.w0 Sn.w1 Sn.w2 Sn.k0 Sn.k1 Sn.k2 Sn.lk Sn.pk Sn.wt Sn.rs Sn.n0 Sn.n1 Sn.n2 Sn.n3 Sn.n4 Sn.n5 Sn.n6 Sn.cu Sn.cl;rfl
@[simp]theorem AK8 (z:Sn):IR (z.h0,z.v00,z.v01,z.v02,z.v03,z.v04,z.h1,z.v10,z.v11,z.v12,z.v13,z.v14,z.h2,z.v20,z.v21,z.v22,z.v23,z.v24,z.c0,z.c1,z.c2,z.w0,z.w1,z.w2,z.k0,z.k1,z.k2,z.lk,z.pk,z.wt,z.rs,z.n0,z.n1,z.n2,z.n3,z.n4,z.n5,z.n6,z.cu,z.cl,())=z:=O8 z
structure Pn where
 y0:Gd
 y1:Bool
 y2:Int
 y3:Int
 y4:Int
 y5:Int
 y6:Int
 y7:Bool
 y8:Int
 y9:Int
 y10:Int
 y11:Int
 y12:Int
 y13:Bool
 y14:Int
 y15:Int
 y16:Int
 y17:Int
 y18:Int
 y19:Bool
 y20:Bool
 y21:Bool
@[irreducible]def Pn.g (z:Pn):Gd:=z.y0
@[irreducible]def Pn.h0 (z:Pn):Bool:=z.y1
@[irreducible]def Pn.v00 (z:Pn):Int:=z.y2
@[irreducible]def Pn.v01 (z:Pn):Int:=z.y3
@[irreducible]def Pn.v02 (z:Pn):Int:=z.y4
@[irreducible]def Pn.v03 (z:Pn):Int:=z.y5
@[irreducible]def Pn.v04 (z:Pn):Int:=z.y6
@[irreducible]def Pn.h1 (z:Pn):Bool:=z.y7
@[irreducible]def Pn.v10 (z:Pn):Int:=z.y8
@[irreducible]def Pn.v11 (z:Pn):Int:=z.y9
@[irreducible]def Pn.v12 (z:Pn):Int:=z.y10
@[irreducible]def Pn.v13 (z:Pn):Int:=z.y11
@[irreducible]def Pn.v14 (z:Pn):Int:=z.y12
@[irreducible]def Pn.h2 (z:Pn):Bool:=z.y13
@[irreducible]def Pn.v20 (z:Pn):Int:=z.y14
@[irreducible]def Pn.v21 (z:Pn):Int:=z.y15
@[irreducible]def Pn.v22 (z:Pn):Int:=z.y16
@[irreducible]def Pn.v23 (z:Pn):Int:=z.y17
@[irreducible]def Pn.v24 (z:Pn):Int:=z.y18
@[irreducible]def Pn.b0 (z:Pn):Bool:=z.y19
@[irreducible]def Pn.b1 (z:Pn):Bool:=z.y20
@[irreducible]def Pn.b2 (z:Pn):Bool:=z.y21
section
variable (x0:Gd) (x1:Bool) (x2 x3 x4 x5 x6:Int) (x7:Bool) (x8 x9 x10 x11 x12:Int) (x13:Bool) (x14 x15 x16 x17 x18:Int) (x19 x20 x21:Bool)
@[simp]theorem Pn.g_mk:(Pn.mk x0 x1 x2 x3 x4 x5 x6 x7 x8 x9 x10 x11 x12 x13 x14 x15 x16 x17 x18 x19 x20 x21).g=x0:=by unfold Pn.g;rfl
@[simp]theorem Pn.h0_mk:(Pn.mk x0 x1 x2 x3 x4 x5 x6 x7 x8 x9 x10 x11 x12 x13 x14 x15 x16 x17 x18 x19 x20 x21).h0=x1:=by unfold Pn.h0;rfl
@[simp]theorem Pn.v00_mk:(Pn.mk x0 x1 x2 x3 x4 x5 x6 x7 x8 x9 x10 x11 x12 x13 x14 x15 x16 x17 x18 x19 x20 x21).v00=x2:=by unfold Pn.v00;rfl
@[simp]theorem Pn.v01_mk:(Pn.mk x0 x1 x2 x3 x4 x5 x6 x7 x8 x9 x10 x11 x12 x13 x14 x15 x16 x17 x18 x19 x20 x21).v01=x3:=by unfold Pn.v01;rfl
@[simp]theorem Pn.v02_mk:(Pn.mk x0 x1 x2 x3 x4 x5 x6 x7 x8 x9 x10 x11 x12 x13 x14 x15 x16 x17 x18 x19 x20 x21).v02=x4:=by unfold Pn.v02;rfl
@[simp]theorem Pn.v03_mk:(Pn.mk x0 x1 x2 x3 x4 x5 x6 x7 x8 x9 x10 x11 x12 x13 x14 x15 x16 x17 x18 x19 x20 x21).v03=x5:=by unfold Pn.v03;rfl
@[simp]theorem Pn.v04_mk:(Pn.mk x0 x1 x2 x3 x4 x5 x6 x7 x8 x9 x10 x11 x12 x13 x14 x15 x16 x17 x18 x19 x20 x21).v04=x6:=by unfold Pn.v04;rfl
@[simp]theorem Pn.h1_mk:(Pn.mk x0 x1 x2 x3 x4 x5 x6 x7 x8 x9 x10 x11 x12 x13 x14 x15 x16 x17 x18 x19 x20 x21).h1=x7:=by unfold Pn.h1;rfl
@[simp]theorem Pn.v10_mk:(Pn.mk x0 x1 x2 x3 x4 x5 x6 x7 x8 x9 x10 x11 x12 x13 x14 x15 x16 x17 x18 x19 x20 x21).v10=x8:=by unfold Pn.v10;rfl
@[simp]theorem Pn.v11_mk:(Pn.mk x0 x1 x2 x3 x4 x5 x6 x7 x8 x9 x10 x11 x12 x13 x14 x15 x16 x17 x18 x19 x20 x21).v11=x9:=by unfold Pn.v11;rfl
@[simp]theorem Pn.v12_mk:(Pn.mk x0 x1 x2 x3 x4 x5 x6 x7 x8 x9 x10 x11 x12 x13 x14 x15 x16 x17 x18 x19 x20 x21).v12=x10:=by unfold Pn.v12;rfl
@[simp]theorem Pn.v13_mk:(Pn.mk x0 x1 x2 x3 x4 x5 x6 x7 x8 x9 x10 x11 x12 x13 x14 x15 x16 x17 x18 x19 x20 x21).v13=x11:=by unfold Pn.v13;rfl
@[simp]theorem Pn.v14_mk:(Pn.mk x0 x1 x2 x3 x4 x5 x6 x7 x8 x9 x10 x11 x12 x13 x14 x15 x16 x17 x18 x19 x20 x21).v14=x12:=by unfold Pn.v14;rfl
@[simp]theorem Pn.h2_mk:(Pn.mk x0 x1 x2 x3 x4 x5 x6 x7 x8 x9 x10 x11 x12 x13 x14 x15 x16 x17 x18 x19 x20 x21).h2=x13:=by unfold Pn.h2;rfl
@[simp]theorem Pn.v20_mk:(Pn.mk x0 x1 x2 x3 x4 x5 x6 x7 x8 x9 x10 x11 x12 x13 x14 x15 x16 x17 x18 x19 x20 x21).v20=x14:=by unfold Pn.v20;rfl
@[simp]theorem Pn.v21_mk:(Pn.mk x0 x1 x2 x3 x4 x5 x6 x7 x8 x9 x10 x11 x12 x13 x14 x15 x16 x17 x18 x19 x20 x21).v21=x15:=by unfold Pn.v21;rfl
@[simp]theorem Pn.v22_mk:(Pn.mk x0 x1 x2 x3 x4 x5 x6 x7 x8 x9 x10 x11 x12 x13 x14 x15 x16 x17 x18 x19 x20 x21).v22=x16:=by unfold Pn.v22;rfl
@[simp]theorem Pn.v23_mk:(Pn.mk x0 x1 x2 x3 x4 x5 x6 x7 x8 x9 x10 x11 x12 x13 x14 x15 x16 x17 x18 x19 x20 x21).v23=x17:=by unfold Pn.v23;rfl
@[simp]theorem Pn.v24_mk:(Pn.mk x0 x1 x2 x3 x4 x5 x6 x7 x8 x9 x10 x11 x12 x13 x14 x15 x16 x17 x18 x19 x20 x21).v24=x18:=by unfold Pn.v24;rfl
@[simp]theorem Pn.b0_mk:(Pn.mk x0 x1 x2 x3 x4 x5 x6 x7 x8 x9 x10 x11 x12 x13 x14 x15 x16 x17 x18 x19 x20 x21).b0=x19:=by unfold Pn.b0;rfl
@[simp]theorem Pn.b1_mk:(Pn.mk x0 x1 x2 x3 x4 x5 x6 x7 x8 x9 x10 x11 x12 x13 x14 x15 x16 x17 x18 x19 x20 x21).b1=x20:=by unfold Pn.b1;rfl
@[simp]theorem Pn.b2_mk:(Pn.mk x0 x1 x2 x3 x4 x5 x6 x7 x8 x9 x10 x11 x12 x13 x14 x15 x16 x17 x18 x19 x20 x21).b2=x21:=by unfold Pn.b2;rfl
end
@[simp]theorem Pn.eta (z:Pn):Pn.mk z.g z.h0 z.v00 z.v01 z.v02 z.v03 z.v04 z.h1 z.v10 z.v11 z.v12 z.v13 z.v14 z.h2 z.v20 z.v21 z.v22 z.v23 z.v24 z.b0 z.b1 z.b2=z:=by unfold Pn.g Pn.h0 Pn.v00 Pn.v01 Pn.v02 Pn.v03 Pn.v04 Pn.h1 Pn.v10 Pn.v11 Pn.v12 Pn.v13 Pn.v14 Pn.h2 Pn.v20 Pn.v21 Pn.v22 Pn.v23 Pn.v24 Pn.b0 Pn.b1 Pn.b2;rfl
abbrev PnT:=yr × Bool × Int × Int × Int × Int × Int × Bool × Int × Int × Int × Int × Int × Bool × Int × Int × Int × Int × Int × Bool × Bool × Bool × Unit
@[irreducible]def EG (z:PnT):Pn :=
 let (x0,x1,x2,x3,x4,x5,x6,x7,x8,x9,x10,x11,x12,x13,x14,x15,x16,x17,x18,x19,x20,x21,_):=z
 ⟨J4 x0,x1,x2,x3,x4,x5,x6,x7,x8,x9,x10,x11,x12,x13,x14,x15,x16,x17,x18,x19,x20,x21⟩
@[reducible]def aP (z:Pn):PnT:=(J6 z.g,z.h0,z.v00,z.v01,z.v02,z.v03,z.v04,z.h1,z.v10,z.v11,z.v12,z.v13,z.v14,z.h2,z.v20,z.v21,z.v22,z.v23,z.v24,z.b0,z.b1,z.b2,())
def zj (z:Pn):List AV:=[.xp (Lr z.g),.sb z.h0,.si .i64 z.v00,.si .i64 z.v01,.si .i64 z.v02,.si .i64 z.v03,.si .i64 z.v04,.sb z.h1,.si .i64 z.v10,.si .i64 z.v11,.si .i64 z.v12,.si .i64 z.v13,.si .i64 z.v14,.sb z.h2,.si .i64 z.v20,.si .i64 z.v21,.si .i64 z.v22,.si .i64 z.v23,.si .i64 z.v24,.sb z.b0,.sb z.b1,.sb z.b2]
@[reducible]def Ok:List Sh:=[.ptr Dy,.bool,.int .i64,.int .i64,.int .i64,.int .i64,.int .i64,.bool,.int .i64,.int .i64,.int .i64,.int .i64,.int .i64,.bool,.int .i64,.int .i64,.int .i64,.int .i64,.int .i64,.bool,.bool,.bool]
theorem Ol (z:Pn):EG (aP z)=z:=by unfold EG aP;simp only [Ko];unfold Pn.g Pn.h0 Pn.v00 Pn.v01 Pn.v02 Pn.v03 Pn.v04 Pn.h1 Pn.v10 Pn.v11 Pn.v12 Pn.v13 Pn.v14 Pn.h2 Pn.v20 Pn.v21 Pn.v22 Pn.v23 Pn.v24 Pn.b0 Pn.b1 Pn.b2;rfl
@[simp]theorem AN0 (z:Pn):EG ((4100000,3200000,100000,60000,320000,100000,10000,10000,1000,2000,5000,z.g.d0,z.g.d1,z.g.d2,z.g.d3,z.g.d4,z.g.d5,z.g.d6,1,5,z.g.op,1000,()),z.h0,z.v00,z.v01,z.v02,z.v03,z.v04,z.h1,z.v10,z.v11,z.v12,z.v13,z.v14,z.h2,z.v20,z.v21,z.v22,z.v23,z.v24,z.b0,z.b1,z.b2,())=z:=Ol z
structure Mc where
 y0:Gd
 y1:Int
 y2:Int
 y3:Bool
 y4:Bool
 y5:Bool
 y6:Int
 y7:Int
 y8:Int
 y9:Int
 y10:Int
 y11:Int
 y12:Int
 y13:Int
 y14:Int
 y15:Int
 y16:Int
 y17:Int
 y18:Bool
 y19:Bool
 y20:Bool
 y21:Bool
@[irreducible]def Mc.g (z:Mc):Gd:=z.y0
@[irreducible]def Mc.ph (z:Mc):Int:=z.y1
@[irreducible]def Mc.ca (z:Mc):Int:=z.y2
@[irreducible]def Mc.b0 (z:Mc):Bool:=z.y3
@[irreducible]def Mc.b1 (z:Mc):Bool:=z.y4
@[irreducible]def Mc.b2 (z:Mc):Bool:=z.y5
@[irreducible]def Mc.h0 (z:Mc):Int:=z.y6
@[irreducible]def Mc.h1 (z:Mc):Int:=z.y7
@[irreducible]def Mc.h2 (z:Mc):Int:=z.y8
@[irreducible]def Mc.h3 (z:Mc):Int:=z.y9
@[irreducible]def Mc.h4 (z:Mc):Int:=z.y10
@[irreducible]def Mc.h5 (z:Mc):Int:=z.y11
@[irreducible]def Mc.h6 (z:Mc):Int:=z.y12
@[irreducible]def Mc.a0 (z:Mc):Int:=z.y13
@[irreducible]def Mc.a1 (z:Mc):Int:=z.y14
@[irreducible]def Mc.a2 (z:Mc):Int:=z.y15
@[irreducible]def Mc.mi (z:Mc):Int:=z.y16
@[irreducible]def Mc.ti (z:Mc):Int:=z.y17
@[irreducible]def Mc.d0 (z:Mc):Bool:=z.y18
@[irreducible]def Mc.d1 (z:Mc):Bool:=z.y19
@[irreducible]def Mc.d2 (z:Mc):Bool:=z.y20
@[irreducible]def Mc.fi (z:Mc):Bool:=z.y21
section
variable (x0:Gd) (x1 x2:Int) (x3 x4 x5:Bool) (x6 x7 x8 x9 x10 x11 x12 x13 x14 x15 x16 x17:Int) (x18 x19 x20 x21:Bool)
@[simp]theorem Mc.g_mk:(Mc.mk x0 x1 x2 x3 x4 x5 x6 x7 x8 x9 x10 x11 x12 x13 x14 x15 x16 x17 x18 x19 x20 x21).g=x0:=by unfold Mc.g;rfl
@[simp]theorem Mc.ph_mk:(Mc.mk x0 x1 x2 x3 x4 x5 x6 x7 x8 x9 x10 x11 x12 x13 x14 x15 x16 x17 x18 x19 x20 x21).ph=x1:=by unfold Mc.ph;rfl
@[simp]theorem Mc.ca_mk:(Mc.mk x0 x1 x2 x3 x4 x5 x6 x7 x8 x9 x10 x11 x12 x13 x14 x15 x16 x17 x18 x19 x20 x21).ca=x2:=by unfold Mc.ca;rfl
@[simp]theorem Mc.b0_mk:(Mc.mk x0 x1 x2 x3 x4 x5 x6 x7 x8 x9 x10 x11 x12 x13 x14 x15 x16 x17 x18 x19 x20 x21).b0=x3:=by unfold Mc.b0;rfl
@[simp]theorem Mc.b1_mk:(Mc.mk x0 x1 x2 x3 x4 x5 x6 x7 x8 x9 x10 x11 x12 x13 x14 x15 x16 x17 x18 x19 x20 x21).b1=x4:=by unfold Mc.b1;rfl
@[simp]theorem Mc.b2_mk:(Mc.mk x0 x1 x2 x3 x4 x5 x6 x7 x8 x9 x10 x11 x12 x13 x14 x15 x16 x17 x18 x19 x20 x21).b2=x5:=by unfold Mc.b2;rfl
@[simp]theorem Mc.h0_mk:(Mc.mk x0 x1 x2 x3 x4 x5 x6 x7 x8 x9 x10 x11 x12 x13 x14 x15 x16 x17 x18 x19 x20 x21).h0=x6:=by unfold Mc.h0;rfl
@[simp]theorem Mc.h1_mk:(Mc.mk x0 x1 x2 x3 x4 x5 x6 x7 x8 x9 x10 x11 x12 x13 x14 x15 x16 x17 x18 x19 x20 x21).h1=x7:=by unfold Mc.h1;rfl
@[simp]theorem Mc.h2_mk:(Mc.mk x0 x1 x2 x3 x4 x5 x6 x7 x8 x9 x10 x11 x12 x13 x14 x15 x16 x17 x18 x19 x20 x21).h2=x8:=by unfold Mc.h2;rfl
@[simp]theorem Mc.h3_mk:(Mc.mk x0 x1 x2 x3 x4 x5 x6 x7 x8 x9 x10 x11 x12 x13 x14 x15 x16 x17 x18 x19 x20 x21).h3=x9:=by unfold Mc.h3;rfl
@[simp]theorem Mc.h4_mk:(Mc.mk x0 x1 x2 x3 x4 x5 x6 x7 x8 x9 x10 x11 x12 x13 x14 x15 x16 x17 x18 x19 x20 x21).h4=x10:=by unfold Mc.h4;rfl
@[simp]theorem Mc.h5_mk:(Mc.mk x0 x1 x2 x3 x4 x5 x6 x7 x8 x9 x10 x11 x12 x13 x14 x15 x16 x17 x18 x19 x20 x21).h5=x11:=by unfold Mc.h5;rfl
@[simp]theorem Mc.h6_mk:(Mc.mk x0 x1 x2 x3 x4 x5 x6 x7 x8 x9 x10 x11 x12 x13 x14 x15 x16 x17 x18 x19 x20 x21).h6=x12:=by unfold Mc.h6;rfl
@[simp]theorem Mc.a0_mk:(Mc.mk x0 x1 x2 x3 x4 x5 x6 x7 x8 x9 x10 x11 x12 x13 x14 x15 x16 x17 x18 x19 x20 x21).a0=x13:=by unfold Mc.a0;rfl
@[simp]theorem Mc.a1_mk:(Mc.mk x0 x1 x2 x3 x4 x5 x6 x7 x8 x9 x10 x11 x12 x13 x14 x15 x16 x17 x18 x19 x20 x21).a1=x14:=by unfold Mc.a1;rfl
@[simp]theorem Mc.a2_mk:(Mc.mk x0 x1 x2 x3 x4 x5 x6 x7 x8 x9 x10 x11 x12 x13 x14 x15 x16 x17 x18 x19 x20 x21).a2=x15:=by unfold Mc.a2;rfl
@[simp]theorem Mc.mi_mk:(Mc.mk x0 x1 x2 x3 x4 x5 x6 x7 x8 x9 x10 x11 x12 x13 x14 x15 x16 x17 x18 x19 x20 x21).mi=x16:=by unfold Mc.mi;rfl
@[simp]theorem Mc.ti_mk:(Mc.mk x0 x1 x2 x3 x4 x5 x6 x7 x8 x9 x10 x11 x12 x13 x14 x15 x16 x17 x18 x19 x20 x21).ti=x17:=by unfold Mc.ti;rfl
@[simp]theorem Mc.d0_mk:(Mc.mk x0 x1 x2 x3 x4 x5 x6 x7 x8 x9 x10 x11 x12 x13 x14 x15 x16 x17 x18 x19 x20 x21).d0=x18:=by unfold Mc.d0;rfl
@[simp]theorem Mc.d1_mk:(Mc.mk x0 x1 x2 x3 x4 x5 x6 x7 x8 x9 x10 x11 x12 x13 x14 x15 x16 x17 x18 x19 x20 x21).d1=x19:=by unfold Mc.d1;rfl
@[simp]theorem Mc.d2_mk:(Mc.mk x0 x1 x2 x3 x4 x5 x6 x7 x8 x9 x10 x11 x12 x13 x14 x15 x16 x17 x18 x19 x20 x21).d2=x20:=by unfold Mc.d2;rfl
@[simp]theorem Mc.fi_mk:(Mc.mk x0 x1 x2 x3 x4 x5 x6 x7 x8 x9 x10 x11 x12 x13 x14 x15 x16 x17 x18 x19 x20 x21).fi=x21:=by unfold Mc.fi;rfl
end
@[simp]theorem Mc.eta (z:Mc):Mc.mk z.g z.ph z.ca z.b0 z.b1 z.b2 z.h0 z.h1 z.h2 z.h3 z.h4 z.h5 z.h6 z.a0 z.a1 z.a2 z.mi z.ti z.d0 z.d1 z.d2 z.fi=z:=by unfold Mc.g Mc.ph Mc.ca Mc.b0 Mc.b1 Mc.b2 Mc.h0 Mc.h1 Mc.h2 Mc.h3 Mc.h4 Mc.h5 Mc.h6 Mc.a0 Mc.a1 Mc.a2 Mc.mi Mc.ti Mc.d0 Mc.d1 Mc.d2 Mc.fi;rfl
abbrev yq:=yr × Int × Int × Bool × Bool × Bool × Int × Int × Int × Int × Int × Int × Int × Int × Int × Int × Int × Int × Bool × Bool × Bool × Bool × Unit
@[irreducible]def G4 (z:yq):Mc :=
 let (x0,x1,x2,x3,x4,x5,x6,x7,x8,x9,x10,x11,x12,x13,x14,x15,x16,x17,x18,x19,x20,x21,_):=z
 ⟨J4 x0,x1,x2,x3,x4,x5,x6,x7,x8,x9,x10,x11,x12,x13,x14,x15,x16,x17,x18,x19,x20,x21⟩
@[reducible]def bD (z:Mc):yq:=(J6 z.g,z.ph,z.ca,z.b0,z.b1,z.b2,z.h0,z.h1,z.h2,z.h3,z.h4,z.h5,z.h6,z.a0,z.a1,z.a2,z.mi,z.ti,z.d0,z.d1,z.d2,z.fi,())
def Na (z:Mc):List AV:=[.xp (Lr z.g),.si .i64 z.ph,.si .i64 z.ca,.sb z.b0,.sb z.b1,.sb z.b2,.si .i64 z.h0,.si .i64 z.h1,.si .i64 z.h2,.si .i64 z.h3,.si .i64 z.h4,.si .i64 z.h5,.si .i64 z.h6,.si .i64 z.a0,.si .i64 z.a1,.si .i64 z.a2,.si .i64 z.mi,.si .i64 z.ti,.sb z.d0,.sb z.d1,.sb z.d2,.sb z.fi]
@[reducible]def sg:List Sh:=[.ptr Dy,.int .i64,.int .i64,.bool,.bool,.bool,.int .i64,.int .i64,.int .i64,.int .i64,.int .i64,.int .i64,.int .i64,.int .i64,.int .i64,.int .i64,.int .i64,.int .i64,.bool,.bool,.bool,.bool]
theorem Kl (z:Mc):G4 (bD z)=z:=by unfold G4 bD;simp only [Ko];unfold Mc.g Mc.ph Mc.ca Mc.b0 Mc.b1 Mc.b2 Mc.h0 Mc.h1 Mc.h2 Mc.h3 Mc.h4 Mc.h5 Mc.h6 Mc.a0 Mc.a1 Mc.a2 Mc.mi Mc.ti Mc.d0 Mc.d1 Mc.d2 Mc.fi;rfl
@[simp]theorem AO0 (z:Mc):G4 ((4100000,3200000,100000,60000,320000,100000,10000,10000,1000,2000,5000,z.g.d0,z.g.d1,z.g.d2,z.g.d3,z.g.d4,z.g.d5,z.g.d6,1,5,z.g.op,1000,()),z.ph,z.ca,z.b0,z.b1,z.b2,z.h0,z.h1,z.h2,z.h3,z.h4,z.h5,z.h6,z.a0,z.a1,z.a2,z.mi,z.ti,z.d0,z.d1,z.d2,z.fi,())=z:=Kl z
theorem JT (g:Gd) (x0 x1:Int) (x2 x3 x4:Bool) (x5 x6 x7 x8 x9 x10 x11 x12 x13 x14 x15 x16:Int) (x17 x18 x19 x20:Bool):G4 ((4100000,3200000,100000,60000,320000,100000,10000,10000,1000,2000,5000,g.d0,g.d1,g.d2,g.d3,g.d4,g.d5,g.d6,1,5,g.op,1000,()),x0,x1,x2,x3,x4,x5,x6,x7,x8,x9,x10,x11,x12,x13,x14,x15,x16,x17,x18,x19,x20,())=⟨g,x0,x1,x2,x3,x4,x5,x6,x7,x8,x9,x10,x11,x12,x13,x14,x15,x16,x17,x18,x19,x20⟩:=by unfold G4;simp only [cL]
@[irreducible]def mJ (x:yq):Prop:=x=bD (G4 x)
theorem mcC_iff {x:yq}:mJ x↔x=bD (G4 x):=by unfold mJ;exact Iff.rfl
@[simp]theorem AV8 (g:Gd) (x0 x1:Int) (x2 x3 x4:Bool) (x5 x6 x7 x8 x9 x10 x11 x12 x13 x14 x15 x16:Int) (x17 x18 x19 x20:Bool):mJ ((4100000,3200000,100000,60000,320000,100000,10000,10000,1000,2000,5000,g.d0,g.d1,g.d2,g.d3,g.d4,g.d5,g.d6,1,5,g.op,1000,()),x0,x1,x2,x3,x4,x5,x6,x7,x8,x9,x10,x11,x12,x13,x14,x15,x16,x17,x18,x19,x20,()):=mcC_iff.2 (by rw [JT];unfold bD;simp)
theorem iu (g:Gd) (x0:Bool) (x1 x2 x3 x4 x5:Int) (x6:Bool) (x7 x8 x9 x10 x11:Int) (x12:Bool) (x13 x14 x15 x16 x17:Int) (x18 x19 x20:Bool):EG ((4100000,3200000,100000,60000,320000,100000,10000,10000,1000,2000,5000,g.d0,g.d1,g.d2,g.d3,g.d4,g.d5,g.d6,1,5,g.op,1000,()),x0,x1,x2,x3,x4,x5,x6,x7,x8,x9,x10,x11,x12,x13,x14,x15,x16,x17,x18,x19,x20,())=⟨g,x0,x1,x2,x3,x4,x5,x6,x7,x8,x9,x10,x11,x12,x13,x14,x15,x16,x17,x18,x19,x20⟩:=by unfold EG;simp only [cL]
@[irreducible]def sO (x:PnT):Prop:=x=aP (EG x)
theorem pnC_iff {x:PnT}:sO x↔x=aP (EG x):=by unfold sO;exact Iff.rfl
@[simp]theorem AV5 (g:Gd) (x0:Bool) (x1 x2 x3 x4 x5:Int) (x6:Bool) (x7 x8 x9 x10 x11:Int) (x12:Bool) (x13 x14 x15 x16 x17:Int) (x18 x19 x20:Bool):sO ((4100000,3200000,100000,60000,320000,100000,10000,10000,1000,2000,5000,g.d0,g.d1,g.d2,g.d3,g.d4,g.d5,g.d6,1,5,g.op,1000,()),x0,x1,x2,x3,x4,x5,x6,x7,x8,x9,x10,x11,x12,x13,x14,x15,x16,x17,x18,x19,x20,()):=pnC_iff.2 (by rw [iu];unfold aP;simp)
theorem tt (x0:Bool) (x1 x2 x3 x4 x5:Int) (x6:Bool) (x7 x8 x9 x10 x11:Int) (x12:Bool) (x13 x14 x15 x16 x17:Int) (x18 x19 x20 x21 x22 x23 x24 x25 x26:Bool) (x27 x28:Int) (x29 x30 x31 x32 x33 x34 x35 x36 x37 x38 x39:Bool):IR (x0,x1,x2,x3,x4,x5,x6,x7,x8,x9,x10,x11,x12,x13,x14,x15,x16,x17,x18,x19,x20,x21,x22,x23,x24,x25,x26,x27,x28,x29,x30,x31,x32,x33,x34,x35,x36,x37,x38,x39,())=⟨x0,x1,x2,x3,x4,x5,x6,x7,x8,x9,x10,x11,x12,x13,x14,x15,x16,x17,x18,x19,x20,x21,x22,x23,x24,x25,x26,x27,x28,x29,x30,x31,x32,x33,x34,x35,x36,x37,x38,x39⟩:=by unfold IR;rfl
@[irreducible]def AF (m:Mc) (s:Sg):Pn:=⟨m.g,s.h0,s.v00,s.v01,s.v02,s.v03,s.v04,s.h1,s.v10,s.v11,s.v12,s.v13,s.v14,s.h2,s.v20,s.v21,s.v22,s.v23,s.v24,m.b0,m.b1,m.b2⟩
section
variable (m:Mc) (s:Sg)
@[simp]theorem AV4:(AF m s).g=m.g:=by unfold AF;simp
@[simp]theorem iy:(AF m s).h0=s.h0:=by unfold AF;simp
@[simp]theorem aO:(AF m s).v00=s.v00:=by unfold AF;simp
@[simp]theorem aN:(AF m s).v01=s.v01:=by unfold AF;simp
@[simp]theorem aM:(AF m s).v02=s.v02:=by unfold AF;simp
@[simp]theorem aL:(AF m s).v03=s.v03:=by unfold AF;simp
@[simp]theorem aK:(AF m s).v04=s.v04:=by unfold AF;simp
@[simp]theorem iw:(AF m s).h1=s.h1:=by unfold AF;simp
@[simp]theorem aJ:(AF m s).v10=s.v10:=by unfold AF;simp
@[simp]theorem aI:(AF m s).v11=s.v11:=by unfold AF;simp
@[simp]theorem aH:(AF m s).v12=s.v12:=by unfold AF;simp
@[simp]theorem aG:(AF m s).v13=s.v13:=by unfold AF;simp
@[simp]theorem aF:(AF m s).v14=s.v14:=by unfold AF;simp
@[simp]theorem iv:(AF m s).h2=s.h2:=by unfold AF;simp
@[simp]theorem aD:(AF m s).v20=s.v20:=by unfold AF;simp
@[simp]theorem aC:(AF m s).v21=s.v21:=by unfold AF;simp
@[simp]theorem aB:(AF m s).v22=s.v22:=by unfold AF;simp
@[simp]theorem aA:(AF m s).v23=s.v23:=by unfold AF;simp
@[simp]theorem a_:(AF m s).v24=s.v24:=by unfold AF;simp
@[simp]theorem j5:(AF m s).b0=m.b0:=by unfold AF;simp
@[simp]theorem j4:(AF m s).b1=m.b1:=by unfold AF;simp
@[simp]theorem j0:(AF m s).b2=m.b2:=by unfold AF;simp
end
@[simp]theorem AM9 (m:Mc) (s:Sg):EG ((4100000,3200000,100000,60000,320000,100000,10000,10000,1000,2000,5000,m.g.d0,m.g.d1,m.g.d2,m.g.d3,m.g.d4,m.g.d5,m.g.d6,1,5,m.g.op,1000,()),s.h0,s.v00,s.v01,s.v02,s.v03,s.v04,s.h1,s.v10,s.v11,s.v12,s.v13,s.v14,s.h2,s.v20,s.v21,s.v22,s.v23,s.v24,m.b0,m.b1,m.b2,())=AF m s:=by rw [iu];unfold AF;rfl
@[irreducible]def Dm (s:Sg) (n0 n1 n2 n3 n4 n5 n6 cu cl:Bool):Sn:=⟨s.h0,s.v00,s.v01,s.v02,s.v03,s.v04,s.h1,s.v10,s.v11,s.v12,s.v13,s.v14,s.h2,s.v20,s.v21,s.v22,s.v23,s.v24,s.c0,s.c1,s.c2,s.w0,s.w1,s.w2,s.k0,s.k1,s.k2,s.lk,s.pk,s.wt,s.rs,n0,n1,n2,n3,n4,n5,n6,cu,cl⟩
section
variable (s:Sg) (n0 n1 n2 n3 n4 n5 n6 cu cl:Bool)
@[simp]theorem AQ6:(Dm s n0 n1 n2 n3 n4 n5 n6 cu cl).h0=s.h0:=by unfold Dm;simp
@[simp]theorem AM3:(Dm s n0 n1 n2 n3 n4 n5 n6 cu cl).v00=s.v00:=by unfold Dm;simp
@[simp]theorem AM2:(Dm s n0 n1 n2 n3 n4 n5 n6 cu cl).v01=s.v01:=by unfold Dm;simp
@[simp]theorem AM1:(Dm s n0 n1 n2 n3 n4 n5 n6 cu cl).v02=s.v02:=by unfold Dm;simp
@[simp]theorem AM0:(Dm s n0 n1 n2 n3 n4 n5 n6 cu cl).v03=s.v03:=by unfold Dm;simp
@[simp]theorem AL9:(Dm s n0 n1 n2 n3 n4 n5 n6 cu cl).v04=s.v04:=by unfold Dm;simp
@[simp]theorem AQ5:(Dm s n0 n1 n2 n3 n4 n5 n6 cu cl).h1=s.h1:=by unfold Dm;simp
@[simp]theorem AL8:(Dm s n0 n1 n2 n3 n4 n5 n6 cu cl).v10=s.v10:=by unfold Dm;simp
@[simp]theorem AL7:(Dm s n0 n1 n2 n3 n4 n5 n6 cu cl).v11=s.v11:=by unfold Dm;simp
@[simp]theorem AL6:(Dm s n0 n1 n2 n3 n4 n5 n6 cu cl).v12=s.v12:=by unfold Dm;simp
@[simp]theorem AL5:(Dm s n0 n1 n2 n3 n4 n5 n6 cu cl).v13=s.v13:=by unfold Dm;simp
@[simp]theorem AL4:(Dm s n0 n1 n2 n3 n4 n5 n6 cu cl).v14=s.v14:=by unfold Dm;simp
@[simp]theorem AQ4:(Dm s n0 n1 n2 n3 n4 n5 n6 cu cl).h2=s.h2:=by unfold Dm;simp
@[simp]theorem AL3:(Dm s n0 n1 n2 n3 n4 n5 n6 cu cl).v20=s.v20:=by unfold Dm;simp
@[simp]theorem AL2:(Dm s n0 n1 n2 n3 n4 n5 n6 cu cl).v21=s.v21:=by unfold Dm;simp
@[simp]theorem AL1:(Dm s n0 n1 n2 n3 n4 n5 n6 cu cl).v22=s.v22:=by unfold Dm;simp
@[simp]theorem AL0:(Dm s n0 n1 n2 n3 n4 n5 n6 cu cl).v23=s.v23:=by unfold Dm;simp
@[simp]theorem AK9:(Dm s n0 n1 n2 n3 n4 n5 n6 cu cl).v24=s.v24:=by unfold Dm;simp
@[simp]theorem AR1:(Dm s n0 n1 n2 n3 n4 n5 n6 cu cl).c0=s.c0:=by unfold Dm;simp
@[simp]theorem AR0:(Dm s n0 n1 n2 n3 n4 n5 n6 cu cl).c1=s.c1:=by unfold Dm;simp
@[simp]theorem AQ9:(Dm s n0 n1 n2 n3 n4 n5 n6 cu cl).c2=s.c2:=by unfold Dm;simp
@[simp]theorem AP7:(Dm s n0 n1 n2 n3 n4 n5 n6 cu cl).w0=s.w0:=by unfold Dm;simp
@[simp]theorem AP6:(Dm s n0 n1 n2 n3 n4 n5 n6 cu cl).w1=s.w1:=by unfold Dm;simp
@[simp]theorem AP5:(Dm s n0 n1 n2 n3 n4 n5 n6 cu cl).w2=s.w2:=by unfold Dm;simp
@[simp]theorem AQ3:(Dm s n0 n1 n2 n3 n4 n5 n6 cu cl).k0=s.k0:=by unfold Dm;simp
@[simp]theorem AQ2:(Dm s n0 n1 n2 n3 n4 n5 n6 cu cl).k1=s.k1:=by unfold Dm;simp
@[simp]theorem AQ1:(Dm s n0 n1 n2 n3 n4 n5 n6 cu cl).k2=s.k2:=by unfold Dm;simp
@[simp]theorem AQ0:(Dm s n0 n1 n2 n3 n4 n5 n6 cu cl).lk=s.lk:=by unfold Dm;simp
@[simp]theorem AP9:(Dm s n0 n1 n2 n3 n4 n5 n6 cu cl).pk=s.pk:=by unfold Dm;simp
@[simp]theorem AP4:(Dm s n0 n1 n2 n3 n4 n5 n6 cu cl).wt=s.wt:=by unfold Dm;simp
@[simp]theorem AP8:(Dm s n0 n1 n2 n3 n4 n5 n6 cu cl).rs=s.rs:=by unfold Dm;simp
@[simp]theorem u5:(Dm s n0 n1 n2 n3 n4 n5 n6 cu cl).n0=n0:=by unfold Dm;simp
@[simp]theorem u4:(Dm s n0 n1 n2 n3 n4 n5 n6 cu cl).n1=n1:=by unfold Dm;simp
@[simp]theorem u3:(Dm s n0 n1 n2 n3 n4 n5 n6 cu cl).n2=n2:=by unfold Dm;simp
@[simp]theorem tx:(Dm s n0 n1 n2 n3 n4 n5 n6 cu cl).n3=n3:=by unfold Dm;simp
@[simp]theorem tw:(Dm s n0 n1 n2 n3 n4 n5 n6 cu cl).n4=n4:=by unfold Dm;simp
@[simp]theorem tv:(Dm s n0 n1 n2 n3 n4 n5 n6 cu cl).n5=n5:=by unfold Dm;simp
@[simp]theorem tu:(Dm s n0 n1 n2 n3 n4 n5 n6 cu cl).n6=n6:=by unfold Dm;simp
@[simp]theorem AQ7:(Dm s n0 n1 n2 n3 n4 n5 n6 cu cl).cu=cu:=by unfold Dm;simp
@[simp]theorem AQ8:(Dm s n0 n1 n2 n3 n4 n5 n6 cu cl).cl=cl:=by unfold Dm;simp
end
@[simp]theorem AK7 (s:Sg) (n0 n1 n2 n3 n4 n5 n6 cu cl:Bool):IR (s.h0,s.v00,s.v01,s.v02,s.v03,s.v04,s.h1,s.v10,s.v11,s.v12,s.v13,s.v14,s.h2,s.v20,s.v21,s.v22,s.v23,s.v24,s.c0,s.c1,s.c2,s.w0,s.w1,s.w2,s.k0,s.k1,s.k2,s.lk,s.pk,s.wt,s.rs,n0,n1,n2,n3,n4,n5,n6,cu,cl,())=Dm s n0 n1 n2 n3 n4 n5 n6 cu cl:=by rw [tt];unfold Dm;rfl
@[irreducible]def Mc.s_ph (z:Mc) (v:Int):Mc:=⟨z.y0,v,z.y2,z.y3,z.y4,z.y5,z.y6,z.y7,z.y8,z.y9,z.y10,z.y11,z.y12,z.y13,z.y14,z.y15,z.y16,z.y17,z.y18,z.y19,z.y20,z.y21⟩
@[simp]theorem Mc.s_ph_s (z:Mc) (v:Int):(z.s_ph v).g=z.g/\(z.s_ph v).ph=v/\(z.s_ph v).ca=z.ca/\(z.s_ph v).b0=z.b0/\(z.s_ph v).b1=z.b1/\(z.s_ph v).b2=z.b2/\(z.s_ph v).h0=z.h0/\(z.s_ph v).h1=z.h1/\(z.s_ph v).h2=z.h2/\(z.s_ph v).h3=z.h3/\(z.s_ph v).h4=z.h4/\(z.s_ph v).h5=z.h5/\(z.s_ph v).h6=z.h6/\(z.s_ph v).a0=z.a0/\(z.s_ph v).a1=z.a1/\(z.s_ph v).a2=z.a2/\(z.s_ph v).mi=z.mi/\(z.s_ph v).ti=z.ti/\(z.s_ph v).d0=z.d0/\(z.s_ph v).d1=z.d1/\(z.s_ph v).d2=z.d2/\(z.s_ph v).fi=z.fi:=by unfold Mc.s_ph Mc.g Mc.ph Mc.ca Mc.b0 Mc.b1 Mc.b2 Mc.h0 Mc.h1 Mc.h2 Mc.h3 Mc.h4 Mc.h5 Mc.h6 Mc.a0 Mc.a1 Mc.a2 Mc.mi Mc.ti Mc.d0 Mc.d1 Mc.d2 Mc.fi;exact ⟨rfl,rfl,rfl,rfl,rfl,rfl,rfl,rfl,rfl,rfl,rfl,rfl,rfl,rfl,rfl,rfl,rfl,rfl,rfl,rfl,rfl,rfl⟩
@[irreducible]def Mc.s_ca (z:Mc) (v:Int):Mc:=⟨z.y0,z.y1,v,z.y3,z.y4,z.y5,z.y6,z.y7,z.y8,z.y9,z.y10,z.y11,z.y12,z.y13,z.y14,z.y15,z.y16,z.y17,z.y18,z.y19,z.y20,z.y21⟩
@[simp]theorem Mc.s_ca_s (z:Mc) (v:Int):(z.s_ca v).g=z.g/\(z.s_ca v).ph=z.ph/\(z.s_ca v).ca=v/\(z.s_ca v).b0=z.b0/\(z.s_ca v).b1=z.b1/\(z.s_ca v).b2=z.b2/\(z.s_ca v).h0=z.h0/\(z.s_ca v).h1=z.h1/\(z.s_ca v).h2=z.h2/\(z.s_ca v).h3=z.h3/\(z.s_ca v).h4=z.h4/\(z.s_ca v).h5=z.h5/\(z.s_ca v).h6=z.h6/\(z.s_ca v).a0=z.a0/\(z.s_ca v).a1=z.a1/\(z.s_ca v).a2=z.a2/\(z.s_ca v).mi=z.mi/\(z.s_ca v).ti=z.ti/\(z.s_ca v).d0=z.d0/\(z.s_ca v).d1=z.d1/\(z.s_ca v).d2=z.d2/\(z.s_ca v).fi=z.fi:=by unfold Mc.s_ca Mc.g Mc.ph Mc.ca Mc.b0 Mc.b1 Mc.b2 Mc.h0 Mc.h1 Mc.h2 Mc.h3 Mc.h4 Mc.h5 Mc.h6 Mc.a0 Mc.a1 Mc.a2 Mc.mi Mc.ti Mc.d0 Mc.d1 Mc.d2 Mc.fi;exact ⟨rfl,rfl,rfl,rfl,rfl,rfl,rfl,rfl,rfl,rfl,rfl,rfl,rfl,rfl,rfl,rfl,rfl,rfl,rfl,rfl,rfl,rfl⟩
@[irreducible]def Mc.s_h0 (z:Mc) (v:Int):Mc:=⟨z.y0,z.y1,z.y2,z.y3,z.y4,z.y5,v,z.y7,z.y8,z.y9,z.y10,z.y11,z.y12,z.y13,z.y14,z.y15,z.y16,z.y17,z.y18,z.y19,z.y20,z.y21⟩
@[simp]theorem Mc.s_h0_s (z:Mc) (v:Int):(z.s_h0 v).g=z.g/\(z.s_h0 v).ph=z.ph/\(z.s_h0 v).ca=z.ca/\(z.s_h0 v).b0=z.b0/\(z.s_h0 v).b1=z.b1/\(z.s_h0 v).b2=z.b2/\(z.s_h0 v).h0=v/\(z.s_h0 v).h1=z.h1/\(z.s_h0 v).h2=z.h2/\(z.s_h0 v).h3=z.h3/\(z.s_h0 v).h4=z.h4/\(z.s_h0 v).h5=z.h5/\(z.s_h0 v).h6=z.h6/\(z.s_h0 v).a0=z.a0/\(z.s_h0 v).a1=z.a1/\(z.s_h0 v).a2=z.a2/\(z.s_h0 v).mi=z.mi/\(z.s_h0 v).ti=z.ti/\(z.s_h0 v).d0=z.d0/\(z.s_h0 v).d1=z.d1/\(z.s_h0 v).d2=z.d2/\(z.s_h0 v).fi=z.fi:=by unfold Mc.s_h0 Mc.g Mc.ph Mc.ca Mc.b0 Mc.b1 Mc.b2 Mc.h0 Mc.h1 Mc.h2 Mc.h3 Mc.h4 Mc.h5 Mc.h6 Mc.a0 Mc.a1 Mc.a2 Mc.mi Mc.ti Mc.d0 Mc.d1 Mc.d2 Mc.fi;exact ⟨rfl,rfl,rfl,rfl,rfl,rfl,rfl,rfl,rfl,rfl,rfl,rfl,rfl,rfl,rfl,rfl,rfl,rfl,rfl,rfl,rfl,rfl⟩
@[irreducible]def Mc.s_h1 (z:Mc) (v:Int):Mc:=⟨z.y0,z.y1,z.y2,z.y3,z.y4,z.y5,z.y6,v,z.y8,z.y9,z.y10,z.y11,z.y12,z.y13,z.y14,z.y15,z.y16,z.y17,z.y18,z.y19,z.y20,z.y21⟩
@[simp]theorem Mc.s_h1_s (z:Mc) (v:Int):(z.s_h1 v).g=z.g/\(z.s_h1 v).ph=z.ph/\(z.s_h1 v).ca=z.ca/\(z.s_h1 v).b0=z.b0/\(z.s_h1 v).b1=z.b1/\(z.s_h1 v).b2=z.b2/\(z.s_h1 v).h0=z.h0/\(z.s_h1 v).h1=v/\(z.s_h1 v).h2=z.h2/\(z.s_h1 v).h3=z.h3/\(z.s_h1 v).h4=z.h4/\(z.s_h1 v).h5=z.h5/\(z.s_h1 v).h6=z.h6/\(z.s_h1 v).a0=z.a0/\(z.s_h1 v).a1=z.a1/\(z.s_h1 v).a2=z.a2/\(z.s_h1 v).mi=z.mi/\(z.s_h1 v).ti=z.ti/\(z.s_h1 v).d0=z.d0/\(z.s_h1 v).d1=z.d1/\(z.s_h1 v).d2=z.d2/\(z.s_h1 v).fi=z.fi:=by unfold Mc.s_h1 Mc.g Mc.ph Mc.ca Mc.b0 Mc.b1 Mc.b2 Mc.h0 Mc.h1 Mc.h2 Mc.h3 Mc.h4 Mc.h5 Mc.h6 Mc.a0 Mc.a1 Mc.a2 Mc.mi Mc.ti Mc.d0 Mc.d1 Mc.d2 Mc.fi;exact ⟨rfl,rfl,rfl,rfl,rfl,rfl,rfl,rfl,rfl,rfl,rfl,rfl,rfl,rfl,rfl,rfl,rfl,rfl,rfl,rfl,rfl,rfl⟩
@[irreducible]def Mc.s_h2 (z:Mc) (v:Int):Mc:=⟨z.y0,z.y1,z.y2,z.y3,z.y4,z.y5,z.y6,z.y7,v,z.y9,z.y10,z.y11,z.y12,z.y13,z.y14,z.y15,z.y16,z.y17,z.y18,z.y19,z.y20,z.y21⟩
@[simp]theorem Mc.s_h2_s (z:Mc) (v:Int):(z.s_h2 v).g=z.g/\(z.s_h2 v).ph=z.ph/\(z.s_h2 v).ca=z.ca/\(z.s_h2 v).b0=z.b0/\(z.s_h2 v).b1=z.b1/\(z.s_h2 v).b2=z.b2/\(z.s_h2 v).h0=z.h0/\(z.s_h2 v).h1=z.h1/\(z.s_h2 v).h2=v/\(z.s_h2 v).h3=z.h3/\(z.s_h2 v).h4=z.h4/\(z.s_h2 v).h5=z.h5/\(z.s_h2 v).h6=z.h6/\(z.s_h2 v).a0=z.a0/\(z.s_h2 v).a1=z.a1/\(z.s_h2 v).a2=z.a2/\(z.s_h2 v).mi=z.mi/\(z.s_h2 v).ti=z.ti/\(z.s_h2 v).d0=z.d0/\(z.s_h2 v).d1=z.d1/\(z.s_h2 v).d2=z.d2/\(z.s_h2 v).fi=z.fi:=by unfold Mc.s_h2 Mc.g Mc.ph Mc.ca Mc.b0 Mc.b1 Mc.b2 Mc.h0 Mc.h1 Mc.h2 Mc.h3 Mc.h4 Mc.h5 Mc.h6 Mc.a0 Mc.a1 Mc.a2 Mc.mi Mc.ti Mc.d0 Mc.d1 Mc.d2 Mc.fi;exact ⟨rfl,rfl,rfl,rfl,rfl,rfl,rfl,rfl,rfl,rfl,rfl,rfl,rfl,rfl,rfl,rfl,rfl,rfl,rfl,rfl,rfl,rfl⟩
@[irreducible]def Mc.s_h3 (z:Mc) (v:Int):Mc:=⟨z.y0,z.y1,z.y2,z.y3,z.y4,z.y5,z.y6,z.y7,z.y8,v,z.y10,z.y11,z.y12,z.y13,z.y14,z.y15,z.y16,z.y17,z.y18,z.y19,z.y20,z.y21⟩
@[simp]theorem Mc.s_h3_s (z:Mc) (v:Int):(z.s_h3 v).g=z.g/\(z.s_h3 v).ph=z.ph/\(z.s_h3 v).ca=z.ca/\(z.s_h3 v).b0=z.b0/\(z.s_h3 v).b1=z.b1/\(z.s_h3 v).b2=z.b2/\(z.s_h3 v).h0=z.h0/\(z.s_h3 v).h1=z.h1/\(z.s_h3 v).h2=z.h2/\(z.s_h3 v).h3=v/\(z.s_h3 v).h4=z.h4/\(z.s_h3 v).h5=z.h5/\(z.s_h3 v).h6=z.h6/\(z.s_h3 v).a0=z.a0/\(z.s_h3 v).a1=z.a1/\(z.s_h3 v).a2=z.a2/\(z.s_h3 v).mi=z.mi/\(z.s_h3 v).ti=z.ti/\(z.s_h3 v).d0=z.d0/\(z.s_h3 v).d1=z.d1/\(z.s_h3 v).d2=z.d2/\(z.s_h3 v).fi=z.fi:=by unfold Mc.s_h3 Mc.g Mc.ph Mc.ca Mc.b0 Mc.b1 Mc.b2 Mc.h0 Mc.h1 Mc.h2 Mc.h3 Mc.h4 Mc.h5 Mc.h6 Mc.a0 Mc.a1 Mc.a2 Mc.mi Mc.ti Mc.d0 Mc.d1 Mc.d2 Mc.fi;exact ⟨rfl,rfl,rfl,rfl,rfl,rfl,rfl,rfl,rfl,rfl,rfl,rfl,rfl,rfl,rfl,rfl,rfl,rfl,rfl,rfl,rfl,rfl⟩
@[irreducible]def Mc.s_h4 (z:Mc) (v:Int):Mc:=⟨z.y0,z.y1,z.y2,z.y3,z.y4,z.y5,z.y6,z.y7,z.y8,z.y9,v,z.y11,z.y12,z.y13,z.y14,z.y15,z.y16,z.y17,z.y18,z.y19,z.y20,z.y21⟩
@[simp]theorem Mc.s_h4_s (z:Mc) (v:Int):(z.s_h4 v).g=z.g/\(z.s_h4 v).ph=z.ph/\(z.s_h4 v).ca=z.ca/\(z.s_h4 v).b0=z.b0/\(z.s_h4 v).b1=z.b1/\(z.s_h4 v).b2=z.b2/\(z.s_h4 v).h0=z.h0/\(z.s_h4 v).h1=z.h1/\(z.s_h4 v).h2=z.h2/\(z.s_h4 v).h3=z.h3/\(z.s_h4 v).h4=v/\(z.s_h4 v).h5=z.h5/\(z.s_h4 v).h6=z.h6/\(z.s_h4 v).a0=z.a0/\(z.s_h4 v).a1=z.a1/\(z.s_h4 v).a2=z.a2/\(z.s_h4 v).mi=z.mi/\(z.s_h4 v).ti=z.ti/\(z.s_h4 v).d0=z.d0/\(z.s_h4 v).d1=z.d1/\(z.s_h4 v).d2=z.d2/\(z.s_h4 v).fi=z.fi:=by unfold Mc.s_h4 Mc.g Mc.ph Mc.ca Mc.b0 Mc.b1 Mc.b2 Mc.h0 Mc.h1 Mc.h2 Mc.h3 Mc.h4 Mc.h5 Mc.h6 Mc.a0 Mc.a1 Mc.a2 Mc.mi Mc.ti Mc.d0 Mc.d1 Mc.d2 Mc.fi;exact ⟨rfl,rfl,rfl,rfl,rfl,rfl,rfl,rfl,rfl,rfl,rfl,rfl,rfl,rfl,rfl,rfl,rfl,rfl,rfl,rfl,rfl,rfl⟩
@[irreducible]def Mc.s_h5 (z:Mc) (v:Int):Mc:=⟨z.y0,z.y1,z.y2,z.y3,z.y4,z.y5,z.y6,z.y7,z.y8,z.y9,z.y10,v,z.y12,z.y13,z.y14,z.y15,z.y16,z.y17,z.y18,z.y19,z.y20,z.y21⟩
@[simp]theorem Mc.s_h5_s (z:Mc) (v:Int):(z.s_h5 v).g=z.g/\(z.s_h5 v).ph=z.ph/\(z.s_h5 v).ca=z.ca/\(z.s_h5 v).b0=z.b0/\(z.s_h5 v).b1=z.b1/\(z.s_h5 v).b2=z.b2/\(z.s_h5 v).h0=z.h0/\(z.s_h5 v).h1=z.h1/\(z.s_h5 v).h2=z.h2/\(z.s_h5 v).h3=z.h3/\(z.s_h5 v).h4=z.h4/\(z.s_h5 v).h5=v/\(z.s_h5 v).h6=z.h6/\(z.s_h5 v).a0=z.a0/\(z.s_h5 v).a1=z.a1/\(z.s_h5 v).a2=z.a2/\(z.s_h5 v).mi=z.mi/\(z.s_h5 v).ti=z.ti/\(z.s_h5 v).d0=z.d0/\(z.s_h5 v).d1=z.d1/\(z.s_h5 v).d2=z.d2/\(z.s_h5 v).fi=z.fi:=by unfold Mc.s_h5 Mc.g Mc.ph Mc.ca Mc.b0 Mc.b1 Mc.b2 Mc.h0 Mc.h1 Mc.h2 Mc.h3 Mc.h4 Mc.h5 Mc.h6 Mc.a0 Mc.a1 Mc.a2 Mc.mi Mc.ti Mc.d0 Mc.d1 Mc.d2 Mc.fi;exact ⟨rfl,rfl,rfl,rfl,rfl,rfl,rfl,rfl,rfl,rfl,rfl,rfl,rfl,rfl,rfl,rfl,rfl,rfl,rfl,rfl,rfl,rfl⟩
@[irreducible]def Mc.s_h6 (z:Mc) (v:Int):Mc:=⟨z.y0,z.y1,z.y2,z.y3,z.y4,z.y5,z.y6,z.y7,z.y8,z.y9,z.y10,z.y11,v,z.y13,z.y14,z.y15,z.y16,z.y17,z.y18,z.y19,z.y20,z.y21⟩
@[simp]theorem Mc.s_h6_s (z:Mc) (v:Int):(z.s_h6 v).g=z.g/\(z.s_h6 v).ph=z.ph/\(z.s_h6 v).ca=z.ca/\(z.s_h6 v).b0=z.b0/\(z.s_h6 v).b1=z.b1/\(z.s_h6 v).b2=z.b2/\(z.s_h6 v).h0=z.h0/\(z.s_h6 v).h1=z.h1/\(z.s_h6 v).h2=z.h2/\(z.s_h6 v).h3=z.h3/\(z.s_h6 v).h4=z.h4/\(z.s_h6 v).h5=z.h5/\(z.s_h6 v).h6=v/\(z.s_h6 v).a0=z.a0/\(z.s_h6 v).a1=z.a1/\(z.s_h6 v).a2=z.a2/\(z.s_h6 v).mi=z.mi/\(z.s_h6 v).ti=z.ti/\(z.s_h6 v).d0=z.d0/\(z.s_h6 v).d1=z.d1/\(z.s_h6 v).d2=z.d2/\(z.s_h6 v).fi=z.fi:=by unfold Mc.s_h6 Mc.g Mc.ph Mc.ca Mc.b0 Mc.b1 Mc.b2 Mc.h0 Mc.h1 Mc.h2 Mc.h3 Mc.h4 Mc.h5 Mc.h6 Mc.a0 Mc.a1 Mc.a2 Mc.mi Mc.ti Mc.d0 Mc.d1 Mc.d2 Mc.fi;exact ⟨rfl,rfl,rfl,rfl,rfl,rfl,rfl,rfl,rfl,rfl,rfl,rfl,rfl,rfl,rfl,rfl,rfl,rfl,rfl,rfl,rfl,rfl⟩
@[irreducible]def Mc.s_mi (z:Mc) (v:Int):Mc:=⟨z.y0,z.y1,z.y2,z.y3,z.y4,z.y5,z.y6,z.y7,z.y8,z.y9,z.y10,z.y11,z.y12,z.y13,z.y14,z.y15,v,z.y17,z.y18,z.y19,z.y20,z.y21⟩
@[simp]theorem Mc.s_mi_s (z:Mc) (v:Int):(z.s_mi v).g=z.g/\(z.s_mi v).ph=z.ph/\(z.s_mi v).ca=z.ca/\(z.s_mi v).b0=z.b0/\(z.s_mi v).b1=z.b1/\(z.s_mi v).b2=z.b2/\(z.s_mi v).h0=z.h0/\(z.s_mi v).h1=z.h1/\(z.s_mi v).h2=z.h2/\(z.s_mi v).h3=z.h3/\(z.s_mi v).h4=z.h4/\(z.s_mi v).h5=z.h5/\(z.s_mi v).h6=z.h6/\(z.s_mi v).a0=z.a0/\(z.s_mi v).a1=z.a1/\(z.s_mi v).a2=z.a2/\(z.s_mi v).mi=v/\(z.s_mi v).ti=z.ti/\(z.s_mi v).d0=z.d0/\(z.s_mi v).d1=z.d1/\(z.s_mi v).d2=z.d2/\(z.s_mi v).fi=z.fi:=by unfold Mc.s_mi Mc.g Mc.ph Mc.ca Mc.b0 Mc.b1 Mc.b2 Mc.h0 Mc.h1 Mc.h2 Mc.h3 Mc.h4 Mc.h5 Mc.h6 Mc.a0 Mc.a1 Mc.a2 Mc.mi Mc.ti Mc.d0 Mc.d1 Mc.d2 Mc.fi;exact ⟨rfl,rfl,rfl,rfl,rfl,rfl,rfl,rfl,rfl,rfl,rfl,rfl,rfl,rfl,rfl,rfl,rfl,rfl,rfl,rfl,rfl,rfl⟩
@[irreducible]def Mc.s_ti (z:Mc) (v:Int):Mc:=⟨z.y0,z.y1,z.y2,z.y3,z.y4,z.y5,z.y6,z.y7,z.y8,z.y9,z.y10,z.y11,z.y12,z.y13,z.y14,z.y15,z.y16,v,z.y18,z.y19,z.y20,z.y21⟩
@[simp]theorem Mc.s_ti_s (z:Mc) (v:Int):(z.s_ti v).g=z.g/\(z.s_ti v).ph=z.ph/\(z.s_ti v).ca=z.ca/\(z.s_ti v).b0=z.b0/\(z.s_ti v).b1=z.b1/\(z.s_ti v).b2=z.b2/\(z.s_ti v).h0=z.h0/\(z.s_ti v).h1=z.h1/\(z.s_ti v).h2=z.h2/\(z.s_ti v).h3=z.h3/\(z.s_ti v).h4=z.h4/\(z.s_ti v).h5=z.h5/\(z.s_ti v).h6=z.h6/\(z.s_ti v).a0=z.a0/\(z.s_ti v).a1=z.a1/\(z.s_ti v).a2=z.a2/\(z.s_ti v).mi=z.mi/\(z.s_ti v).ti=v/\(z.s_ti v).d0=z.d0/\(z.s_ti v).d1=z.d1/\(z.s_ti v).d2=z.d2/\(z.s_ti v).fi=z.fi:=by unfold Mc.s_ti Mc.g Mc.ph Mc.ca Mc.b0 Mc.b1 Mc.b2 Mc.h0 Mc.h1 Mc.h2 Mc.h3 Mc.h4 Mc.h5 Mc.h6 Mc.a0 Mc.a1 Mc.a2 Mc.mi Mc.ti Mc.d0 Mc.d1 Mc.d2 Mc.fi;exact ⟨rfl,rfl,rfl,rfl,rfl,rfl,rfl,rfl,rfl,rfl,rfl,rfl,rfl,rfl,rfl,rfl,rfl,rfl,rfl,rfl,rfl,rfl⟩
@[irreducible]def Mc.s_d0 (z:Mc) (v:Bool):Mc:=⟨z.y0,z.y1,z.y2,z.y3,z.y4,z.y5,z.y6,z.y7,z.y8,z.y9,z.y10,z.y11,z.y12,z.y13,z.y14,z.y15,z.y16,z.y17,v,z.y19,z.y20,z.y21⟩
@[simp]theorem Mc.s_d0_s (z:Mc) (v:Bool):(z.s_d0 v).g=z.g/\(z.s_d0 v).ph=z.ph/\(z.s_d0 v).ca=z.ca/\(z.s_d0 v).b0=z.b0/\(z.s_d0 v).b1=z.b1/\(z.s_d0 v).b2=z.b2/\(z.s_d0 v).h0=z.h0/\(z.s_d0 v).h1=z.h1/\(z.s_d0 v).h2=z.h2/\(z.s_d0 v).h3=z.h3/\(z.s_d0 v).h4=z.h4/\(z.s_d0 v).h5=z.h5/\(z.s_d0 v).h6=z.h6/\(z.s_d0 v).a0=z.a0/\(z.s_d0 v).a1=z.a1/\(z.s_d0 v).a2=z.a2/\(z.s_d0 v).mi=z.mi/\(z.s_d0 v).ti=z.ti/\(z.s_d0 v).d0=v/\(z.s_d0 v).d1=z.d1/\(z.s_d0 v).d2=z.d2/\(z.s_d0 v).fi=z.fi:=by unfold Mc.s_d0 Mc.g Mc.ph Mc.ca Mc.b0 Mc.b1 Mc.b2 Mc.h0 Mc.h1 Mc.h2 Mc.h3 Mc.h4 Mc.h5 Mc.h6 Mc.a0 Mc.a1 Mc.a2 Mc.mi Mc.ti Mc.d0 Mc.d1 Mc.d2 Mc.fi;exact ⟨rfl,rfl,rfl,rfl,rfl,rfl,rfl,rfl,rfl,rfl,rfl,rfl,rfl,rfl,rfl,rfl,rfl,rfl,rfl,rfl,rfl,rfl⟩
@[irreducible]def Mc.s_d1 (z:Mc) (v:Bool):Mc:=⟨z.y0,z.y1,z.y2,z.y3,z.y4,z.y5,z.y6,z.y7,z.y8,z.y9,z.y10,z.y11,z.y12,z.y13,z.y14,z.y15,z.y16,z.y17,z.y18,v,z.y20,z.y21⟩
@[simp]theorem Mc.s_d1_s (z:Mc) (v:Bool):(z.s_d1 v).g=z.g/\(z.s_d1 v).ph=z.ph/\(z.s_d1 v).ca=z.ca/\(z.s_d1 v).b0=z.b0/\(z.s_d1 v).b1=z.b1/\(z.s_d1 v).b2=z.b2/\(z.s_d1 v).h0=z.h0/\(z.s_d1 v).h1=z.h1/\(z.s_d1 v).h2=z.h2/\(z.s_d1 v).h3=z.h3/\(z.s_d1 v).h4=z.h4/\(z.s_d1 v).h5=z.h5/\(z.s_d1 v).h6=z.h6/\(z.s_d1 v).a0=z.a0/\(z.s_d1 v).a1=z.a1/\(z.s_d1 v).a2=z.a2/\(z.s_d1 v).mi=z.mi/\(z.s_d1 v).ti=z.ti/\(z.s_d1 v).d0=z.d0/\(z.s_d1 v).d1=v/\(z.s_d1 v).d2=z.d2/\(z.s_d1 v).fi=z.fi:=by unfold Mc.s_d1 Mc.g Mc.ph Mc.ca Mc.b0 Mc.b1 Mc.b2 Mc.h0 Mc.h1 Mc.h2 Mc.h3 Mc.h4 Mc.h5 Mc.h6 Mc.a0 Mc.a1 Mc.a2 Mc.mi Mc.ti Mc.d0 Mc.d1 Mc.d2 Mc.fi;exact ⟨rfl,rfl,rfl,rfl,rfl,rfl,rfl,rfl,rfl,rfl,rfl,rfl,rfl,rfl,rfl,rfl,rfl,rfl,rfl,rfl,rfl,rfl⟩
@[irreducible]def Mc.s_d2 (z:Mc) (v:Bool):Mc:=⟨z.y0,z.y1,z.y2,z.y3,z.y4,z.y5,z.y6,z.y7,z.y8,z.y9,z.y10,z.y11,z.y12,z.y13,z.y14,z.y15,z.y16,z.y17,z.y18,z.y19,v,z.y21⟩
@[simp]theorem Mc.s_d2_s (z:Mc) (v:Bool):(z.s_d2 v).g=z.g/\(z.s_d2 v).ph=z.ph/\(z.s_d2 v).ca=z.ca/\(z.s_d2 v).b0=z.b0/\(z.s_d2 v).b1=z.b1/\(z.s_d2 v).b2=z.b2/\(z.s_d2 v).h0=z.h0/\(z.s_d2 v).h1=z.h1/\(z.s_d2 v).h2=z.h2/\(z.s_d2 v).h3=z.h3/\(z.s_d2 v).h4=z.h4/\(z.s_d2 v).h5=z.h5/\(z.s_d2 v).h6=z.h6/\(z.s_d2 v).a0=z.a0/\(z.s_d2 v).a1=z.a1/\(z.s_d2 v).a2=z.a2/\(z.s_d2 v).mi=z.mi/\(z.s_d2 v).ti=z.ti/\(z.s_d2 v).d0=z.d0/\(z.s_d2 v).d1=z.d1/\(z.s_d2 v).d2=v/\(z.s_d2 v).fi=z.fi:=by unfold Mc.s_d2 Mc.g Mc.ph Mc.ca Mc.b0 Mc.b1 Mc.b2 Mc.h0 Mc.h1 Mc.h2 Mc.h3 Mc.h4 Mc.h5 Mc.h6 Mc.a0 Mc.a1 Mc.a2 Mc.mi Mc.ti Mc.d0 Mc.d1 Mc.d2 Mc.fi;exact ⟨rfl,rfl,rfl,rfl,rfl,rfl,rfl,rfl,rfl,rfl,rfl,rfl,rfl,rfl,rfl,rfl,rfl,rfl,rfl,rfl,rfl,rfl⟩
@[irreducible]def Mc.s_fi (z:Mc) (v:Bool):Mc:=⟨z.y0,z.y1,z.y2,z.y3,z.y4,z.y5,z.y6,z.y7,z.y8,z.y9,z.y10,z.y11,z.y12,z.y13,z.y14,z.y15,z.y16,z.y17,z.y18,z.y19,z.y20,v⟩
@[simp]theorem Mc.s_fi_s (z:Mc) (v:Bool):(z.s_fi v).g=z.g/\(z.s_fi v).ph=z.ph/\(z.s_fi v).ca=z.ca/\(z.s_fi v).b0=z.b0/\(z.s_fi v).b1=z.b1/\(z.s_fi v).b2=z.b2/\(z.s_fi v).h0=z.h0/\(z.s_fi v).h1=z.h1/\(z.s_fi v).h2=z.h2/\(z.s_fi v).h3=z.h3/\(z.s_fi v).h4=z.h4/\(z.s_fi v).h5=z.h5/\(z.s_fi v).h6=z.h6/\(z.s_fi v).a0=z.a0/\(z.s_fi v).a1=z.a1/\(z.s_fi v).a2=z.a2/\(z.s_fi v).mi=z.mi/\(z.s_fi v).ti=z.ti/\(z.s_fi v).d0=z.d0/\(z.s_fi v).d1=z.d1/\(z.s_fi v).d2=z.d2/\(z.s_fi v).fi=v:=by unfold Mc.s_fi Mc.g Mc.ph Mc.ca Mc.b0 Mc.b1 Mc.b2 Mc.h0 Mc.h1 Mc.h2 Mc.h3 Mc.h4 Mc.h5 Mc.h6 Mc.a0 Mc.a1 Mc.a2 Mc.mi Mc.ti Mc.d0 Mc.d1 Mc.d2 Mc.fi;exact ⟨rfl,rfl,rfl,rfl,rfl,rfl,rfl,rfl,rfl,rfl,rfl,rfl,rfl,rfl,rfl,rfl,rfl,rfl,rfl,rfl,rfl,rfl⟩
@[reducible]def AP3 (x:yq) (c:Int):A0 :=
 let (x0,x1,x2,x3,x4,x5,x6,x7,x8,x9,x10,x11,x12,x13,x14,x15,x16,x17,x18,x19,x20,x21,_):=x
 [.cells 103 [.xp (Ab Dy x0),.si .i64 x1,.si .i64 (GB x2 c),.sb x3,.sb x4,.sb x5,.si .i64 x6,.si .i64 x7,.si .i64 x8,.si .i64 x9,.si .i64 x10,.si .i64 x11,.si .i64 x12,.si .i64 x13,.si .i64 x14,.si .i64 x15,.si .i64 x16,.si .i64 x17,.sb x18,.sb x19,.sb x20,.sb x21]]
@[reducible]def AU4 (x:yq) (c:Int):A0 :=
 let (x0,_,x2,x3,x4,x5,x6,x7,x8,x9,x10,x11,x12,x13,x14,x15,x16,_,x18,x19,x20,x21,_):=x
 [.cells 103 [.xp (Ab Dy x0),.si .i64 c,.si .i64 x2,.sb x3,.sb x4,.sb x5,.si .i64 x6,.si .i64 x7,.si .i64 x8,.si .i64 x9,.si .i64 x10,.si .i64 x11,.si .i64 x12,.si .i64 x13,.si .i64 x14,.si .i64 x15,.si .i64 x16,.si .i64 0,.sb x18,.sb x19,.sb x20,.sb x21]]
def dh:AV->Nat
 | .pa n _ _=>n
 | _=>0
def di:AV->Bool
 | .pa _ _ el=>Fu (A4 (el 0) 0)
 | _=>false
structure Pla where
 y0:Bool
 y1:Bool
 y2:Bool
 y3:Bool
 y4:Bool
 y5:Bool
 y6:Bool
 y7:Bool
 y8:Bool
 y9:Bool
 y10:Bool
 y11:Bool
 y12:Bool
 y13:Bool
 y14:Bool
 y15:Bool
 y16:Bool
 y17:Bool
 y18:Bool
 y19:Bool
 y20:Bool
 y21:Bool
 y22:Bool
 y23:Bool
 y24:Bool
 y25:Bool
 y26:Bool
 y27:Bool
 y28:Bool
 y29:Bool
 y30:Bool
 y31:Bool
 y32:Bool
 y33:Bool
 y34:Bool
 y35:Bool
 y36:Bool
 y37:Bool
 y38:Bool
 y39:Bool
 y40:Bool
 y41:Bool
 y42:Bool
 y43:Bool
 y44:Bool
 y45:Bool
 y46:Bool
 y47:Bool
 y48:Bool
 y49:Bool
 y50:Bool
 y51:Bool
 y52:Bool
 y53:Bool
 y54:Bool
 y55:Bool
 y56:Bool
 y57:Bool
 y58:Bool
 y59:Bool
 y60:Bool
 y61:Bool
 y62:Bool
 y63:Bool
 y64:Bool
 y65:Int
 y66:Int
 y67:Bool
 y68:Bool
 y69:Bool
 y70:Bool
 y71:Bool
 y72:Bool
 y73:Bool
 y74:Bool
 y75:Bool
 y76:Bool
 y77:Bool
 y78:Bool
 y79:Bool
 y80:Bool
 y81:Bool
 y82:Nat
 y83:Bool
 y84:Nat
 y85:Bool
 y86:Nat
 y87:Bool
 y88:Nat
 y89:Bool
 y90:Nat
 y91:Bool
 y92:Nat
 y93:Bool
@[irreducible]def Pla.md (z:Pla):Bool:=z.y0
@[irreducible]def Pla.fi (z:Pla):Bool:=z.y1
@[irreducible]def Pla.r000 (z:Pla):Bool:=z.y2
@[irreducible]def Pla.r001 (z:Pla):Bool:=z.y3
@[irreducible]def Pla.r002 (z:Pla):Bool:=z.y4
@[irreducible]def Pla.r010 (z:Pla):Bool:=z.y5
@[irreducible]def Pla.r011 (z:Pla):Bool:=z.y6
@[irreducible]def Pla.r012 (z:Pla):Bool:=z.y7
@[irreducible]def Pla.r020 (z:Pla):Bool:=z.y8
@[irreducible]def Pla.r021 (z:Pla):Bool:=z.y9
@[irreducible]def Pla.r022 (z:Pla):Bool:=z.y10
@[irreducible]def Pla.r030 (z:Pla):Bool:=z.y11
@[irreducible]def Pla.r031 (z:Pla):Bool:=z.y12
@[irreducible]def Pla.r032 (z:Pla):Bool:=z.y13
@[irreducible]def Pla.r040 (z:Pla):Bool:=z.y14
@[irreducible]def Pla.r041 (z:Pla):Bool:=z.y15
@[irreducible]def Pla.r042 (z:Pla):Bool:=z.y16
@[irreducible]def Pla.r050 (z:Pla):Bool:=z.y17
@[irreducible]def Pla.r051 (z:Pla):Bool:=z.y18
@[irreducible]def Pla.r052 (z:Pla):Bool:=z.y19
@[irreducible]def Pla.r060 (z:Pla):Bool:=z.y20
@[irreducible]def Pla.r061 (z:Pla):Bool:=z.y21
@[irreducible]def Pla.r062 (z:Pla):Bool:=z.y22
@[irreducible]def Pla.r070 (z:Pla):Bool:=z.y23
@[irreducible]def Pla.r071 (z:Pla):Bool:=z.y24
@[irreducible]def Pla.r072 (z:Pla):Bool:=z.y25
@[irreducible]def Pla.r080 (z:Pla):Bool:=z.y26
@[irreducible]def Pla.r081 (z:Pla):Bool:=z.y27
@[irreducible]def Pla.r082 (z:Pla):Bool:=z.y28
@[irreducible]def Pla.r090 (z:Pla):Bool:=z.y29
@[irreducible]def Pla.r091 (z:Pla):Bool:=z.y30
@[irreducible]def Pla.r092 (z:Pla):Bool:=z.y31
@[irreducible]def Pla.r100 (z:Pla):Bool:=z.y32
@[irreducible]def Pla.r101 (z:Pla):Bool:=z.y33
@[irreducible]def Pla.r102 (z:Pla):Bool:=z.y34
@[irreducible]def Pla.r110 (z:Pla):Bool:=z.y35
@[irreducible]def Pla.r111 (z:Pla):Bool:=z.y36
@[irreducible]def Pla.r112 (z:Pla):Bool:=z.y37
@[irreducible]def Pla.r120 (z:Pla):Bool:=z.y38
@[irreducible]def Pla.r121 (z:Pla):Bool:=z.y39
@[irreducible]def Pla.r122 (z:Pla):Bool:=z.y40
@[irreducible]def Pla.r130 (z:Pla):Bool:=z.y41
@[irreducible]def Pla.r131 (z:Pla):Bool:=z.y42
@[irreducible]def Pla.r132 (z:Pla):Bool:=z.y43
@[irreducible]def Pla.r140 (z:Pla):Bool:=z.y44
@[irreducible]def Pla.r141 (z:Pla):Bool:=z.y45
@[irreducible]def Pla.r142 (z:Pla):Bool:=z.y46
@[irreducible]def Pla.r150 (z:Pla):Bool:=z.y47
@[irreducible]def Pla.r151 (z:Pla):Bool:=z.y48
@[irreducible]def Pla.r152 (z:Pla):Bool:=z.y49
@[irreducible]def Pla.r160 (z:Pla):Bool:=z.y50
@[irreducible]def Pla.r161 (z:Pla):Bool:=z.y51
@[irreducible]def Pla.r162 (z:Pla):Bool:=z.y52
@[irreducible]def Pla.r170 (z:Pla):Bool:=z.y53
@[irreducible]def Pla.r171 (z:Pla):Bool:=z.y54
@[irreducible]def Pla.r172 (z:Pla):Bool:=z.y55
@[irreducible]def Pla.r180 (z:Pla):Bool:=z.y56
@[irreducible]def Pla.r181 (z:Pla):Bool:=z.y57
@[irreducible]def Pla.r182 (z:Pla):Bool:=z.y58
@[irreducible]def Pla.r190 (z:Pla):Bool:=z.y59
@[irreducible]def Pla.r191 (z:Pla):Bool:=z.y60
@[irreducible]def Pla.r192 (z:Pla):Bool:=z.y61
@[irreducible]def Pla.r200 (z:Pla):Bool:=z.y62
@[irreducible]def Pla.r201 (z:Pla):Bool:=z.y63
@[irreducible]def Pla.r202 (z:Pla):Bool:=z.y64
@[irreducible]def Pla.ix (z:Pla):Int:=z.y65
@[irreducible]def Pla.lg (z:Pla):Int:=z.y66
@[irreducible]def Pla.we0 (z:Pla):Bool:=z.y67
@[irreducible]def Pla.we1 (z:Pla):Bool:=z.y68
@[irreducible]def Pla.we2 (z:Pla):Bool:=z.y69
@[irreducible]def Pla.st0 (z:Pla):Bool:=z.y70
@[irreducible]def Pla.st1 (z:Pla):Bool:=z.y71
@[irreducible]def Pla.st2 (z:Pla):Bool:=z.y72
@[irreducible]def Pla.sh0 (z:Pla):Bool:=z.y73
@[irreducible]def Pla.sh1 (z:Pla):Bool:=z.y74
@[irreducible]def Pla.sh2 (z:Pla):Bool:=z.y75
@[irreducible]def Pla.mu0 (z:Pla):Bool:=z.y76
@[irreducible]def Pla.mu1 (z:Pla):Bool:=z.y77
@[irreducible]def Pla.mu2 (z:Pla):Bool:=z.y78
@[irreducible]def Pla.li0 (z:Pla):Bool:=z.y79
@[irreducible]def Pla.li1 (z:Pla):Bool:=z.y80
@[irreducible]def Pla.li2 (z:Pla):Bool:=z.y81
@[irreducible]def Pla.wn0 (z:Pla):Nat:=z.y82
@[irreducible]def Pla.wb0 (z:Pla):Bool:=z.y83
@[irreducible]def Pla.wn1 (z:Pla):Nat:=z.y84
@[irreducible]def Pla.wb1 (z:Pla):Bool:=z.y85
@[irreducible]def Pla.wn2 (z:Pla):Nat:=z.y86
@[irreducible]def Pla.wb2 (z:Pla):Bool:=z.y87
@[irreducible]def Pla.kn0 (z:Pla):Nat:=z.y88
@[irreducible]def Pla.kb0 (z:Pla):Bool:=z.y89
@[irreducible]def Pla.kn1 (z:Pla):Nat:=z.y90
@[irreducible]def Pla.kb1 (z:Pla):Bool:=z.y91
@[irreducible]def Pla.kn2 (z:Pla):Nat:=z.y92
@[irreducible]def Pla.kb2 (z:Pla):Bool:=z.y93
@[simp]theorem Pla.eta (z:Pla):Pla.mk z.md z.fi z.r000 z.r001 z.r002 z.r010 z.r011 z.r012 z.r020 z.r021 z.r022 z.r030 z.r031 z.r032 z.r040 z.r041 z.r042 z.r050 z.r051 z.r052 z.r060 z.r061 z.r062 z.r070 z.r071 z.r072 z.r080 z.r081 z.r082 z.r090 z.r091 z.r092 z.r100 z.r101 z.r102 z.r110 z.r111 z.r112 z.r120 z.r121 z.r122 z.r130 z.r131 z.r132 z.r140 z.r141 z.r142 z.r150 z.r151 z.r152 z.r160 z.r161 z.r162 z.r170 z.r171 z.r172 z.r180 z.r181 z.r182 z.r190 z.r191 z.r192 z.r200 z.r201 z.r202 z.ix z.lg z.we0 z.we1 z.we2 z.st0 z.st1 z.st2 z.sh0 z.sh1 z.sh2 z.mu0 z.mu1 z.mu2 z.li0 z.li1 z.li2 z.wn0 z.wb0 z.wn1 z.wb1 z.wn2 z.wb2 z.kn0 z.kb0 z.kn1 z.kb1 z.kn2 z.kb2=z:=by unfold Pla.md Pla.fi Pla.r000 Pla.r001 Pla.r002 Pla.r010 Pla.r011 Pla.r012 Pla.r020 Pla.r021 Pla.r022 Pla.r030 Pla.r031 Pla.r032 Pla.r040 Pla.r041 Pla.r042 Pla.r050 Pla.r051 Pla.r052 Pla.r060 Pla.r061 Pla.r062 Pla.r070 Pla.r071 Pla.r072 Pla.r080 Pla.r081 Pla.r082 Pla.r090 Pla.r091 Pla.r092 Pla.r100 Pla.r101 Pla.r102 Pla.r110 Pla.r111 Pla.r112 Pla.r120 Pla.r121 Pla.r122 Pla.r130 Pla.r131 Pla.r132 Pla.r140 Pla.r141 Pla.r142 Pla.r150 Pla.r151 Pla.r152 Pla.r160 Pla.r161 Pla.r162 Pla.r170 Pla.r171 Pla.r172 Pla.r180 Pla.r181 Pla.r182 Pla.r190 Pla.r191 Pla.r192 Pla.r200 Pla.r201 Pla.r202 Pla.ix Pla.lg Pla.we0 Pla.we1 Pla.we2 Pla.st0 Pla.st1 Pla.st2 Pla.sh0 Pla.sh1 Pla.sh2 Pla.mu0 Pla.mu1 Pla.mu2 Pla.li0 Pla.li1 Pla.li2 Pla.wn0 Pla.wb0 Pla.wn1 Pla.wb1 Pla.wn2 Pla.wb2 Pla.kn0 Pla.kb0 Pla.kn1 Pla.kb1 Pla.kn2 Pla.kb2;rfl
abbrev m7:=Bool × Bool × Bool × Bool × Bool × Bool × Bool × Bool × Bool × Bool × Bool × Bool × Bool × Bool × Bool × Bool × Bool × Bool × Bool × Bool × Bool × Bool × Bool × Bool × Bool × Bool × Bool × Bool × Bool × Bool × Bool × Bool × Bool × Bool × Bool × Bool × Bool × Bool × Bool × Bool × Bool × Bool × Bool × Bool × Bool × Bool × Bool × Bool × Bool × Bool × Bool × Bool × Bool × Bool × Bool × Bool × Bool × Bool × Bool × Bool × Bool × Bool × Bool × Bool × Bool × Int × Int × Bool × Bool × Bool × Bool × Bool × Bool × Bool × Bool × Bool × Bool × Bool × Bool × Bool × Bool × Bool × AV × AV × AV × AV × AV × AV × Unit
@[irreducible]def HZ (z:m7):Pla :=
 let (x0,x1,x2,x3,x4,x5,x6,x7,x8,x9,x10,x11,x12,x13,x14,x15,x16,x17,x18,x19,x20,x21,x22,x23,x24,x25,x26,x27,x28,x29,x30,x31,x32,x33,x34,x35,x36,x37,x38,x39,x40,x41,x42,x43,x44,x45,x46,x47,x48,x49,x50,x51,x52,x53,x54,x55,x56,x57,x58,x59,x60,x61,x62,x63,x64,x65,x66,x67,x68,x69,x70,x71,x72,x73,x74,x75,x76,x77,x78,x79,x80,x81,x82,x83,x84,x85,x86,x87,_):=z
 ⟨x0,x1,x2,x3,x4,x5,x6,x7,x8,x9,x10,x11,x12,x13,x14,x15,x16,x17,x18,x19,x20,x21,x22,x23,x24,x25,x26,x27,x28,x29,x30,x31,x32,x33,x34,x35,x36,x37,x38,x39,x40,x41,x42,x43,x44,x45,x46,x47,x48,x49,x50,x51,x52,x53,x54,x55,x56,x57,x58,x59,x60,x61,x62,x63,x64,x65,x66,x67,x68,x69,x70,x71,x72,x73,x74,x75,x76,x77,x78,x79,x80,x81,dh x82,di x82,dh x83,di x83,dh x84,di x84,dh x85,di x85,dh x86,di x86,dh x87,di x87⟩
@[reducible]def QJ (z:Pla):m7:=(z.md,z.fi,z.r000,z.r001,z.r002,z.r010,z.r011,z.r012,z.r020,z.r021,z.r022,z.r030,z.r031,z.r032,z.r040,z.r041,z.r042,z.r050,z.r051,z.r052,z.r060,z.r061,z.r062,z.r070,z.r071,z.r072,z.r080,z.r081,z.r082,z.r090,z.r091,z.r092,z.r100,z.r101,z.r102,z.r110,z.r111,z.r112,z.r120,z.r121,z.r122,z.r130,z.r131,z.r132,z.r140,z.r141,z.r142,z.r150,z.r151,z.r152,z.r160,z.r161,z.r162,z.r170,z.r171,z.r172,z.r180,z.r181,z.r182,z.r190,z.r191,z.r192,z.r200,z.r201,z.r202,z.ix,z.lg,z.we0,z.we1,z.we2,z.st0,z.st1,z.st2,z.sh0,z.sh1,z.sh2,z.mu0,z.mu1,z.mu2,z.li0,z.li1,z.li2,(.pa z.wn0 1 (fun _=>[.sb z.wb0]):AV),(.pa z.wn1 1 (fun _=>[.sb z.wb1]):AV),(.pa z.wn2 1 (fun _=>[.sb z.wb2]):AV),(.pa z.kn0 1 (fun _=>[.sb z.kb0]):AV),(.pa z.kn1 1 (fun _=>[.sb z.kb1]):AV),(.pa z.kn2 1 (fun _=>[.sb z.kb2]):AV),())
def Ha (z:Pla):List AV:=[.sb z.md,.sb z.fi,.sb z.r000,.sb z.r001,.sb z.r002,.sb z.r010,.sb z.r011,.sb z.r012,.sb z.r020,.sb z.r021,.sb z.r022,.sb z.r030,.sb z.r031,.sb z.r032,.sb z.r040,.sb z.r041,.sb z.r042,.sb z.r050,.sb z.r051,.sb z.r052,.sb z.r060,.sb z.r061,.sb z.r062,.sb z.r070,.sb z.r071,.sb z.r072,.sb z.r080,.sb z.r081,.sb z.r082,.sb z.r090,.sb z.r091,.sb z.r092,.sb z.r100,.sb z.r101,.sb z.r102,.sb z.r110,.sb z.r111,.sb z.r112,.sb z.r120,.sb z.r121,.sb z.r122,.sb z.r130,.sb z.r131,.sb z.r132,.sb z.r140,.sb z.r141,.sb z.r142,.sb z.r150,.sb z.r151,.sb z.r152,.sb z.r160,.sb z.r161,.sb z.r162,.sb z.r170,.sb z.r171,.sb z.r172,.sb z.r180,.sb z.r181,.sb z.r182,.sb z.r190,.sb z.r191,.sb z.r192,.sb z.r200,.sb z.r201,.sb z.r202,.si .i64 z.ix,.si .i64 z.lg,.sb z.we0,.sb z.we1,.sb z.we2,.sb z.st0,.sb z.st1,.sb z.st2,.sb z.sh0,.sb z.sh1,.sb z.sh2,.sb z.mu0,.sb z.mu1,.sb z.mu2,.sb z.li0,.sb z.li1,.sb z.li2,.pa z.wn0 1 (fun _=>[.sb z.wb0]),.pa z.wn1 1 (fun _=>[.sb z.wb1]),.pa z.wn2 1 (fun _=>[.sb z.wb2]),.pa z.kn0 1 (fun _=>[.sb z.kb0]),.pa z.kn1 1 (fun _=>[.sb z.kb1]),.pa z.kn2 1 (fun _=>[.sb z.kb2])]
@[reducible]def sP:List Sh:=[.bool,.bool,.bool,.bool,.bool,.bool,.bool,.bool,.bool,.bool,.bool,.bool,.bool,.bool,.bool,.bool,.bool,.bool,.bool,.bool,.bool,.bool,.bool,.bool,.bool,.bool,.bool,.bool,.bool,.bool,.bool,.bool,.bool,.bool,.bool,.bool,.bool,.bool,.bool,.bool,.bool,.bool,.bool,.bool,.bool,.bool,.bool,.bool,.bool,.bool,.bool,.bool,.bool,.bool,.bool,.bool,.bool,.bool,.bool,.bool,.bool,.bool,.bool,.bool,.bool,.int .i64,.int .i64,.bool,.bool,.bool,.bool,.bool,.bool,.bool,.bool,.bool,.bool,.bool,.bool,.bool,.bool,.bool,.any,.any,.any,.any,.any,.any]
theorem Ia (z:Pla):HZ (QJ z)=z:=by unfold HZ QJ Pla.md Pla.fi Pla.r000 Pla.r001 Pla.r002 Pla.r010 Pla.r011 Pla.r012 Pla.r020 Pla.r021 Pla.r022 Pla.r030 Pla.r031 Pla.r032 Pla.r040 Pla.r041 Pla.r042 Pla.r050 Pla.r051 Pla.r052 Pla.r060 Pla.r061 Pla.r062 Pla.r070 Pla.r071 Pla.r072 Pla.r080 Pla.r081 Pla.r082 Pla.r090 Pla.r091 Pla.r092 Pla.r100 Pla.r101 Pla.r102 Pla.r110 Pla.r111 Pla.r112 Pla.r120 Pla.r121 Pla.r122 Pla.r130 Pla.r131 Pla.r132 Pla.r140 Pla.r141 Pla.r142 Pla.r150 Pla.r151 Pla.r152 Pla.r160 Pla.r161 Pla.r162 Pla.r170 Pla.r171 Pla.r172 Pla.r180 Pla.r181 Pla.r182 Pla.r190 Pla.r191 Pla.r192 Pla.r200 Pla.r201 Pla.r202 Pla.ix Pla.lg Pla.we0 Pla.we1 Pla.we2 Pla.st0 Pla.st1 Pla.st2 Pla.sh0 Pla.sh1 Pla.sh2 Pla.mu0 Pla.mu1 Pla.mu2 Pla.li0 Pla.li1 Pla.li2 Pla.wn0 Pla.wb0 Pla.wn1 Pla.wb1 Pla.wn2 Pla.wb2 Pla.kn0 Pla.kb0 Pla.kn1 Pla.kb1 Pla.kn2 Pla.kb2;rfl
@[simp]theorem AN1 (z:Pla):HZ (z.md,z.fi,z.r000,z.r001,z.r002,z.r010,z.r011,z.r012,z.r020,z.r021,z.r022,z.r030,z.r031,z.r032,z.r040,z.r041,z.r042,z.r050,z.r051,z.r052,z.r060,z.r061,z.r062,z.r070,z.r071,z.r072,z.r080,z.r081,z.r082,z.r090,z.r091,z.r092,z.r100,z.r101,z.r102,z.r110,z.r111,z.r112,z.r120,z.r121,z.r122,z.r130,z.r131,z.r132,z.r140,z.r141,z.r142,z.r150,z.r151,z.r152,z.r160,z.r161,z.r162,z.r170,z.r171,z.r172,z.r180,z.r181,z.r182,z.r190,z.r191,z.r192,z.r200,z.r201,z.r202,z.ix,z.lg,z.we0,z.we1,z.we2,z.st0,z.st1,z.st2,z.sh0,z.sh1,z.sh2,z.mu0,z.mu1,z.mu2,z.li0,z.li1,z.li2,(.pa z.wn0 1 (fun _=>[.sb z.wb0]):AV),(.pa z.wn1 1 (fun _=>[.sb z.wb1]):AV),(.pa z.wn2 1 (fun _=>[.sb z.wb2]):AV),(.pa z.kn0 1 (fun _=>[.sb z.kb0]):AV),(.pa z.kn1 1 (fun _=>[.sb z.kb1]):AV),(.pa z.kn2 1 (fun _=>[.sb z.kb2]):AV),())=z:=Ia z
@[reducible]def plX (z:Pla) (a b:Int):m7:=(z.md,z.fi,z.r000,z.r001,z.r002,z.r010,z.r011,z.r012,z.r020,z.r021,z.r022,z.r030,z.r031,z.r032,z.r040,z.r041,z.r042,z.r050,z.r051,z.r052,z.r060,z.r061,z.r062,z.r070,z.r071,z.r072,z.r080,z.r081,z.r082,z.r090,z.r091,z.r092,z.r100,z.r101,z.r102,z.r110,z.r111,z.r112,z.r120,z.r121,z.r122,z.r130,z.r131,z.r132,z.r140,z.r141,z.r142,z.r150,z.r151,z.r152,z.r160,z.r161,z.r162,z.r170,z.r171,z.r172,z.r180,z.r181,z.r182,z.r190,z.r191,z.r192,z.r200,z.r201,z.r202,a,b,z.we0,z.we1,z.we2,z.st0,z.st1,z.st2,z.sh0,z.sh1,z.sh2,z.mu0,z.mu1,z.mu2,z.li0,z.li1,z.li2,(.pa z.wn0 1 (fun _=>[.sb z.wb0]):AV),(.pa z.wn1 1 (fun _=>[.sb z.wb1]):AV),(.pa z.wn2 1 (fun _=>[.sb z.wb2]):AV),(.pa z.kn0 1 (fun _=>[.sb z.kb0]):AV),(.pa z.kn1 1 (fun _=>[.sb z.kb1]):AV),(.pa z.kn2 1 (fun _=>[.sb z.kb2]):AV),())
theorem zk (z:Pla):QJ z=plX z z.ix z.lg:=rfl
@[irreducible]def zl (x:m7):Prop:=x=QJ (HZ x)
theorem plC_iff {x:m7}:zl x↔x=QJ (HZ x):=by unfold zl;exact Iff.rfl
@[simp]theorem AV6 (z:Pla):zl (z.md,z.fi,z.r000,z.r001,z.r002,z.r010,z.r011,z.r012,z.r020,z.r021,z.r022,z.r030,z.r031,z.r032,z.r040,z.r041,z.r042,z.r050,z.r051,z.r052,z.r060,z.r061,z.r062,z.r070,z.r071,z.r072,z.r080,z.r081,z.r082,z.r090,z.r091,z.r092,z.r100,z.r101,z.r102,z.r110,z.r111,z.r112,z.r120,z.r121,z.r122,z.r130,z.r131,z.r132,z.r140,z.r141,z.r142,z.r150,z.r151,z.r152,z.r160,z.r161,z.r162,z.r170,z.r171,z.r172,z.r180,z.r181,z.r182,z.r190,z.r191,z.r192,z.r200,z.r201,z.r202,z.ix,z.lg,z.we0,z.we1,z.we2,z.st0,z.st1,z.st2,z.sh0,z.sh1,z.sh2,z.mu0,z.mu1,z.mu2,z.li0,z.li1,z.li2,(.pa z.wn0 1 (fun _=>[.sb z.wb0]):AV),(.pa z.wn1 1 (fun _=>[.sb z.wb1]):AV),(.pa z.wn2 1 (fun _=>[.sb z.wb2]):AV),(.pa z.kn0 1 (fun _=>[.sb z.kb0]):AV),(.pa z.kn1 1 (fun _=>[.sb z.kb1]):AV),(.pa z.kn2 1 (fun _=>[.sb z.kb2]):AV),()):=plC_iff.2 (by show QJ z=QJ (HZ (QJ z));rw [Ia])
@[irreducible]def Fd (p:Pla):Int:=if p.ix=p.lg then 0 else p.ix+1
@[irreducible]def Ie (p:Pla) (d0:Bool):Bool:=if Fd p=0 then (if p.ix=0 then d0 else p.r000) else if Fd p=1 then (if p.ix=1 then d0 else p.r010) else if Fd p=2 then (if p.ix=2 then d0 else p.r020) else if Fd p=3 then (if p.ix=3 then d0 else p.r030) else (if p.ix=4 then d0 else p.r040)
@[irreducible]def Ic (p:Pla) (d1:Bool):Bool:=if Fd p=0 then (if p.ix=0 then d1 else p.r001) else if Fd p=1 then (if p.ix=1 then d1 else p.r011) else if Fd p=2 then (if p.ix=2 then d1 else p.r021) else if Fd p=3 then (if p.ix=3 then d1 else p.r031) else (if p.ix=4 then d1 else p.r041)
@[irreducible]def Ib (p:Pla) (d2:Bool):Bool:=if Fd p=0 then (if p.ix=0 then d2 else p.r002) else if Fd p=1 then (if p.ix=1 then d2 else p.r012) else if Fd p=2 then (if p.ix=2 then d2 else p.r022) else if Fd p=3 then (if p.ix=3 then d2 else p.r032) else (if p.ix=4 then d2 else p.r042)
@[irreducible]def A5 (p:Pla) (d0 d1 d2 f:Bool):Pla:=⟨p.md,p.fi||f,if p.ix=0 then d0 else p.r000,if p.ix=0 then d1 else p.r001,if p.ix=0 then d2 else p.r002,if p.ix=1 then d0 else p.r010,if p.ix=1 then d1 else p.r011,if p.ix=1 then d2 else p.r012,if p.ix=2 then d0 else p.r020,if p.ix=2 then d1 else p.r021,if p.ix=2 then d2 else p.r022,if p.ix=3 then d0 else p.r030,if p.ix=3 then d1 else p.r031,if p.ix=3 then d2 else p.r032,if p.ix=4 then d0 else p.r040,if p.ix=4 then d1 else p.r041,if p.ix=4 then d2 else p.r042,p.r050,p.r051,p.r052,p.r060,p.r061,p.r062,p.r070,p.r071,p.r072,p.r080,p.r081,p.r082,p.r090,p.r091,p.r092,p.r100,p.r101,p.r102,p.r110,p.r111,p.r112,p.r120,p.r121,p.r122,p.r130,p.r131,p.r132,p.r140,p.r141,p.r142,p.r150,p.r151,p.r152,p.r160,p.r161,p.r162,p.r170,p.r171,p.r172,p.r180,p.r181,p.r182,p.r190,p.r191,p.r192,p.r200,p.r201,p.r202,Fd p,p.lg,p.we0,p.we1,p.we2,p.st0,p.st1,p.st2,!p.st0&&(Ie p d0||p.we0&&p.sh0),!p.st1&&(Ic p d1||p.we1&&p.sh1),!p.st2&&(Ib p d2||p.we2&&p.sh2),p.mu0,p.mu1,p.mu2,p.li0,p.li1,p.li2,p.wn0,p.wb0,p.wn1,p.wb1,p.wn2,p.wb2,p.kn0,p.kb0,p.kn1,p.kb1,p.kn2,p.kb2⟩
section
variable (p:Pla) (d0 d1 d2 f:Bool)
theorem Dp:(A5 p d0 d1 d2 f).md=(p.md):=by unfold A5 Pla.md;rfl
theorem E4:(A5 p d0 d1 d2 f).fi=(p.fi||f):=by unfold A5 Pla.fi;rfl
theorem BG:(A5 p d0 d1 d2 f).r000=(if p.ix=0 then d0 else p.r000):=by unfold A5 Pla.r000;rfl
theorem BF:(A5 p d0 d1 d2 f).r001=(if p.ix=0 then d1 else p.r001):=by unfold A5 Pla.r001;rfl
theorem BE:(A5 p d0 d1 d2 f).r002=(if p.ix=0 then d2 else p.r002):=by unfold A5 Pla.r002;rfl
theorem BD:(A5 p d0 d1 d2 f).r010=(if p.ix=1 then d0 else p.r010):=by unfold A5 Pla.r010;rfl
theorem BC:(A5 p d0 d1 d2 f).r011=(if p.ix=1 then d1 else p.r011):=by unfold A5 Pla.r011;rfl
theorem BB:(A5 p d0 d1 d2 f).r012=(if p.ix=1 then d2 else p.r012):=by unfold A5 Pla.r012;rfl
theorem BA:(A5 p d0 d1 d2 f).r020=(if p.ix=2 then d0 else p.r020):=by unfold A5 Pla.r020;rfl
theorem B_:(A5 p d0 d1 d2 f).r021=(if p.ix=2 then d1 else p.r021):=by unfold A5 Pla.r021;rfl
theorem B9:(A5 p d0 d1 d2 f).r022=(if p.ix=2 then d2 else p.r022):=by unfold A5 Pla.r022;rfl
theorem B8:(A5 p d0 d1 d2 f).r030=(if p.ix=3 then d0 else p.r030):=by unfold A5 Pla.r030;rfl
theorem B7:(A5 p d0 d1 d2 f).r031=(if p.ix=3 then d1 else p.r031):=by unfold A5 Pla.r031;rfl
theorem B6:(A5 p d0 d1 d2 f).r032=(if p.ix=3 then d2 else p.r032):=by unfold A5 Pla.r032;rfl
theorem B5:(A5 p d0 d1 d2 f).r040=(if p.ix=4 then d0 else p.r040):=by unfold A5 Pla.r040;rfl
theorem B4:(A5 p d0 d1 d2 f).r041=(if p.ix=4 then d1 else p.r041):=by unfold A5 Pla.r041;rfl
theorem B3:(A5 p d0 d1 d2 f).r042=(if p.ix=4 then d2 else p.r042):=by unfold A5 Pla.r042;rfl
theorem CN:(A5 p d0 d1 d2 f).r050=(p.r050):=by unfold A5 Pla.r050;rfl
theorem CM:(A5 p d0 d1 d2 f).r051=(p.r051):=by unfold A5 Pla.r051;rfl
theorem CL:(A5 p d0 d1 d2 f).r052=(p.r052):=by unfold A5 Pla.r052;rfl
theorem CK:(A5 p d0 d1 d2 f).r060=(p.r060):=by unfold A5 Pla.r060;rfl
theorem CJ:(A5 p d0 d1 d2 f).r061=(p.r061):=by unfold A5 Pla.r061;rfl
theorem CI:(A5 p d0 d1 d2 f).r062=(p.r062):=by unfold A5 Pla.r062;rfl
theorem CH:(A5 p d0 d1 d2 f).r070=(p.r070):=by unfold A5 Pla.r070;rfl
theorem CG:(A5 p d0 d1 d2 f).r071=(p.r071):=by unfold A5 Pla.r071;rfl
theorem CF:(A5 p d0 d1 d2 f).r072=(p.r072):=by unfold A5 Pla.r072;rfl
theorem CE:(A5 p d0 d1 d2 f).r080=(p.r080):=by unfold A5 Pla.r080;rfl
theorem CD:(A5 p d0 d1 d2 f).r081=(p.r081):=by unfold A5 Pla.r081;rfl
theorem CC:(A5 p d0 d1 d2 f).r082=(p.r082):=by unfold A5 Pla.r082;rfl
theorem CA:(A5 p d0 d1 d2 f).r090=(p.r090):=by unfold A5 Pla.r090;rfl
theorem C_:(A5 p d0 d1 d2 f).r091=(p.r091):=by unfold A5 Pla.r091;rfl
theorem C9:(A5 p d0 d1 d2 f).r092=(p.r092):=by unfold A5 Pla.r092;rfl
theorem C8:(A5 p d0 d1 d2 f).r100=(p.r100):=by unfold A5 Pla.r100;rfl
theorem Bz:(A5 p d0 d1 d2 f).r101=(p.r101):=by unfold A5 Pla.r101;rfl
theorem Bw:(A5 p d0 d1 d2 f).r102=(p.r102):=by unfold A5 Pla.r102;rfl
theorem Bv:(A5 p d0 d1 d2 f).r110=(p.r110):=by unfold A5 Pla.r110;rfl
theorem Bu:(A5 p d0 d1 d2 f).r111=(p.r111):=by unfold A5 Pla.r111;rfl
theorem Bt:(A5 p d0 d1 d2 f).r112=(p.r112):=by unfold A5 Pla.r112;rfl
theorem Bs:(A5 p d0 d1 d2 f).r120=(p.r120):=by unfold A5 Pla.r120;rfl
theorem Br:(A5 p d0 d1 d2 f).r121=(p.r121):=by unfold A5 Pla.r121;rfl
theorem Bq:(A5 p d0 d1 d2 f).r122=(p.r122):=by unfold A5 Pla.r122;rfl
theorem Bp:(A5 p d0 d1 d2 f).r130=(p.r130):=by unfold A5 Pla.r130;rfl
theorem Bo:(A5 p d0 d1 d2 f).r131=(p.r131):=by unfold A5 Pla.r131;rfl
theorem Bm:(A5 p d0 d1 d2 f).r132=(p.r132):=by unfold A5 Pla.r132;rfl
theorem Bl:(A5 p d0 d1 d2 f).r140=(p.r140):=by unfold A5 Pla.r140;rfl
theorem Bk:(A5 p d0 d1 d2 f).r141=(p.r141):=by unfold A5 Pla.r141;rfl
theorem Bj:(A5 p d0 d1 d2 f).r142=(p.r142):=by unfold A5 Pla.r142;rfl
theorem Bi:(A5 p d0 d1 d2 f).r150=(p.r150):=by unfold A5 Pla.r150;rfl
theorem Bh:(A5 p d0 d1 d2 f).r151=(p.r151):=by unfold A5 Pla.r151;rfl
theorem Bg:(A5 p d0 d1 d2 f).r152=(p.r152):=by unfold A5 Pla.r152;rfl
theorem Bf:(A5 p d0 d1 d2 f).r160=(p.r160):=by unfold A5 Pla.r160;rfl
theorem Be:(A5 p d0 d1 d2 f).r161=(p.r161):=by unfold A5 Pla.r161;rfl
theorem Bd:(A5 p d0 d1 d2 f).r162=(p.r162):=by unfold A5 Pla.r162;rfl
theorem Bc:(A5 p d0 d1 d2 f).r170=(p.r170):=by unfold A5 Pla.r170;rfl
theorem Bb:(A5 p d0 d1 d2 f).r171=(p.r171):=by unfold A5 Pla.r171;rfl
theorem Ba:(A5 p d0 d1 d2 f).r172=(p.r172):=by unfold A5 Pla.r172;rfl
theorem BZ:(A5 p d0 d1 d2 f).r180=(p.r180):=by unfold A5 Pla.r180;rfl
theorem BY:(A5 p d0 d1 d2 f).r181=(p.r181):=by unfold A5 Pla.r181;rfl
theorem BX:(A5 p d0 d1 d2 f).r182=(p.r182):=by unfold A5 Pla.r182;rfl
theorem BW:(A5 p d0 d1 d2 f).r190=(p.r190):=by unfold A5 Pla.r190;rfl
theorem BV:(A5 p d0 d1 d2 f).r191=(p.r191):=by unfold A5 Pla.r191;rfl
theorem BU:(A5 p d0 d1 d2 f).r192=(p.r192):=by unfold A5 Pla.r192;rfl
theorem BT:(A5 p d0 d1 d2 f).r200=(p.r200):=by unfold A5 Pla.r200;rfl
theorem BS:(A5 p d0 d1 d2 f).r201=(p.r201):=by unfold A5 Pla.r201;rfl
theorem BR:(A5 p d0 d1 d2 f).r202=(p.r202):=by unfold A5 Pla.r202;rfl
theorem Cr:(A5 p d0 d1 d2 f).ix=(Fd p):=by unfold A5 Pla.ix;rfl
theorem B1:(A5 p d0 d1 d2 f).lg=(p.lg):=by unfold A5 Pla.lg;rfl
theorem Cg:(A5 p d0 d1 d2 f).we0=(p.we0):=by unfold A5 Pla.we0;rfl
theorem Cf:(A5 p d0 d1 d2 f).we1=(p.we1):=by unfold A5 Pla.we1;rfl
theorem Ce:(A5 p d0 d1 d2 f).we2=(p.we2):=by unfold A5 Pla.we2;rfl
theorem D_:(A5 p d0 d1 d2 f).st0=(p.st0):=by unfold A5 Pla.st0;rfl
theorem D9:(A5 p d0 d1 d2 f).st1=(p.st1):=by unfold A5 Pla.st1;rfl
theorem D8:(A5 p d0 d1 d2 f).st2=(p.st2):=by unfold A5 Pla.st2;rfl
theorem Cj:(A5 p d0 d1 d2 f).sh0=(!p.st0&&(Ie p d0||p.we0&&p.sh0)):=by unfold A5 Pla.sh0;rfl
theorem Ci:(A5 p d0 d1 d2 f).sh1=(!p.st1&&(Ic p d1||p.we1&&p.sh1)):=by unfold A5 Pla.sh1;rfl
theorem Ch:(A5 p d0 d1 d2 f).sh2=(!p.st2&&(Ib p d2||p.we2&&p.sh2)):=by unfold A5 Pla.sh2;rfl
theorem Cm:(A5 p d0 d1 d2 f).mu0=(p.mu0):=by unfold A5 Pla.mu0;rfl
theorem Cl:(A5 p d0 d1 d2 f).mu1=(p.mu1):=by unfold A5 Pla.mu1;rfl
theorem Ck:(A5 p d0 d1 d2 f).mu2=(p.mu2):=by unfold A5 Pla.mu2;rfl
theorem Cp:(A5 p d0 d1 d2 f).li0=(p.li0):=by unfold A5 Pla.li0;rfl
theorem Co:(A5 p d0 d1 d2 f).li1=(p.li1):=by unfold A5 Pla.li1;rfl
theorem Cn:(A5 p d0 d1 d2 f).li2=(p.li2):=by unfold A5 Pla.li2;rfl
theorem D4:(A5 p d0 d1 d2 f).wn0=(p.wn0):=by unfold A5 Pla.wn0;rfl
theorem D7:(A5 p d0 d1 d2 f).wb0=(p.wb0):=by unfold A5 Pla.wb0;rfl
theorem D3:(A5 p d0 d1 d2 f).wn1=(p.wn1):=by unfold A5 Pla.wn1;rfl
theorem D6:(A5 p d0 d1 d2 f).wb1=(p.wb1):=by unfold A5 Pla.wb1;rfl
theorem D2:(A5 p d0 d1 d2 f).wn2=(p.wn2):=by unfold A5 Pla.wn2;rfl
theorem D5:(A5 p d0 d1 d2 f).wb2=(p.wb2):=by unfold A5 Pla.wb2;rfl
theorem DC:(A5 p d0 d1 d2 f).kn0=(p.kn0):=by unfold A5 Pla.kn0;rfl
theorem DF:(A5 p d0 d1 d2 f).kb0=(p.kb0):=by unfold A5 Pla.kb0;rfl
theorem DB:(A5 p d0 d1 d2 f).kn1=(p.kn1):=by unfold A5 Pla.kn1;rfl
theorem DE:(A5 p d0 d1 d2 f).kb1=(p.kb1):=by unfold A5 Pla.kb1;rfl
theorem DA:(A5 p d0 d1 d2 f).kn2=(p.kn2):=by unfold A5 Pla.kn2;rfl
theorem DD:(A5 p d0 d1 d2 f).kb2=(p.kb2):=by unfold A5 Pla.kb2;rfl
end
@[reducible]def zi:List Sh:=[.bool,.bool,.bool,.bool,.bool,.bool,.bool,.bool,.bool,.bool,.bool,.bool,.bool,.bool,.bool,.bool,.bool,.bool,.bool,.bool,.bool,.bool,.bool,.bool,.bool,.bool,.bool,.bool,.bool,.bool,.bool,.bool,.bool,.bool,.bool,.bool,.bool,.bool,.bool,.bool,.bool,.bool,.bool,.bool,.bool,.bool,.bool,.bool,.bool,.bool,.bool,.bool,.bool,.bool,.bool,.bool,.bool,.bool,.bool,.bool,.bool,.bool,.bool,.bool,.bool,.int .i64,.int .i64,.bool,.bool,.bool,.bool,.bool,.bool,.bool,.bool,.bool]
abbrev PpT:=Bool × Bool × Bool × Bool × Bool × Bool × Bool × Bool × Bool × Bool × Bool × Bool × Bool × Bool × Bool × Bool × Bool × Bool × Bool × Bool × Bool × Bool × Bool × Bool × Bool × Bool × Bool × Bool × Bool × Bool × Bool × Bool × Bool × Bool × Bool × Bool × Bool × Bool × Bool × Bool × Bool × Bool × Bool × Bool × Bool × Bool × Bool × Bool × Bool × Bool × Bool × Bool × Bool × Bool × Bool × Bool × Bool × Bool × Bool × Bool × Bool × Bool × Bool × Bool × Bool × Int × Int × Bool × Bool × Bool × Bool × Bool × Bool × Bool × Bool × Bool × Unit
@[irreducible]def zh (z:PpT):Bool :=
 let (x0,x1,_,_,_,_,_,_,_,_,_,_,_,_,_,_,_,_,_,_,_,_,_,_,_,_,_,_,_,_,_,_,_,_,_,_,_,_,_,_,_,_,_,_,_,_,_,_,_,_,_,_,_,_,_,_,_,_,_,_,_,_,_,_,_,_,_,_,_,_,_,_,_,x73,x74,x75,_):=z
 x0 && !x1&&(x74&&(x73||x75))
@[irreducible]def HP (z:Pla):Bool:=z.md && !z.fi&&(z.sh1&&(z.sh0||z.sh2))
@[simp]theorem AR9 (z:Pla):zh (z.md,z.fi,z.r000,z.r001,z.r002,z.r010,z.r011,z.r012,z.r020,z.r021,z.r022,z.r030,z.r031,z.r032,z.r040,z.r041,z.r042,z.r050,z.r051,z.r052,z.r060,z.r061,z.r062,z.r070,z.r071,z.r072,z.r080,z.r081,z.r082,z.r090,z.r091,z.r092,z.r100,z.r101,z.r102,z.r110,z.r111,z.r112,z.r120,z.r121,z.r122,z.r130,z.r131,z.r132,z.r140,z.r141,z.r142,z.r150,z.r151,z.r152,z.r160,z.r161,z.r162,z.r170,z.r171,z.r172,z.r180,z.r181,z.r182,z.r190,z.r191,z.r192,z.r200,z.r201,z.r202,z.ix,z.lg,z.we0,z.we1,z.we2,z.st0,z.st1,z.st2,z.sh0,z.sh1,z.sh2,())=HP z:=by unfold zh HP;rfl
theorem zg (x0 x1 x2 x3 x4 x5 x6 x7 x8 x9 x10 x11 x12 x13 x14 x15 x16 x17 x18 x19 x20 x21 x22 x23 x24 x25 x26 x27 x28 x29 x30 x31 x32 x33 x34 x35 x36 x37 x38 x39 x40 x41 x42 x43 x44 x45 x46 x47 x48 x49 x50 x51 x52 x53 x54 x55 x56 x57 x58 x59 x60 x61 x62 x63 x64:Bool) (x65 x66:Int) (x67 x68 x69 x70 x71 x72 x73 x74 x75:Bool):zh (x0,x1,x2,x3,x4,x5,x6,x7,x8,x9,x10,x11,x12,x13,x14,x15,x16,x17,x18,x19,x20,x21,x22,x23,x24,x25,x26,x27,x28,x29,x30,x31,x32,x33,x34,x35,x36,x37,x38,x39,x40,x41,x42,x43,x44,x45,x46,x47,x48,x49,x50,x51,x52,x53,x54,x55,x56,x57,x58,x59,x60,x61,x62,x63,x64,x65,x66,x67,x68,x69,x70,x71,x72,x73,x74,x75,())=(x0 && !x1&&(x74&&(x73||x75))):=by unfold zh;rfl
structure Tru where
 y0:Int
 y1:Int
 y2:Int
 y3:Int
 y4:Int
 y5:Int
 y6:Int
 y7:Int
 y8:Int
 y9:Int
 y10:Int
 y11:Int
 y12:Int
 y13:Int
 y14:Int
 y15:Int
 y16:Int
 y17:Int
 y18:Int
 y19:Int
 y20:Int
 y21:Int
 y22:Int
 y23:Int
 y24:Int
 y25:Bool
 y26:Bool
 y27:Int
 y28:Int
 y29:Bool
 y30:Bool
@[irreducible]def Tru.x0 (z:Tru):Int:=z.y0
@[irreducible]def Tru.x1 (z:Tru):Int:=z.y1
@[irreducible]def Tru.x2 (z:Tru):Int:=z.y2
@[irreducible]def Tru.x3 (z:Tru):Int:=z.y3
@[irreducible]def Tru.x4 (z:Tru):Int:=z.y4
@[irreducible]def Tru.e00 (z:Tru):Int:=z.y5
@[irreducible]def Tru.e01 (z:Tru):Int:=z.y6
@[irreducible]def Tru.e02 (z:Tru):Int:=z.y7
@[irreducible]def Tru.e03 (z:Tru):Int:=z.y8
@[irreducible]def Tru.e04 (z:Tru):Int:=z.y9
@[irreducible]def Tru.e10 (z:Tru):Int:=z.y10
@[irreducible]def Tru.e11 (z:Tru):Int:=z.y11
@[irreducible]def Tru.e12 (z:Tru):Int:=z.y12
@[irreducible]def Tru.e13 (z:Tru):Int:=z.y13
@[irreducible]def Tru.e14 (z:Tru):Int:=z.y14
@[irreducible]def Tru.e20 (z:Tru):Int:=z.y15
@[irreducible]def Tru.e21 (z:Tru):Int:=z.y16
@[irreducible]def Tru.e22 (z:Tru):Int:=z.y17
@[irreducible]def Tru.e23 (z:Tru):Int:=z.y18
@[irreducible]def Tru.e24 (z:Tru):Int:=z.y19
@[irreducible]def Tru.l0 (z:Tru):Int:=z.y20
@[irreducible]def Tru.l1 (z:Tru):Int:=z.y21
@[irreducible]def Tru.l2 (z:Tru):Int:=z.y22
@[irreducible]def Tru.l3 (z:Tru):Int:=z.y23
@[irreducible]def Tru.l4 (z:Tru):Int:=z.y24
@[irreducible]def Tru.c (z:Tru):Bool:=z.y25
@[irreducible]def Tru.w (z:Tru):Bool:=z.y26
@[irreducible]def Tru.lk (z:Tru):Int:=z.y27
@[irreducible]def Tru.pk (z:Tru):Int:=z.y28
@[irreducible]def Tru.wt (z:Tru):Bool:=z.y29
@[irreducible]def Tru.rs (z:Tru):Bool:=z.y30
section
variable (x0 x1 x2 x3 x4 x5 x6 x7 x8 x9 x10 x11 x12 x13 x14 x15 x16 x17 x18 x19 x20 x21 x22 x23 x24:Int) (x25 x26:Bool) (x27 x28:Int) (x29 x30:Bool)
@[simp]theorem Tru.x0_mk:(Tru.mk x0 x1 x2 x3 x4 x5 x6 x7 x8 x9 x10 x11 x12 x13 x14 x15 x16 x17 x18 x19 x20 x21 x22 x23 x24 x25 x26 x27 x28 x29 x30).x0=x0:=by unfold Tru.x0;rfl
@[simp]theorem Tru.x1_mk:(Tru.mk x0 x1 x2 x3 x4 x5 x6 x7 x8 x9 x10 x11 x12 x13 x14 x15 x16 x17 x18 x19 x20 x21 x22 x23 x24 x25 x26 x27 x28 x29 x30).x1=x1:=by unfold Tru.x1;rfl
@[simp]theorem Tru.x2_mk:(Tru.mk x0 x1 x2 x3 x4 x5 x6 x7 x8 x9 x10 x11 x12 x13 x14 x15 x16 x17 x18 x19 x20 x21 x22 x23 x24 x25 x26 x27 x28 x29 x30).x2=x2:=by unfold Tru.x2;rfl
@[simp]theorem Tru.x3_mk:(Tru.mk x0 x1 x2 x3 x4 x5 x6 x7 x8 x9 x10 x11 x12 x13 x14 x15 x16 x17 x18 x19 x20 x21 x22 x23 x24 x25 x26 x27 x28 x29 x30).x3=x3:=by unfold Tru.x3;rfl
@[simp]theorem Tru.x4_mk:(Tru.mk x0 x1 x2 x3 x4 x5 x6 x7 x8 x9 x10 x11 x12 x13 x14 x15 x16 x17 x18 x19 x20 x21 x22 x23 x24 x25 x26 x27 x28 x29 x30).x4=x4:=by unfold Tru.x4;rfl
@[simp]theorem Tru.e00_mk:(Tru.mk x0 x1 x2 x3 x4 x5 x6 x7 x8 x9 x10 x11 x12 x13 x14 x15 x16 x17 x18 x19 x20 x21 x22 x23 x24 x25 x26 x27 x28 x29 x30).e00=x5:=by unfold Tru.e00;rfl
@[simp]theorem Tru.e01_mk:(Tru.mk x0 x1 x2 x3 x4 x5 x6 x7 x8 x9 x10 x11 x12 x13 x14 x15 x16 x17 x18 x19 x20 x21 x22 x23 x24 x25 x26 x27 x28 x29 x30).e01=x6:=by unfold Tru.e01;rfl
@[simp]theorem Tru.e02_mk:(Tru.mk x0 x1 x2 x3 x4 x5 x6 x7 x8 x9 x10 x11 x12 x13 x14 x15 x16 x17 x18 x19 x20 x21 x22 x23 x24 x25 x26 x27 x28 x29 x30).e02=x7:=by unfold Tru.e02;rfl
@[simp]theorem Tru.e03_mk:(Tru.mk x0 x1 x2 x3 x4 x5 x6 x7 x8 x9 x10 x11 x12 x13 x14 x15 x16 x17 x18 x19 x20 x21 x22 x23 x24 x25 x26 x27 x28 x29 x30).e03=x8:=by unfold Tru.e03;rfl
@[simp]theorem Tru.e04_mk:(Tru.mk x0 x1 x2 x3 x4 x5 x6 x7 x8 x9 x10 x11 x12 x13 x14 x15 x16 x17 x18 x19 x20 x21 x22 x23 x24 x25 x26 x27 x28 x29 x30).e04=x9:=by unfold Tru.e04;rfl
@[simp]theorem Tru.e10_mk:(Tru.mk x0 x1 x2 x3 x4 x5 x6 x7 x8 x9 x10 x11 x12 x13 x14 x15 x16 x17 x18 x19 x20 x21 x22 x23 x24 x25 x26 x27 x28 x29 x30).e10=x10:=by unfold Tru.e10;rfl
@[simp]theorem Tru.e11_mk:(Tru.mk x0 x1 x2 x3 x4 x5 x6 x7 x8 x9 x10 x11 x12 x13 x14 x15 x16 x17 x18 x19 x20 x21 x22 x23 x24 x25 x26 x27 x28 x29 x30).e11=x11:=by unfold Tru.e11;rfl
@[simp]theorem Tru.e12_mk:(Tru.mk x0 x1 x2 x3 x4 x5 x6 x7 x8 x9 x10 x11 x12 x13 x14 x15 x16 x17 x18 x19 x20 x21 x22 x23 x24 x25 x26 x27 x28 x29 x30).e12=x12:=by unfold Tru.e12;rfl
@[simp]theorem Tru.e13_mk:(Tru.mk x0 x1 x2 x3 x4 x5 x6 x7 x8 x9 x10 x11 x12 x13 x14 x15 x16 x17 x18 x19 x20 x21 x22 x23 x24 x25 x26 x27 x28 x29 x30).e13=x13:=by unfold Tru.e13;rfl
@[simp]theorem Tru.e14_mk:(Tru.mk x0 x1 x2 x3 x4 x5 x6 x7 x8 x9 x10 x11 x12 x13 x14 x15 x16 x17 x18 x19 x20 x21 x22 x23 x24 x25 x26 x27 x28 x29 x30).e14=x14:=by unfold Tru.e14;rfl
@[simp]theorem Tru.e20_mk:(Tru.mk x0 x1 x2 x3 x4 x5 x6 x7 x8 x9 x10 x11 x12 x13 x14 x15 x16 x17 x18 x19 x20 x21 x22 x23 x24 x25 x26 x27 x28 x29 x30).e20=x15:=by unfold Tru.e20;rfl
@[simp]theorem Tru.e21_mk:(Tru.mk x0 x1 x2 x3 x4 x5 x6 x7 x8 x9 x10 x11 x12 x13 x14 x15 x16 x17 x18 x19 x20 x21 x22 x23 x24 x25 x26 x27 x28 x29 x30).e21=x16:=by unfold Tru.e21;rfl
@[simp]theorem Tru.e22_mk:(Tru.mk x0 x1 x2 x3 x4 x5 x6 x7 x8 x9 x10 x11 x12 x13 x14 x15 x16 x17 x18 x19 x20 x21 x22 x23 x24 x25 x26 x27 x28 x29 x30).e22=x17:=by unfold Tru.e22;rfl
@[simp]theorem Tru.e23_mk:(Tru.mk x0 x1 x2 x3 x4 x5 x6 x7 x8 x9 x10 x11 x12 x13 x14 x15 x16 x17 x18 x19 x20 x21 x22 x23 x24 x25 x26 x27 x28 x29 x30).e23=x18:=by unfold Tru.e23;rfl
@[simp]theorem Tru.e24_mk:(Tru.mk x0 x1 x2 x3 x4 x5 x6 x7 x8 x9 x10 x11 x12 x13 x14 x15 x16 x17 x18 x19 x20 x21 x22 x23 x24 x25 x26 x27 x28 x29 x30).e24=x19:=by unfold Tru.e24;rfl
@[simp]theorem Tru.l0_mk:(Tru.mk x0 x1 x2 x3 x4 x5 x6 x7 x8 x9 x10 x11 x12 x13 x14 x15 x16 x17 x18 x19 x20 x21 x22 x23 x24 x25 x26 x27 x28 x29 x30).l0=x20:=by unfold Tru.l0;rfl
@[simp]theorem Tru.l1_mk:(Tru.mk x0 x1 x2 x3 x4 x5 x6 x7 x8 x9 x10 x11 x12 x13 x14 x15 x16 x17 x18 x19 x20 x21 x22 x23 x24 x25 x26 x27 x28 x29 x30).l1=x21:=by unfold Tru.l1;rfl
@[simp]theorem Tru.l2_mk:(Tru.mk x0 x1 x2 x3 x4 x5 x6 x7 x8 x9 x10 x11 x12 x13 x14 x15 x16 x17 x18 x19 x20 x21 x22 x23 x24 x25 x26 x27 x28 x29 x30).l2=x22:=by unfold Tru.l2;rfl
@[simp]theorem Tru.l3_mk:(Tru.mk x0 x1 x2 x3 x4 x5 x6 x7 x8 x9 x10 x11 x12 x13 x14 x15 x16 x17 x18 x19 x20 x21 x22 x23 x24 x25 x26 x27 x28 x29 x30).l3=x23:=by unfold Tru.l3;rfl
@[simp]theorem Tru.l4_mk:(Tru.mk x0 x1 x2 x3 x4 x5 x6 x7 x8 x9 x10 x11 x12 x13 x14 x15 x16 x17 x18 x19 x20 x21 x22 x23 x24 x25 x26 x27 x28 x29 x30).l4=x24:=by unfold Tru.l4;rfl
@[simp]theorem Tru.c_mk:(Tru.mk x0 x1 x2 x3 x4 x5 x6 x7 x8 x9 x10 x11 x12 x13 x14 x15 x16 x17 x18 x19 x20 x21 x22 x23 x24 x25 x26 x27 x28 x29 x30).c=x25:=by unfold Tru.c;rfl
@[simp]theorem Tru.w_mk:(Tru.mk x0 x1 x2 x3 x4 x5 x6 x7 x8 x9 x10 x11 x12 x13 x14 x15 x16 x17 x18 x19 x20 x21 x22 x23 x24 x25 x26 x27 x28 x29 x30).w=x26:=by unfold Tru.w;rfl
@[simp]theorem Tru.lk_mk:(Tru.mk x0 x1 x2 x3 x4 x5 x6 x7 x8 x9 x10 x11 x12 x13 x14 x15 x16 x17 x18 x19 x20 x21 x22 x23 x24 x25 x26 x27 x28 x29 x30).lk=x27:=by unfold Tru.lk;rfl
@[simp]theorem Tru.pk_mk:(Tru.mk x0 x1 x2 x3 x4 x5 x6 x7 x8 x9 x10 x11 x12 x13 x14 x15 x16 x17 x18 x19 x20 x21 x22 x23 x24 x25 x26 x27 x28 x29 x30).pk=x28:=by unfold Tru.pk;rfl
@[simp]theorem Tru.wt_mk:(Tru.mk x0 x1 x2 x3 x4 x5 x6 x7 x8 x9 x10 x11 x12 x13 x14 x15 x16 x17 x18 x19 x20 x21 x22 x23 x24 x25 x26 x27 x28 x29 x30).wt=x29:=by unfold Tru.wt;rfl
@[simp]theorem Tru.rs_mk:(Tru.mk x0 x1 x2 x3 x4 x5 x6 x7 x8 x9 x10 x11 x12 x13 x14 x15 x16 x17 x18 x19 x20 x21 x22 x23 x24 x25 x26 x27 x28 x29 x30).rs=x30:=by unfold Tru.rs;rfl
end
@[simp]theorem Tru.eta (z:Tru):Tru.mk z.x0 z.x1 z.x2 z.x3 z.x4 z.e00 z.e01 z.e02 z.e03 z.e04 z.e10 z.e11 z.e12 z.e13 z.e14 z.e20 z.e21 z.e22 z.e23 z.e24 z.l0 z.l1 z.l2 z.l3 z.l4 z.c z.w z.lk z.pk z.wt z.rs=z:=by unfold Tru.x0 Tru.x1 Tru.x2 Tru.x3 Tru.x4 Tru.e00 Tru.e01 Tru.e02 Tru.e03 Tru.e04 Tru.e10 Tru.e11 Tru.e12 Tru.e13 Tru.e14 Tru.e20 Tru.e21 Tru.e22 Tru.e23 Tru.e24 Tru.l0 Tru.l1 Tru.l2 Tru.l3 Tru.l4 Tru.c Tru.w Tru.lk Tru.pk Tru.wt Tru.rs;rfl
abbrev xR:=Int × Int × Int × Int × Int × Int × Int × Int × Int × Int × Int × Int × Int × Int × Int × Int × Int × Int × Int × Int × Int × Int × Int × Int × Int × Bool × Bool × Int × Int × Bool × Bool × Unit
@[irreducible]def Hm (z:xR):Tru :=
 let (x0,x1,x2,x3,x4,x5,x6,x7,x8,x9,x10,x11,x12,x13,x14,x15,x16,x17,x18,x19,x20,x21,x22,x23,x24,x25,x26,x27,x28,x29,x30,_):=z
 ⟨x0,x1,x2,x3,x4,x5,x6,x7,x8,x9,x10,x11,x12,x13,x14,x15,x16,x17,x18,x19,x20,x21,x22,x23,x24,x25,x26,x27,x28,x29,x30⟩
@[reducible]def Zb (z:Tru):xR:=(z.x0,z.x1,z.x2,z.x3,z.x4,z.e00,z.e01,z.e02,z.e03,z.e04,z.e10,z.e11,z.e12,z.e13,z.e14,z.e20,z.e21,z.e22,z.e23,z.e24,z.l0,z.l1,z.l2,z.l3,z.l4,z.c,z.w,z.lk,z.pk,z.wt,z.rs,())
def gm (z:Tru):List AV:=[.si .i64 z.x0,.si .i64 z.x1,.si .i64 z.x2,.si .i64 z.x3,.si .i64 z.x4,.si .i64 z.e00,.si .i64 z.e01,.si .i64 z.e02,.si .i64 z.e03,.si .i64 z.e04,.si .i64 z.e10,.si .i64 z.e11,.si .i64 z.e12,.si .i64 z.e13,.si .i64 z.e14,.si .i64 z.e20,.si .i64 z.e21,.si .i64 z.e22,.si .i64 z.e23,.si .i64 z.e24,.si .i64 z.l0,.si .i64 z.l1,.si .i64 z.l2,.si .i64 z.l3,.si .i64 z.l4,.sb z.c,.sb z.w,.si .i64 z.lk,.si .i64 z.pk,.sb z.wt,.sb z.rs]
@[reducible]def V2:List Sh:=[.int .i64,.int .i64,.int .i64,.int .i64,.int .i64,.int .i64,.int .i64,.int .i64,.int .i64,.int .i64,.int .i64,.int .i64,.int .i64,.int .i64,.int .i64,.int .i64,.int .i64,.int .i64,.int .i64,.int .i64,.int .i64,.int .i64,.int .i64,.int .i64,.int .i64,.bool,.bool,.int .i64,.int .i64,.bool,.bool]
theorem O6 (z:Tru):Hm (Zb z)=z:=by unfold Hm Zb Tru.x0 Tru.x1 Tru.x2 Tru.x3 Tru.x4 Tru.e00 Tru.e01 Tru.e02 Tru.e03 Tru.e04 Tru.e10 Tru.e11 Tru.e12 Tru.e13 Tru.e14 Tru.e20 Tru.e21 Tru.e22 Tru.e23 Tru.e24 Tru.l0 Tru.l1 Tru.l2 Tru.l3 Tru.l4 Tru.c Tru.w Tru.lk Tru.pk Tru.wt Tru.rs;rfl
@[simp]theorem AK6 (z:Tru):Hm (z.x0,z.x1,z.x2,z.x3,z.x4,z.e00,z.e01,z.e02,z.e03,z.e04,z.e10,z.e11,z.e12,z.e13,z.e14,z.e20,z.e21,z.e22,z.e23,z.e24,z.l0,z.l1,z.l2,z.l3,z.l4,z.c,z.w,z.lk,z.pk,z.wt,z.rs,())=z:=O6 z
theorem gl (t:xR):t=Zb (Hm t):=by unfold Hm Zb;simp
end
end Abs
end Go.Proofs.YtccgngldoinokaaGreat

namespace Go.Proofs.YtccgngldoinokaaGreat
namespace Abs
open Go Go.RowKit
noncomputable section
attribute [local irreducible] A2
def xB:List (Option IntKind):=[none,none,none,none,none,none,none]
def wC:List (Nat × List (Option IntKind)):=[(124,xB)]
theorem qM:∀ t ks,AL wC t=some ks->EqOK Tryz.prog t ks:=by
 intro t ks h
 unfold wC at h
 simp only [AL] at h
 split at h
 ·rename_i e
  obtain rfl:=Nat.eq_of_beq_eq_true e
  injection h with h;subst h
  exact EqOK.of 3 (by decide) (by kernel_rfl) (by kernel_rfl) (by kernel_rfl)
 ·cases h
noncomputable def SZ0:Sums:=⟨[],[],0,wC,[],[]⟩
theorem SZ0_ok:SumsOK Tryz.prog SZ0:=.nil _ _ _ qM
@[irreducible]def qB (x:Int):Bool:=decide (-1099511627776<=x)&&decide (x<=1099511627776)
theorem qB_iff {x:Int}:qB x=true ↔ -1099511627776<=x/\x<=1099511627776:=by unfold qB;simp
@[irreducible]def go (x:Int):Bool:=decide (1<=x)&&decide (x<=100)
theorem tkB_iff {x:Int}:go x=true↔1<=x/\x<=100:=by unfold go;simp
@[irreducible]def CX (n:Int) (b:Bool):Int:=if b=true then n+1 else 0
theorem wP (n:Int):CX n true=n+1:=by unfold CX;simp
theorem Yz (n:Int):CX n false=0:=by unfold CX;simp
@[irreducible]def WP (a b c:Bool):Bool:=(a&&b)||(a&&c)||(b&&c)
@[irreducible]def ID (a b m:Int):Bool:=decide (m<max a b-min a b)
theorem faB_iff {a b m:Int}:ID a b m=true↔m<max a b-min a b:=by unfold ID;simp
def Va:Spec [.int .i64]:=⟨fun _=>True,fun ((x:Int),_)=>.sb (qB x)⟩
set_option maxRecDepth 100000 in
theorem YJ:FnSpec Tryz.prog 28 _ Va:=by
 refine FnSpec.of SZ0_ok mixed (U:=0) (I:=fun _=>[]) Tryz.func28 rfl (by kernel_rfl) rfl rfl (by decide +kernel) ?_
 rintro ⟨(x:Int),⟨⟩⟩ -
 unfold A2
 conv=>arg 2;reduce
 simp [Va]
 unfold qB
 simp
def dc:Spec [.int .i64]:=⟨fun _=>True,fun ((x:Int),_)=>.sb (go x)⟩
set_option maxRecDepth 100000 in
theorem im:FnSpec Tryz.prog 60 _ dc:=by
 refine FnSpec.of SZ0_ok mixed (U:=0) (I:=fun _=>[]) Tryz.func60 rfl (by kernel_rfl) rfl rfl (by decide +kernel) ?_
 rintro ⟨(x:Int),⟨⟩⟩ -
 unfold A2
 conv=>arg 2;reduce
 simp [dc]
 unfold go
 simp
def QR:Spec [.int .i64,.bool]:=⟨fun ((n:Int),_)=>0<=n/\n<=1099511627776,fun ((n:Int),(b:Bool),_)=>.si .i64 (CX n b)⟩
set_option maxRecDepth 100000 in
theorem j8:FnSpec Tryz.prog 33 _ QR:=by
 refine FnSpec.of SZ0_ok mixed (U:=0) (I:=fun _=>[]) Tryz.func33 rfl (by kernel_rfl) rfl rfl (by decide +kernel) ?_
 rintro ⟨(n:Int),(b:Bool),⟨⟩⟩ ⟨(h1:0<=n),(h2:n<=1099511627776)⟩
 unfold A2
 conv=>arg 2;reduce
 simp [QR]
 unfold CX
 refine ⟨fun h=>?_,fun h=>?_⟩
 ·rw [if_pos h];omega
 ·simp [h]
def QQ:Spec [.agg [.bool,.bool,.bool]]:=⟨fun _=>True,fun (((a:Bool),(b:Bool),(c:Bool),_),_)=>.sb (WP a b c)⟩
set_option maxRecDepth 100000 in
theorem j6:FnSpec Tryz.prog 35 _ QQ:=by
 refine FnSpec.of SZ0_ok mixed (U:=5) (I:=fun _=>[]) Tryz.func35 rfl (by kernel_rfl) rfl rfl (by decide +kernel) ?_
 rintro ⟨⟨(a:Bool),(b:Bool),(c:Bool),⟨⟩⟩,⟨⟩⟩ -
 unfold A2
 conv=>arg 2;reduce
 simp [QQ]
 unfold WP
 cases a<;>cases b<;>cases c<;>simp
def Th:Spec [.int .i64,.int .i64,.int .i64]:=⟨fun ((a:Int),(b:Int),(m:Int),_)=>-4398046511104<=a/\a<=4398046511104 /\ -4398046511104<=b/\b<=4398046511104/\0<=m/\m<=4398046511104,fun ((a:Int),(b:Int),(m:Int),_)=>.sb (ID a b m)⟩
set_option maxRecDepth 100000 in
theorem uM:FnSpec Tryz.prog 68 _ Th:=by
 refine FnSpec.of SZ0_ok mixed (U:=0) (I:=fun _=>[]) Tryz.func68 rfl (by kernel_rfl) rfl rfl (by decide +kernel) ?_
 rintro ⟨(a:Int),(b:Int),(m:Int),⟨⟩⟩ ⟨(h1 : -4398046511104<=a),(h2:a<=4398046511104),(h3 : -4398046511104<=b),(h4:b<=4398046511104),(h5:0<=m),(h6:m<=4398046511104)⟩
 unfold A2
 conv=>arg 2;reduce
 simp [Th]
 have e:∀ n,IntKind.u64.wrap n=n % 18446744073709551616:=fun n=>by simp [IntKind.wrap,IntKind.bits,IntKind.signed]
 simp only [e]
 have e2:max a b-min a b<18446744073709551616:=by omega
 have e3:m % 18446744073709551616=m:=by omega
 have e4:(max a b % 18446744073709551616-min a b % 18446744073709551616) % 18446744073709551616=max a b-min a b:=by
  rw [<- Int.sub_emod]
  omega
 rw [e3,e4]
 unfold ID
 rfl
end
end Abs
end Go.Proofs.YtccgngldoinokaaGreat

namespace Go.Proofs.YtccgngldoinokaaGreat
namespace Abs
open Go Go.RowKit
noncomputable section
def slK:VC->Option Sum2
 | .need p k=>(match slK k with|some ⟨ps,r,h,mv⟩=>some ⟨p::ps,r,h,mv⟩|none=>none)
 | .out r hp=>some ⟨[],r,hp,none⟩
 | _=>none
def slKP:{g:VC->Option Sum2 // slK=g}:=⟨_,by delta slK;rfl⟩
def zQ:VC->Option Sum2:=slKP.1
theorem nY:zQ=slK:=slKP.2.symm
def ngB:AV->Bool
 | .gd _ _=>false
 | _=>true
def ngL:List AV->Bool
 | []=>true
 | a::l=>(match ngB a with|true=>ngL l|false=>false)
def pc:List AV->Nat
 | []=>0
 | _::l=>pc l+1
def eZ (P:Program) (S:Sums) (U:Nat) (fn:Func):Ey:=fun args hp =>
 match ngL args,Nat.ble (pc args) fn.ntmps with
 | true,true=>zQ (mR P ⟨S.one,S.two,hp.length,S.eqs,S.its,S.imm⟩ U [] fn args hp)
 | _,_=>none
end
theorem nX:∀ {v:VC} {pre:List Cd} {res:AV} {hp:A0} {mv:Option Nat},slK v=some ⟨pre,res,hp,mv⟩->(∀ p∈pre,p.ok)->mv=none/\v.sat fun r h=>r=res/\h=hp:=by
 intro v
 induction v with
 | need p k ih =>
   intro pre res hp mv h hp'
   simp only [slK] at h
   split at h
   ·rename_i ps r h' mv' e
    injection h with h;injection h with h1 h2 h3 h4
    subst h1 h2 h3 h4
    have:=ih e fun q hq=>hp' q (List.mem_cons_of_mem _ hq)
    exact ⟨this.1,hp' _ (List.mem_cons_self ..),this.2⟩
   ·cases h
 | out r hp =>
   intro pre res hp0 mv h _
   simp only [slK] at h
   injection h with h;injection h with h1 h2 h3 h4
   exact ⟨h4.symm,h2,h3⟩
 | fail=>intro pre res hp mv h;simp [slK] at h
 | branch b t e _ _=>intro pre res hp mv h;simp [slK] at h
 | done=>intro pre res hp mv h;simp [slK] at h
 | loop d e b _ _=>intro pre res hp mv h;simp [slK] at h
 | ex d m k _=>intro pre res hp mv h;simp [slK] at h
theorem Vl:∀ {l:List AV},ngL l=true->∀ t,EW (A4 l t)
 | [],_,t=>by simp only [A4];trivial
 | a::l,h,0=>by
   simp only [ngL] at h
   simp only [A4]
   split at h
   ·rename_i ha
    cases a<;>first|(simp [ngB] at ha;done)|trivial
   ·cases h
 | a::l,h,t+1=>by
   simp only [ngL] at h
   simp only [A4]
   split at h
   ·exact Vl h t
   ·cases h
theorem bp:∀ l:List AV,pc l=l.length
 | []=>rfl
 | _::l=>by simp [pc,bp l]
theorem cB {P:Program} {S:Sums} (hS:SumsOK P S) (hm:P.follows .mixedOrders=true) {U:Nat} {f:FuncId} {fn:Func} {c:Code} (hf:P.funcs[f]? = some fn) (hb:fn.body=some c) (hok:Cu c=true):Iw P f (eZ P S U fn):=by
 intro args hp pre res hp' mv h hpre
 unfold eZ at h
 rw [nY] at h
 split at h
 ·rename_i h1 h2
  obtain ⟨rfl,hsat⟩:=nX h hpre
  intro C w vs hO hH ha
  have hS':SumsOK P ⟨S.one,S.two,hp.length,S.eqs,S.its,S.imm⟩:=⟨hS.one,hS.two,hS.eqs,hS.bodyOne,hS.bodyTwo,hS.its⟩
  refine (Sr hS' hm hf hb hok (Nat.le_refl _) hH ha (Vl h1) (by rw [bp] at h2;exact Nat.le_of_ble_eq_true h2) (Un hsat)).mono ?_
  rintro e w' ⟨v,a,hp2,C1,he,⟨rfl,rfl⟩,h3,h4,h5,h6⟩
  refine ⟨v,C1,he,h4,h5,(Since.refl (fun i hi=>?_) hO).step h6⟩
  cases hc:C.ρ i with
  | none=>rfl
  | some p=>have:=hH.lt hc;omega
 ·cases h
end Abs
end Go.Proofs.YtccgngldoinokaaGreat

namespace Go.Proofs.YtccgngldoinokaaGreat
namespace Abs
open Go Go.RowKit
noncomputable section
def Je {β:Type 1} (l:List AV):(List AV->β)->β :=
 List.rec (motive:=fun _=>(List AV->β)->β) (fun k=>k []) (fun a _ ih k=>@AV.casesOn (fun _=>β) a (ih fun l=>k (.top::l)) (fun a b=>ih fun l=>k (.li a b::l)) (fun a b=>ih fun l=>k (.si a b::l)) (fun b=>ih fun l=>k (.lb b::l)) (fun b=>ih fun l=>k (.sb b::l)) (fun x=>ih fun l=>k (.v x::l)) (fun m=>ih fun l=>k (.agg m::l)) (fun m=>ih fun l=>k (.tup m::l)) (fun i o=>ih fun l=>k (.own i o::l)) (fun a b c d=>ih fun l=>k (.elt a b c d::l)) (fun i=>ih fun l=>k (.row i::l)) (fun a b c=>ih fun l=>k (.lsl a b c::l)) (fun a b c=>ih fun l=>k (.slc a b c::l)) (fun m=>ih fun l=>k (.xp m::l)) (fun a b c=>ih fun l=>k (.fn a b c::l)) (fun c a=>ih fun l=>k (.gd c a::l)) (fun a b c=>ih fun l=>k (.pa a b c::l)) (fun i=>ih fun l=>k (.mp i::l))) l
theorem NL {β:Type 1}:∀ (l:List AV) (k:List AV->β),Je l k=k l
 | [],_=>rfl
 | a::l,k=>by
   have:Je (a::l) k=Je l fun l=>k (a::l):=by cases a<;>rfl
   rw [this,NL l]
def Nv {β:Type 1} (l:List AV):(List AV->β)->β :=
 List.rec (motive:=fun _=>(List AV->β)->β) (fun k=>k []) (fun a _ ih k=>@AV.casesOn (fun _=>β) a (ih fun l=>k (.top::l)) (fun a b=>ih fun l=>k (.li a b::l)) (fun a b=>ih fun l=>k (.si a b::l)) (fun b=>ih fun l=>k (.lb b::l)) (fun b=>ih fun l=>k (.sb b::l)) (fun x=>ih fun l=>k (.v x::l)) (fun m=>Je m fun m=>ih fun l=>k (.agg m::l)) (fun m=>ih fun l=>k (.tup m::l)) (fun i o=>ih fun l=>k (.own i o::l)) (fun a b c d=>ih fun l=>k (.elt a b c d::l)) (fun i=>ih fun l=>k (.row i::l)) (fun a b c=>ih fun l=>k (.lsl a b c::l)) (fun a b c=>ih fun l=>k (.slc a b c::l)) (fun m=>Je m fun m=>ih fun l=>k (.xp m::l)) (fun a b c=>ih fun l=>k (.fn a b c::l)) (fun c a=>ih fun l=>k (.gd c a::l)) (fun a b c=>ih fun l=>k (.pa a b c::l)) (fun i=>ih fun l=>k (.mp i::l))) l
theorem Pf {β:Type 1}:∀ (l:List AV) (k:List AV->β),Nv l k=k l
 | [],_=>rfl
 | a::l,k=>by
   have:Nv (a::l) k=Nv l fun l=>k (a::l):=by
    cases a<;>first|rfl|exact NL _ _
   rw [this,Pf l]
def cP {β:Type 1} (b:Blk) (k:Blk->β):β:=match b with
 | .cells t l=>Nv l fun l'=>k (.cells t l')
 | b=>k b
def K6 {β:Type 1}:A0->(A0->β)->β
 | [],k=>k []
 | a::l,k=>cP a fun a'=>K6 l fun l'=>k (a'::l')
theorem Kr {β:Type 1}:∀ (l:A0) (k:A0->β),K6 l k=k l
 | [],_=>rfl
 | a::l,k=>by cases a<;>simp [K6,cP,Pf,Kr l]
def F5 (obs:List OB) (shs:List Sh) (sp:SpecF obs shs):Ey:=fun args hp =>
 Kq (Ub [] (IX args)) fun j1=>Kq (Ub j1 (Zy hp j1)) fun js =>
 match JM js&&Jz (fun i=>Eh i js) args&&Ou js hp js&&Tn obs (NV js hp js)&&Kc shs (EU (KH js) args) with
 | true=>XD obs (NV js hp js) fun o=>Jm shs (EU (KH js) args) fun x=>K6 (sp.after o x) fun h1 =>
   (match uT (fun _=>true) (sp.res o x)&&YM (fun _=>true) h1 with
   | true=>K6 (YH js (NY js hp.length) h1 0 hp++dt (NY js hp.length) js.length h1) fun h2=>some ⟨Nf (Sq obs (NV js hp js)) (Nf (Iv shs (EU (KH js) args)) [⟨fun z:L0 obs × Ad shs=>sp.pre z.1 z.2,(o,x)⟩]),
     ia (NY js hp.length) (sp.res o x),h2,none⟩
   | false=>none)
 | false=>none
theorem dy (obs:List OB) (shs:List Sh) (sp:SpecF obs shs):F5 obs shs sp=JR obs shs sp:=by
 unfold F5 JR
 simp only [Kr]
 rfl
theorem DS {P:Program} {f:FuncId} {obs:List OB} {shs:List Sh} {sp:SpecF obs shs} (h:FnSpecF P f obs shs sp):Iw P f (F5 obs shs sp):=by
 rw [dy];exact Hx h
end
end Abs
end Go.Proofs.YtccgngldoinokaaGreat

namespace Go.Proofs.YtccgngldoinokaaGreat
namespace Abs
open Go Go.RowKit
noncomputable section
attribute [local irreducible] A2
def jL:Spec [.ptr [.ptr []]]:=⟨fun _=>True,fun _=>.lb true⟩
set_option maxRecDepth 100000 in
theorem jK:FnSpec Tryz.prog 27 _ jL:=by
 refine FnSpec.of SZ0_ok mixed (U:=0) (I:=fun _=>[]) Tryz.func27 rfl (by kernel_rfl) rfl rfl (by decide +kernel) ?_
 rintro ⟨⟨⟨⟩,⟨⟩⟩,⟨⟩⟩ -
 unfold A2
 conv=>arg 2;reduce
 simp [jL]
@[irreducible]def p9 (x:Int):Bool:=decide (x≠0)
def QV:Spec [.ptr [.ptr [],.int .i64,.int .i64]]:=⟨fun _=>True,fun ((_,(_:Int),(c:Int),_),_)=>.sb (p9 c)⟩
set_option maxRecDepth 100000 in
theorem jN:FnSpec Tryz.prog 69 _ QV:=by
 refine FnSpec.of SZ0_ok mixed (U:=0) (I:=fun _=>[]) Tryz.func69 rfl (by kernel_rfl) rfl rfl (by decide +kernel) ?_
 rintro ⟨⟨⟨⟩,(p:Int),(c:Int),⟨⟩⟩,⟨⟩⟩ -
 unfold A2
 conv=>arg 2;reduce
 simp [QV]
 unfold p9
 by_cases h:c=0<;>simp [h]
@[reducible]def mL:List OB:=[.cells 103 sg]
def Xb (m:Mc):A0:=[.cells 103 (Na m)]
def O4:SpecF mL [.own 0 0,.int .i64]:=⟨fun _ _=>True,fun _ _=>.tup [],fun (x,_) (_,(c:Int),_)=>AP3 x c⟩
set_option maxRecDepth 100000 in
theorem gk:FnSpecF Tryz.prog 34 _ _ O4:=by
 refine FnSpecF.of SZ0_ok mixed (U:=0) (I:=fun _ _=>[]) Tryz.func34 rfl (by kernel_rfl) rfl (by decide +kernel) ?_
 rintro ⟨⟨x0,x1,x2,x3,x4,x5,x6,x7,x8,x9,x10,x11,x12,x13,x14,x15,x16,x17,x18,x19,x20,x21,⟨⟩⟩,⟨⟩⟩ ⟨⟨⟩,(c:Int),⟨⟩⟩ -
 unfold A2
 conv=>arg 2;reduce
 simp [O4,Dh,Ed,Ab,enc,Dy,J6,Lr,ownIn.ownInL,ownIn,A3,AP,AB]
 unfold GB
 refine ⟨fun h=>?_,fun h=>?_⟩<;>simp [h]
def UJ:SpecF mL [.own 0 0,.int .i64]:=⟨fun _ _=>True,fun _ _=>.tup [],fun (x,_) (_,(c:Int),_)=>AU4 x c⟩
set_option maxRecDepth 100000 in
theorem wG:FnSpecF Tryz.prog 70 _ _ UJ:=by
 refine FnSpecF.of SZ0_ok mixed (U:=0) (I:=fun _ _=>[]) Tryz.func70 rfl (by kernel_rfl) rfl (by decide +kernel) ?_
 rintro ⟨⟨x0,x1,x2,x3,x4,x5,x6,x7,x8,x9,x10,x11,x12,x13,x14,x15,x16,x17,x18,x19,x20,x21,⟨⟩⟩,⟨⟩⟩ ⟨⟨⟩,(c:Int),⟨⟩⟩ -
 unfold A2
 conv=>arg 2;reduce
 simp [UJ,Dh,Ed,Ab,enc,Dy,J6,Lr,ownIn.ownInL,ownIn,A3,AP,AB]
noncomputable def SZe0:Sums:=⟨(69,A_ _ QV)::(27,A_ _ jL)::(35,A_ _ QQ)::(33,A_ _ QR)::SZ0.one,SZ0.two,SZ0.lo,SZ0.eqs,SZ0.its,SZ0.imm⟩
theorem rU:SumsOK Tryz.prog SZe0:=((((SZ0_ok.cons Tryz.func33 (by kernel_rfl) (by kernel_rfl) j8).cons Tryz.func35 (by kernel_rfl) (by kernel_rfl) j6).cons Tryz.func27 (by kernel_rfl) (by kernel_rfl) jK).cons Tryz.func69 (by kernel_rfl) (by kernel_rfl) jN)
noncomputable def SZe:Sums:=⟨SZe0.one,(34,F5 _ _ O4)::(70,F5 _ _ UJ)::SZe0.two,SZe0.lo,SZe0.eqs,SZe0.its,SZe0.imm⟩
theorem N3:SumsOK Tryz.prog SZe:=SumsOK.addTwo (SumsOK.addTwo rU Tryz.func70 (by kernel_rfl) (by kernel_rfl) (DS wG)) Tryz.func34 (by kernel_rfl) (by kernel_rfl) (DS gk)
theorem V9 (t:SnT):t=nV (IR t):=by unfold IR nV;simp
structure McOK (m:Mc):Prop where
 t0:0<=m.ti
 t1:m.ti<=1000000
 m0:0<=m.mi
 m1:m.mi<=1000000
def xT (s:Sn):Prop:=-1099511627776<=s.lk/\s.lk<=1099511627776 /\ -1099511627776<=s.pk/\s.pk<=1099511627776
@[irreducible]def Tk (m:Mc) (s:Sn):Mc:=if m.ca≠0 then (m.s_ph 4).s_ti 0 else if s.wt=true then (if s.cl=true then ((m.s_ca 11).s_ph 4).s_ti 0 else (m.s_ph 1).s_ti 0) else m
def aU:SpecF mL [.own 0 0,.ptr Qm]:=⟨fun (x,_) _=>mJ x,fun _ _=>.tup [],fun (x,_) (_,s,_)=>Xb (Tk (G4 x) (IR s))⟩
set_option maxRecDepth 100000 in
set_option maxHeartbeats 4000000 in
theorem oZ:FnSpecF Tryz.prog 36 _ _ aU:=by
 refine FnSpecF.of N3 mixed (U:=0) (I:=fun _ _=>[]) Tryz.func36 rfl (by kernel_rfl) rfl (by decide +kernel) ?_
 rintro ⟨x,⟨⟩⟩ ⟨⟨⟩,s,⟨⟩⟩ hp
 obtain ⟨m,rfl⟩:∃ m,x=bD m:=⟨_,mcC_iff.1 hp⟩
 obtain ⟨s,rfl⟩:∃ z,s=nV z:=⟨IR s,V9 s⟩
 clear hp
 unfold A2
 conv=>arg 2;reduce
 simp [aU,Xb,Na,QV,UJ,O4,JT,Dh,Ed,Ab,enc,Dy,J6,Lr,ownIn.ownInL,ownIn,A3,AP,AB]
 by_cases h0:m.ca=0<;>by_cases h1:s.wt=true<;>by_cases h2:s.cl=true<;>simp [Tk,p9,GB,h0,h1,h2]
@[irreducible]def Tf (m:Mc) (s:Sn):Mc:=if m.ca≠0\/s.wt=false then (m.s_ph 3).s_ti 0 else if s.pk<=s.lk*65536 then (m.s_ph 2).s_mi 0 else if 5<=m.ti+1 then ((m.s_ca 10).s_ph 3).s_ti 0 else m.s_ti (m.ti+1)
def oO:SpecF mL [.own 0 0,.ptr Qm]:=⟨fun (x,_) (_,s,_)=>mJ x/\McOK (G4 x)/\xT (IR s),fun _ _=>.tup [],fun (x,_) (_,s,_)=>Xb (Tf (G4 x) (IR s))⟩
set_option maxRecDepth 100000 in
set_option maxHeartbeats 4000000 in
theorem uH:FnSpecF Tryz.prog 37 _ _ oO:=by
 refine FnSpecF.of N3 mixed (U:=0) (I:=fun _ _=>[]) Tryz.func37 rfl (by kernel_rfl) rfl (by decide +kernel) ?_
 rintro ⟨x,⟨⟩⟩ ⟨⟨⟩,s,⟨⟩⟩ ⟨hp,hk⟩
 obtain ⟨m,rfl⟩:∃ m,x=bD m:=⟨_,mcC_iff.1 hp⟩
 obtain ⟨s,rfl⟩:∃ z,s=nV z:=⟨IR s,V9 s⟩
 simp only [Kl,O8] at hk
 clear hp
 unfold A2
 conv=>arg 2;reduce
 simp [oO,Xb,Na,QV,UJ,O4,QR,QQ,JT,Dh,Ed,Ab,enc,Dy,J6,Lr,ownIn.ownInL,ownIn,A3,AP,AB]
 obtain ⟨⟨t0,t1,m0,m1⟩,l0,l1,k0,k1⟩:=hk
 by_cases h0:m.ca=0<;>by_cases h1:s.wt=true<;>by_cases h2:s.pk<=s.lk*65536<;>by_cases h3:5<=m.ti+1<;>simp [Tf,p9,GB,h0,h1,h2,h3]<;>omega
@[irreducible]def UQ (m:Mc) (s:Sn):Int:=if m.g.op<CX m.mi (!s.k0 || !s.k1) then GB m.ca 12 else m.ca
@[irreducible]def Nc (m:Mc) (s:Sn):Mc:=if UQ m s≠0\/s.wt=false then (((m.s_mi (CX m.mi (!s.k0 || !s.k1))).s_ca (UQ m s)).s_ph 3).s_ti 0 else (m.s_mi (CX m.mi (!s.k0 || !s.k1))).s_ca (UQ m s)
def qn:SpecF mL [.own 0 0,.ptr Qm]:=⟨fun (x,_) (_,s,_)=>mJ x/\McOK (G4 x),fun _ _=>.tup [],fun (x,_) (_,s,_)=>Xb (Nc (G4 x) (IR s))⟩
set_option maxRecDepth 100000 in
set_option maxHeartbeats 4000000 in
theorem wQ:FnSpecF Tryz.prog 38 _ _ qn:=by
 refine FnSpecF.of N3 mixed (U:=0) (I:=fun _ _=>[]) Tryz.func38 rfl (by kernel_rfl) rfl (by decide +kernel) ?_
 rintro ⟨x,⟨⟩⟩ ⟨⟨⟩,s,⟨⟩⟩ ⟨hp,hk⟩
 obtain ⟨m,rfl⟩:∃ m,x=bD m:=⟨_,mcC_iff.1 hp⟩
 obtain ⟨s,rfl⟩:∃ z,s=nV z:=⟨IR s,V9 s⟩
 simp only [Kl,O8] at hk
 clear hp
 unfold A2
 conv=>arg 2;reduce
 simp [qn,Xb,Na,QV,UJ,O4,QR,QQ,JT,Dh,Ed,Ab,enc,Dy,J6,Lr,ownIn.ownInL,ownIn,A3,AP,AB]
 obtain ⟨t0,t1,m0,m1⟩:=hk
 by_cases h0:m.g.op<CX m.mi (!s.k0 || !s.k1)<;>by_cases h1:s.wt=true
 ·by_cases h2:GB m.ca 12=0<;>simp [Nc,UQ,p9,h0,h1,h2]<;>omega
 ·by_cases h2:GB m.ca 12=0<;>simp [Nc,UQ,p9,h0,h1,h2]<;>omega
 ·by_cases h2:m.ca=0<;>simp [Nc,UQ,p9,h0,h1,h2]<;>omega
 ·by_cases h2:m.ca=0<;>simp [Nc,UQ,p9,h0,h1,h2]<;>omega
@[irreducible]def dm (m:Mc) (s:Sn):Int:=if s.cl=true then GB m.ca 11 else m.ca
@[irreducible]def QS (m:Mc) (s:Sn):Mc:=if m.ti+1<m.g.op then m.s_ti (m.ti+1) else if s.cl=true/\s.cu=true then (m.s_ti (m.ti+1)).s_ph 5 else if dm m s≠0 then ((m.s_ca (dm m s)).s_ph 4).s_ti 0 else ((m.s_ca (dm m s)).s_ph 0).s_ti 0
def ol:SpecF mL [.own 0 0,.ptr Qm]:=⟨fun (x,_) (_,s,_)=>mJ x/\McOK (G4 x),fun _ _=>.tup [],fun (x,_) (_,s,_)=>Xb (QS (G4 x) (IR s))⟩
set_option maxRecDepth 100000 in
set_option maxHeartbeats 4000000 in
theorem uS:FnSpecF Tryz.prog 39 _ _ ol:=by
 refine FnSpecF.of N3 mixed (U:=0) (I:=fun _ _=>[]) Tryz.func39 rfl (by kernel_rfl) rfl (by decide +kernel) ?_
 rintro ⟨x,⟨⟩⟩ ⟨⟨⟩,s,⟨⟩⟩ ⟨hp,hk⟩
 obtain ⟨m,rfl⟩:∃ m,x=bD m:=⟨_,mcC_iff.1 hp⟩
 obtain ⟨s,rfl⟩:∃ z,s=nV z:=⟨IR s,V9 s⟩
 simp only [Kl,O8] at hk
 clear hp
 unfold A2
 conv=>arg 2;reduce
 simp [ol,Xb,Na,QV,UJ,O4,QR,QQ,JT,Dh,Ed,Ab,enc,Dy,J6,Lr,ownIn.ownInL,ownIn,A3,AP,AB]
 obtain ⟨t0,t1,m0,m1⟩:=hk
 by_cases h0:m.ti+1<m.g.op
 ·simp [QS,h0]
  omega
 ·by_cases h1:s.cl=true<;>by_cases h2:s.cu=true<;>by_cases h3:m.ca=0<;>simp [QS,dm,p9,GB,h0,h1,h2,h3]<;>omega
@[irreducible]def XV (s:Sn):Bool:=!s.n0 && !s.n1 && !s.n2 && !s.n3 && !s.n4 && !s.n5 && !s.n6
@[irreducible]def YO (m:Mc) (s:Sn):Bool:=s.rs&&XV s && !(WP s.c0 s.c1 s.c2) && !(WP s.w0 s.w1 s.w2)&&decide (m.ca≠11)
@[irreducible]def HJ (m:Mc):Mc:=((((((((m.s_ca 0).s_h0 0).s_h1 0).s_h2 0).s_h3 0).s_h4 0).s_h5 0).s_h6 0)
@[irreducible]def NZ (m:Mc) (s:Sn):Mc:=if m.g.op<=CX m.ti s.cu then (m.s_ti (CX m.ti s.cu)).s_ph 5 else if YO m s=true then ((HJ m).s_ph 0).s_ti 0 else m.s_ti (CX m.ti s.cu)
def p8:SpecF mL [.own 0 0,.ptr Qm]:=⟨fun (x,_) (_,s,_)=>mJ x/\McOK (G4 x),fun _ _=>.tup [],fun (x,_) (_,s,_)=>Xb (NZ (G4 x) (IR s))⟩
set_option maxRecDepth 100000 in
set_option maxHeartbeats 4000000 in
theorem uU:FnSpecF Tryz.prog 40 _ _ p8:=by
 refine FnSpecF.of N3 mixed (U:=0) (I:=fun _ _=>[]) Tryz.func40 rfl (by kernel_rfl) rfl (by decide +kernel) ?_
 rintro ⟨x,⟨⟩⟩ ⟨⟨⟩,s,⟨⟩⟩ ⟨hp,hk⟩
 obtain ⟨m,rfl⟩:∃ m,x=bD m:=⟨_,mcC_iff.1 hp⟩
 obtain ⟨s,rfl⟩:∃ z,s=nV z:=⟨IR s,V9 s⟩
 simp only [Kl,O8] at hk
 clear hp
 unfold A2
 conv=>arg 2;reduce
 simp [p8,Xb,Na,QV,UJ,O4,QR,QQ,JT,Dh,Ed,Ab,enc,Dy,J6,Lr,ownIn.ownInL,ownIn,A3,AP,AB]
 obtain ⟨t0,t1,m0,m1⟩:=hk
 by_cases h0:m.g.op<=CX m.ti s.cu
 ·simp [NZ,h0]
  omega
 ·have key:YO m s=true↔(s.rs=true/\s.n0=false/\s.n1=false/\s.n2=false/\s.n3=false/\s.n4=false/\s.n5=false/\s.n6=false/\WP s.c0 s.c1 s.c2=false/\WP s.w0 s.w1 s.w2=false/\¬ m.ca=11):=by unfold YO XV;simp [and_assoc]
  by_cases h1:YO m s=true
  ·obtain ⟨a1,a2,a3,a4,a5,a6,a7,a8,a9,a10,a11⟩:=key.1 h1
   simp [NZ,HJ,h0,h1,a1,a2,a3,a4,a5,a6,a7,a8,a9,a10,a11]
   omega
  ·simp [NZ,h0,h1]
   refine ⟨by omega,fun _ b1 b2 b3 b4 b5 b6 b7 b8 b9 b10 b11=>absurd (key.2 ⟨b1,b2,b3,b4,b5,b6,b7,b8,b9,b10,b11⟩) h1⟩
def qY:SpecF mL [.own 0 0,.ptr Qm]:=⟨fun (x,_) _=>mJ x,fun _ _=>.tup [],fun (x,_) _=>Xb (G4 x)⟩
set_option maxRecDepth 100000 in
theorem wK:FnSpecF Tryz.prog 41 _ _ qY:=by
 refine FnSpecF.of N3 mixed (U:=0) (I:=fun _ _=>[]) Tryz.func41 rfl (by kernel_rfl) rfl (by decide +kernel) ?_
 rintro ⟨x,⟨⟩⟩ ⟨⟨⟩,s,⟨⟩⟩ hp
 obtain ⟨m,rfl⟩:∃ m,x=bD m:=⟨_,mcC_iff.1 hp⟩
 clear hp
 unfold A2
 conv=>arg 2;reduce
 simp [qY,Xb,Na,QV,UJ,O4,QR,QQ,JT,Dh,Ed,Ab,enc,Dy,J6,Lr,ownIn.ownInL,ownIn,A3,AP,AB]
end
end Abs
end Go.Proofs.YtccgngldoinokaaGreat

namespace Go.Proofs.YtccgngldoinokaaGreat
namespace Abs
open Go Go.RowKit
section
variable {P:Program} {C:Cx} {w:World}
end
end Abs
end Go.Proofs.YtccgngldoinokaaGreat

namespace Go.Proofs.YtccgngldoinokaaGreat
namespace Abs
open Go Go.RowKit
def liA:AV->AV
 | .si k n=>.li k n
 | .sb b=>.lb b
 | a=>a
def pX:List Bool->List AV->List AV
 | [],l=>l
 | b::ps,l=>(match l with|[]=>[]|a::l=>(match b with|true=>liA a|false=>a)::pX ps l)
def yZ (qs:List Bool):A0->A0
 | .cells t l::h=>.cells t (pX qs l)::h
 | h=>h
section
variable {P:Program} {S:Sums} {C:Cx} {w:World}
theorem pZ {a:AV} {v:Value} (h:Rel C w a v):Rel C w (liA a) v:=by
 cases a<;>first|exact h|(cases h;exact Rel.lb _)|(cases h;exact Rel.li _ _)
theorem Lf:∀ {ps:List Bool} {l:List AV} {vs:List Value},RelL C w l vs->RelL C w (pX ps l) vs
 | [],_,_,h=>h
 | b::ps,[],_,h=>h
 | b::ps,a::l,_,h=>by
   cases h with
   | cons _ _ _ _ h1 h2=>cases b with
     | true=>exact RelL.cons _ _ _ _ (pZ h1) (Lf h2)
     | false=>exact RelL.cons _ _ _ _ h1 (Lf h2)
theorem vZ {a:AV} (h:EW a):EW (liA a):=by
 cases a<;>first|exact h|trivial
theorem Yb:∀ {ps:List Bool} {l:List AV},(∀ t,EW (A4 l t))->∀ t,EW (A4 (pX ps l) t)
 | [],_,h,t=>h t
 | _::_,[],h,t=>h t
 | b::ps,a::l,h,0=>by
   cases b with
   | true=>exact vZ (h 0)
   | false=>exact h 0
 | b::ps,a::l,h,t+1=>Yb (ps:=ps) (l:=l) (fun t=>h (t+1)) t
theorem U_:∀ {ps:List Bool} {l:List AV},(pX ps l).length=l.length
 | [],_=>rfl
 | _::_,[]=>rfl
 | b::ps,a::l=>by simp [pX,U_ (ps:=ps) (l:=l)]
theorem DW {qs:List Bool} {h:A0}:(yZ qs h).length=h.length:=by
 unfold yZ
 split<;>rfl
theorem pY {qs:List Bool} {h:A0} {i:Nat} {p:Pl} (hr:BRel C w p (A3 h i)):BRel C w p (A3 (yZ qs h) i):=by
 unfold yZ
 split
 ·rename_i t l h
  cases i with
  | zero =>
    cases p with
    | nil=>exact hr.elim
    | «at» x c n =>
      obtain ⟨vs,h1,h2⟩:=hr
      exact ⟨vs,Lf h1,h2⟩
  | succ i=>exact hr
 ·exact hr
theorem FnSpec.ofLi (ps:List Bool) (hS:SumsOK P S) (hm:P.follows .mixedOrders=true) {shs:List Sh} {U:Nat} {I:Ad shs->Cz} {f:FuncId} {fn:Func} {c:Code} (hf:P.funcs[f]? = some fn) (hb:fn.body=some c) (hok:Cu c=true) {sp:Spec shs}
  (AQ:S.lo=0) (hany:La shs=true) (hn:shs.length<=fn.ntmps) (h:∀ x,sp.pre x->A2 P S U (I x) fn (pX ps (Ab shs x)) [] (sp.res x) []):FnSpec P f shs sp :=
 fun x hx=>Fn.weaken (Fn.of hS hm hf hb hok AQ (Yb (HU hany)) (by rw [U_,G7];exact hn) (h x hx)) fun _ _ _ ha=>Lf ha
theorem FnSpecF.ofLi (ps qs:List Bool) {one:List (Nat × Kz)} {two:List (Nat × Ey)} {lo:Nat} {eqs:List (Nat × List (Option IntKind))} {its:List (Nat × IN)} {imm:List Nat} (hS:SumsOK P ⟨one,two,lo,eqs,its,imm⟩) (hm:P.follows .mixedOrders=true) {obs:List OB} {shs:List Sh} {U:Nat} {I:L0 obs->Ad shs->Cz} {f:FuncId} {fn:Func} {c:Code} (hf:P.funcs[f]? = some fn) (hb:fn.body=some c) (hok:Cu c=true) {sp:SpecF obs shs}
  (hany:La shs=true) (hn:shs.length<=fn.ntmps) (h:∀ o x,sp.pre o x->A2 P ⟨one,two,obs.length,eqs,its,imm⟩ U (I o x) fn (pX ps (Ab shs x)) (yZ qs (Dh obs o)) (sp.res o x) (sp.after o x)):FnSpecF P f obs shs sp :=
 fun o x hx=>Fn.weakenH (Fn.weaken (Fn.of (hS.setLo obs.length) hm hf hb hok (by rw [DW,Pw]) (Yb (HU hany)) (by rw [U_,G7];exact hn) (h o x hx)) fun _ _ _ ha=>Lf ha) DW fun _ _ _ _ hr=>pY hr
end
end Abs
end Go.Proofs.YtccgngldoinokaaGreat

namespace Go.Proofs.YtccgngldoinokaaGreat
namespace Abs
open Go Go.RowKit
noncomputable section
attribute [local irreducible] A2
@[reducible]def plB:List OB:=[.cells 112 sP]
def NH (p:Pla):A0:=[.cells 112 (Ha p)]
def Hv:Spec [.ptr [.bool]]:=⟨fun _=>True,fun (((b:Bool),_),_)=>.sb b⟩
set_option maxRecDepth 100000 in
theorem uE:FnSpec Tryz.prog 24 _ Hv:=by
 refine FnSpec.of SZ0_ok mixed (U:=0) (I:=fun _=>[]) Tryz.func24 rfl (by kernel_rfl) rfl rfl (by decide +kernel) ?_
 rintro ⟨⟨(b:Bool),⟨⟩⟩,⟨⟩⟩ -
 unfold A2
 conv=>arg 2;reduce
 simp [Hv]
noncomputable def SZp0:Sums:=⟨(28,A_ _ Va)::(24,A_ _ Hv)::SZ0.one,SZ0.two,SZ0.lo,SZ0.eqs,SZ0.its,SZ0.imm⟩
theorem SZp0_ok:SumsOK Tryz.prog SZp0:=((SZ0_ok.cons Tryz.func24 (by kernel_rfl) (by kernel_rfl) uE).cons Tryz.func28 (by kernel_rfl) (by kernel_rfl) YJ)
def oR:Spec [.ptr zi]:=⟨fun _=>True,fun (x,_)=>.sb (zh x)⟩
set_option maxRecDepth 100000 in
set_option maxHeartbeats 2000000 in
theorem uO:FnSpec Tryz.prog 9 _ oR:=by
 refine FnSpec.of SZp0_ok mixed (U:=0) (I:=fun _=>[]) Tryz.func9 rfl (by kernel_rfl) rfl rfl (by decide +kernel) ?_
 rintro ⟨⟨(x0:Bool),(x1:Bool),(x2:Bool),(x3:Bool),(x4:Bool),(x5:Bool),(x6:Bool),(x7:Bool),(x8:Bool),(x9:Bool),(x10:Bool),(x11:Bool),(x12:Bool),(x13:Bool),(x14:Bool),(x15:Bool),(x16:Bool),(x17:Bool),(x18:Bool),(x19:Bool),(x20:Bool),(x21:Bool),(x22:Bool),(x23:Bool),(x24:Bool),(x25:Bool),(x26:Bool),(x27:Bool),(x28:Bool),(x29:Bool),(x30:Bool),(x31:Bool),(x32:Bool),(x33:Bool),(x34:Bool),(x35:Bool),(x36:Bool),(x37:Bool),(x38:Bool),(x39:Bool),(x40:Bool),(x41:Bool),(x42:Bool),(x43:Bool),(x44:Bool),(x45:Bool),(x46:Bool),(x47:Bool),(x48:Bool),(x49:Bool),(x50:Bool),(x51:Bool),(x52:Bool),(x53:Bool),(x54:Bool),(x55:Bool),(x56:Bool),(x57:Bool),(x58:Bool),(x59:Bool),(x60:Bool),(x61:Bool),(x62:Bool),(x63:Bool),(x64:Bool),(x65:Int),(x66:Int),(x67:Bool),(x68:Bool),(x69:Bool),(x70:Bool),(x71:Bool),(x72:Bool),(x73:Bool),(x74:Bool),(x75:Bool),⟨⟩⟩,⟨⟩⟩ -
 unfold A2
 conv=>arg 2;reduce
 simp [oR,Hv,zg,and_assoc]
 cases x0<;>cases x1<;>cases x73<;>cases x74<;>cases x75<;>simp
structure PlOK (p:Pla):Prop where
 l0:0<=p.lg
 l1:p.lg<=4
 i0:0<=p.ix
 i1:p.ix<=p.lg
end
end Abs
end Go.Proofs.YtccgngldoinokaaGreat

namespace Go.Proofs.YtccgngldoinokaaGreat
namespace Abs
open Go Go.RowKit
def ltA:AV->AV
 | .si k n=>.li k n
 | .slc (.sym n) sz el=>.slc (.lit n) sz el
 | a=>a
def yX:List Bool->List AV->List AV
 | [],l=>l
 | b::ps,l=>(match l with|[]=>[]|a::l=>(match b with|true=>ltA a|false=>a)::yX ps l)
section
variable {P:Program} {S:Sums} {C:Cx} {w:World}
theorem pT {a:AV} {v:Value} (h:Rel C w a v):Rel C w (ltA a) v:=by
 cases a with
 | slc n sz el =>
   cases n with
   | lit n=>exact h
   | sym n =>
     cases h with
     | slc _ _ _ A cap vs hcap hA hr hl hn=>exact Rel.slc (.lit n) sz el A cap vs hcap hA hr hl hn
 | si k n=>cases h;exact Rel.li _ _
 | _=>exact h
theorem U8:∀ {ps:List Bool} {l:List AV} {vs:List Value},RelL C w l vs->RelL C w (yX ps l) vs
 | [],_,_,h=>h
 | b::ps,[],_,h=>h
 | b::ps,a::l,_,h=>by
   cases h with
   | cons _ _ _ _ h1 h2=>cases b with
     | true=>exact RelL.cons _ _ _ _ (pT h1) (U8 h2)
     | false=>exact RelL.cons _ _ _ _ h1 (U8 h2)
theorem vV {a:AV} (h:EW a):EW (ltA a):=by
 cases a with
 | slc n sz el=>cases n<;>trivial
 | gd k b=>exact h
 | _=>trivial
theorem ji:∀ {ps:List Bool} {l:List AV},(∀ t,EW (A4 l t))->∀ t,EW (A4 (yX ps l) t)
 | [],_,h,t=>h t
 | _::_,[],h,t=>h t
 | b::ps,a::l,h,0=>by
   cases b with
   | true=>exact vV (h 0)
   | false=>exact h 0
 | b::ps,a::l,h,t+1=>ji (ps:=ps) (l:=l) (fun t=>h (t+1)) t
theorem bZ:∀ {ps:List Bool} {l:List AV},(yX ps l).length=l.length
 | [],_=>rfl
 | _::_,[]=>rfl
 | b::ps,a::l=>by simp [yX,bZ (ps:=ps) (l:=l)]
theorem FnSpecN.ofLt (ps:List Bool) (hS:SumsOK P S) (hm:P.follows .mixedOrders=true) {shs:List Sh} {U:Nat} {I:Ad shs->Cz} {f:FuncId} {fn:Func} {c:Code} (hf:P.funcs[f]? = some fn) (hb:fn.body=some c) (hok:Cu c=true) {sp:SpecN shs}
  (AQ:S.lo=0) (hany:La shs=true) (hn:shs.length<=fn.ntmps) (h:∀ x,sp.pre x->A2 P S U (I x) fn (yX ps (Ab shs x)) [] (sp.res x) (sp.new x)):FnSpecN P f shs sp :=
 fun x hx=>Fn.weaken (Fn.of hS hm hf hb hok AQ (ji (HU hany)) (by rw [bZ,G7];exact hn) (h x hx)) fun _ _ _ ha=>U8 ha
end
end Abs
end Go.Proofs.YtccgngldoinokaaGreat
