/- A part of the proof: no statement of its own. -/
import Derived.Test.YtccgngldoinokaaGreatQGbf906698
set_option linter.unusedSimpArgs false
set_option linter.unusedVariables false
namespace Go.Proofs.YtccgngldoinokaaGreat
namespace Abs
open Go Go.RowKit
noncomputable section
attribute [local irreducible] A2
noncomputable def SRf:Sums:=⟨SRe.one,SRe.two,SRe.lo,SRe.eqs,SRe.its,SRe.imm⟩
theorem SRf_ok:SumsOK Tryz.prog SRf:=xe
@[irreducible]def fe (c:Cel) (s:Sta) (i a:Int):Sta:=⟨aV c s (GQ c s i a (mH c s i)),aV c s (GQ c s i a (mG c s i)),aV c s (GQ c s i a (mF c s i a)),aV c s (GQ c s i a (Vh s i)),aV c s (GQ c s i a (Vi c s))⟩
@[irreducible]def MM (c:Cel) (s:Sta) (i a:Int):Int:=aE c s (J9 c s i a)
def stpT:Spec [EN,JA,vm]:=⟨fun (c,_)=>Ai (A6 c),fun (c,s,((i:Int),(a:Int),_),_) =>
 .tup [.agg [.si .i64 (fe (A6 c) (AC s) i a).q,.si .i64 (fe (A6 c) (AC s) i a).rx,.si .i64 (fe (A6 c) (AC s) i a).tp,.si .i64 (fe (A6 c) (AC s) i a).th,.si .i64 (fe (A6 c) (AC s) i a).ag],
  .si .i64 (MM (A6 c) (AC s) i a)]⟩
theorem Zg:FnSpec Tryz.prog 16 _ stpT:=fun x hx=>by
 have h:=gv x hx
 have e:stpS.res x=stpT.res x:=by
  obtain ⟨c,s,⟨(i:Int),(a:Int),⟨⟩⟩,⟨⟩⟩:=x
  show AV.tup _=AV.tup _
  unfold fe MM
  simp
 rw [<- e];exact h
theorem Zi {c:Cel} {s:Sta} {i a:Int} (h:MJ c s=0):(MM c s i a=0↔inB i a=true/\sQ c s i=false)/\(MM c s i a=0\/MM c s i a=3\/MM c s i a=4):=by
 unfold MM
 rw [N1 h]
 unfold J9
 cases inB i a<;>cases sQ c s i<;>simp
theorem sD {c:Cel} {s:Sta} {i a:Int} (h:MJ c s=0) (h2:MM c s i a=0):fe c s i a=⟨mH c s i,mG c s i,mF c s i a,Vh s i,Vi c s⟩:=by
 have h3:J9 c s i a=0:=by unfold MM at h2;rwa [N1 h] at h2
 unfold fe
 simp only [QF h,V5 h3]
theorem tj {c:Cel} {s:Sta} {i a:Int} (h:MJ c s=0) (h2:MM c s i a=0):StOK c (fe c s i a) /\ -1048576<=i/\i<=1048576/\0<=a/\a<=400000:=by
 have h3:=((Zi h).1.1 h2)
 have h4:=inB_iff.1 h3.1
 have h5:=h3.2
 unfold sQ at h5
 simp at h5
 obtain ⟨hc,hs⟩:=csE_iff.1 h
 have hk:=celB_iff.1 hc
 rw [sD h h2]
 refine ⟨?_,h4.1.1,h4.1.2,h4.2.1,h4.2.2⟩
 have vs:=MR hk.stress s.tp
 have:=hs.h0
 have:=hs.a0
 have hH:Vh s i=s.th+max i (-i):=by unfold Vh;rfl
 have hA:Vi c s=s.ag+G_ c.stress s.tp:=by unfold Vi;rfl
 have hR : -8388608<=mG c s i/\mG c s i<=8388608:=by unfold mG TJ;exact M5 (by decide)
 have hT:0<=mF c s i a/\mF c s i a<=400000:=by unfold mF;exact M5 (by decide)
 have hQ:0<=mH c s i/\mH c s i<=JI c (Gl c (Vh s i) (Vi c s)):=by
  unfold mH
  refine M5 ?_
  have:=(@roomV_in c (Gl c (Vh s i) (Vi c s))).1
  omega
 constructor<;>simp only [Sta.q_mk,Sta.rx_mk,Sta.tp_mk,Sta.th_mk,Sta.ag_mk]<;>omega
noncomputable def SRg:Sums:=⟨(16,A_ _ stpT)::SRf.one,SRf.two,SRf.lo,SRf.eqs,SRf.its,SRf.imm⟩
theorem SRg_ok:SumsOK Tryz.prog SRg:=(SRf_ok.cons Tryz.func16 (by kernel_rfl) (by kernel_rfl) Zg)
end
end Abs
end Go.Proofs.YtccgngldoinokaaGreat

namespace Go.Proofs.YtccgngldoinokaaGreat
namespace Abs
open Go Go.RowKit
noncomputable section
theorem UI {e:Int} (h : -128<=e/\e<=127) : -500<=Hf e 500/\Hf e 500<=500:=by
 unfold Hf
 rcases Int.le_total 0 (e*500) with h0|h0
 ·rw [Int.tdiv_eq_ediv_of_nonneg h0];omega
 ·rw [<- Int.neg_neg (e*500),Int.neg_tdiv,Int.tdiv_eq_ediv_of_nonneg (by omega)];omega
theorem Pt {e:Int} (h : -128<=e/\e<=127) : -1000<=Hf e 1000/\Hf e 1000<=1000:=by
 unfold Hf
 rcases Int.le_total 0 (e*1000) with h0|h0
 ·rw [Int.tdiv_eq_ediv_of_nonneg h0];omega
 ·rw [<- Int.neg_neg (e*1000),Int.neg_tdiv,Int.tdiv_eq_ediv_of_nonneg (by omega)];omega
theorem Ps {e:Int} (h : -128<=e/\e<=127) : -2500<=Hf e 2500/\Hf e 2500<=2500:=by
 unfold Hf
 rcases Int.le_total 0 (e*2500) with h0|h0
 ·rw [Int.tdiv_eq_ediv_of_nonneg h0];omega
 ·rw [<- Int.neg_neg (e*2500),Int.neg_tdiv,Int.tdiv_eq_ediv_of_nonneg (by omega)];omega
theorem IE {e:Int} (h : -128<=e/\e<=127) : -5000<=Hf e 5000/\Hf e 5000<=5000:=by
 unfold Hf
 rcases Int.le_total 0 (e*5000) with h0|h0
 ·rw [Int.tdiv_eq_ediv_of_nonneg h0];omega
 ·rw [<- Int.neg_neg (e*5000),Int.neg_tdiv,Int.tdiv_eq_ediv_of_nonneg (by omega)];omega
theorem ub (a b:Int):Nl a b=max a b:=by unfold Nl;rfl
theorem uw (a b:Int):fh a b=min a b:=by unfold fh;rfl
theorem zD {v0 v1 v2 t0 t1 t2 i:Int} {u:Pul} (a0 : -2147483648<=v0/\v0<=2147483648) (a1 : -2147483648<=v1/\v1<=2147483648) (a2 : -2147483648<=v2/\v2<=2147483648) (b0:0<=t0/\t0<=400000) (b1:0<=t1/\t1<=400000) (b2:0<=t2/\t2<=400000) (hi : -1048576<=i/\i<=1048576) (hu:Uc u):TrOK (EQ v0 v1 v2 t0 t1 t2 i u)/\ErOK (EQ v0 v1 v2 t0 t1 t2 i u):=by
 unfold Uc at hu
 obtain ⟨p00,q00,p01,q01,p02,q02,p03,q03,p04,q04,p10,q10,p11,q11,p12,q12,p13,q13,p14,q14,p20,q20,p21,q21,p22,q22,p23,q23,p24,q24,m0,n0,m1,n1,m2,n2,m3,n3,m4,n4⟩:=hu
 have r00:=IE (e:=u.e00) ⟨p00,q00⟩
 have r01:=IE (e:=u.e01) ⟨p01,q01⟩
 have r02:=UI (e:=u.e02) ⟨p02,q02⟩
 have r03:=Pt (e:=u.e03) ⟨p03,q03⟩
 have r04:=Ps (e:=u.e04) ⟨p04,q04⟩
 have r10:=IE (e:=u.e10) ⟨p10,q10⟩
 have r11:=IE (e:=u.e11) ⟨p11,q11⟩
 have r12:=UI (e:=u.e12) ⟨p12,q12⟩
 have r13:=Pt (e:=u.e13) ⟨p13,q13⟩
 have r14:=Ps (e:=u.e14) ⟨p14,q14⟩
 have r20:=IE (e:=u.e20) ⟨p20,q20⟩
 have r21:=IE (e:=u.e21) ⟨p21,q21⟩
 have r22:=UI (e:=u.e22) ⟨p22,q22⟩
 have r23:=Pt (e:=u.e23) ⟨p23,q23⟩
 have r24:=Ps (e:=u.e24) ⟨p24,q24⟩
 refine ⟨⟨?_,?_,?_,?_,?_,?_,?_,?_,?_,?_,?_,?_,?_,?_,?_,?_,?_,?_,?_,?_,?_,?_,?_,?_,?_,?_,?_⟩,⟨?_,?_,?_,?_,?_,?_,?_,?_,?_,?_,?_,?_,?_,?_,?_⟩⟩
 all_goals simp only [gX,gj,gV,gi,Xq,gg,gU,ge,gT,gc,Za,ZZ,ZY,ZX,ZW,ZV,ZU,ZT,ZS,ZR,ZQ,ZP,ZO,ZN,ZM,gZ,gY,ub,uw]
 all_goals omega
theorem uK {m:Mc} {p:Pla} {t:Tru} (h:TrOK t):PnOK (AF m (A1 p t)):=by
 intro i q
 obtain ⟨x0,l0,x1,l1,x2,l2,x3,l3,x4,l4,e00,e01,e02,e03,e04,e10,e11,e12,e13,e14,e20,e21,e22,e23,e24,lk,pk⟩:=h
 unfold CZ
 split
 all_goals first
  | omega
  | (simp only [aO,OO,aN,ON,aM,OM,aL,OL,aK,OJ,aJ,OI,aI,OH,aH,OG,aG,OF,aF,OE,aD,OD,aC,OC,aB,OA,aA,O_,a_,O9];repeat' split)<;>omega
theorem AA6 {m:Mc} {p:Pla} {t:Tru} {n:Int} (hc:CtOK m n) (hn:n<=1000) (h:TrOK t):MsOK m (A1 p t):=by
 have t1:=hc.t1
 have m1:=hc.m1
 have g:∀ k,k<7->0<=Ns m k/\Ns m k<=1000000:=fun k hk=>by have:=hc.h k hk;omega
 have a0:=hc.a0
 have a1:=hc.a1
 have a2:=hc.a2
 exact ⟨⟨hc.t0,by omega,hc.m0,by omega⟩,by rw [Zo,Zn];have a:=h.lk;have b:=h.pk;omega,uK h,⟨hc.p0,hc.p1⟩,g 0 (by decide),g 1 (by decide),g 2 (by decide),g 3 (by decide),g 4 (by decide),g 5 (by decide),g 6 (by decide),by omega,by omega,by omega⟩
structure ClOK (c:Cel) (s:Sta) (n:Int):Prop where
 ok:MJ c s=0
 th:0<=s.th/\s.th<=163840*n
 ag:0<=s.ag/\s.ag<=1048576*n
theorem cY {c:Cel} {s:Sta} {n i:Int} (h:ClOK c s n) (hn:0<=n/\n<=100) (hi : -163840<=i/\i<=163840):MM c s i 300000=0/\ClOK c (fe c s i 300000) (n+1):=by
 have hth:=h.th
 have hag:=h.ag
 obtain ⟨hc,hs⟩:=csE_iff.1 h.ok
 have hst:=MR (celB_iff.1 hc).stress s.tp
 have eh:Vh s i=s.th+max i (-i):=by unfold Vh;rfl
 have ea:Vi c s=s.ag+G_ c.stress s.tp:=by unfold Vi;rfl
 have ho:sQ c s i=false:=by
  unfold sQ
  rw [eh,ea]
  simp
  omega
 have e0:MM c s i 300000=0:=(Zi h.ok).1.2 ⟨inB_iff.2 ⟨by omega,by omega⟩,ho⟩
 refine ⟨e0,?_⟩
 have hk:=tj h.ok e0
 have e1:=sD h.ok e0
 refine ⟨lA hc hk.1,?_,?_⟩
 ·rw [e1,Sta.th_mk,eh];omega
 ·rw [e1,Sta.ag_mk,ea];omega
end
end Abs
end Go.Proofs.YtccgngldoinokaaGreat

namespace Go.Proofs.YtccgngldoinokaaGreat
namespace Abs
open Go Go.RowKit
noncomputable section
attribute [local irreducible] A2
@[irreducible]def FN (c:Cel) (d:Nat->Int):Cel:=⟨c.cap+d 0,c.ocv,c.shift+d 1,c.cold,c.extra+d 2,c.pair+d 3,c.keep,c.leak+d 4,c.hcap+d 5,c.cool+d 6,c.stress,c.cyc,c.agel,c.grow⟩
@[simp]theorem U3 (c:Cel) (d:Nat->Int):(FN c d).cap=c.cap+d 0:=by unfold FN Cel.cap;rfl
@[simp]theorem S_ (c:Cel) (d:Nat->Int):(FN c d).shift=c.shift+d 1:=by unfold FN Cel.shift;rfl
@[simp]theorem SA (c:Cel) (d:Nat->Int):(FN c d).extra=c.extra+d 2:=by unfold FN Cel.extra;rfl
@[simp]theorem W9 (c:Cel) (d:Nat->Int):(FN c d).pair=c.pair+d 3:=by unfold FN Cel.pair;rfl
@[simp]theorem W_ (c:Cel) (d:Nat->Int):(FN c d).leak=c.leak+d 4:=by unfold FN Cel.leak;rfl
@[simp]theorem WB (c:Cel) (d:Nat->Int):(FN c d).hcap=c.hcap+d 5:=by unfold FN Cel.hcap;rfl
@[simp]theorem WD (c:Cel) (d:Nat->Int):(FN c d).cool=c.cool+d 6:=by unfold FN Cel.cool;rfl
@[simp]theorem b_ (c:Cel) (d:Nat->Int):(FN c d).ocv=c.ocv:=by unfold FN Cel.ocv;rfl
@[simp]theorem WE (c:Cel) (d:Nat->Int):(FN c d).cold=c.cold:=by unfold FN Cel.cold;rfl
@[simp]theorem PI (c:Cel) (d:Nat->Int):(FN c d).stress=c.stress:=by unfold FN Cel.stress;rfl
@[simp]theorem WA (c:Cel) (d:Nat->Int):(FN c d).keep=c.keep:=by unfold FN Cel.keep;rfl
@[simp]theorem bA (c:Cel) (d:Nat->Int):(FN c d).cyc=c.cyc:=by unfold FN Cel.cyc;rfl
@[simp]theorem WF (c:Cel) (d:Nat->Int):(FN c d).agel=c.agel:=by unfold FN Cel.agel;rfl
@[simp]theorem WC (c:Cel) (d:Nat->Int):(FN c d).grow=c.grow:=by unfold FN Cel.grow;rfl
@[irreducible]def dp (d:Nat->Int):Prop:=∀ k,k<7 -> -1099511627776<=d k/\d k<=1099511627776
def p_:SpecF [.cells 40 Db] [.own 0 0] :=
 ⟨fun _ _=>True,fun _ _=>.agg [.own 0 0,.own 0 3,.own 0 6,.own 0 7,.own 0 9,.own 0 10,.own 0 11],fun (c,_) _=>Dh [.cells 40 Db] (c,())⟩
set_option maxRecDepth 100000 in
theorem uW:FnSpecF Tryz.prog 49 _ _ p_:=by
 refine FnSpecF.of SRg_ok mixed (U:=0) (I:=fun _ _=>[]) Tryz.func49 rfl (by kernel_rfl) rfl (by decide +kernel) ?_
 rintro ⟨c,⟨⟩⟩ ⟨⟨⟩,⟨⟩⟩ hpre
 obtain ⟨c,rfl⟩:=E2 c
 unfold A2
 conv=>arg 2;reduce
 simp [p_,AB,A3,Dh,Ed,Pv,Ar,and_assoc]
noncomputable def SBa:Sums:=⟨SRg.one,(49,JR _ _ p_)::SRg.two,SRg.lo,SRg.eqs,SRg.its,SRg.imm⟩
theorem SBa_ok:SumsOK Tryz.prog SBa:=SRg_ok.addTwo Tryz.func49 (by kernel_rfl) (by kernel_rfl) (Hx uW)
noncomputable def SBb:Sums:=⟨SBa.one,SBa.two,SBa.lo,SBa.eqs,SBa.its,SBa.imm⟩
theorem yD:SumsOK Tryz.prog SBb:=SBa_ok
@[reducible]def mvA (c:Cel) (d:Nat->Int):AV:=.agg [.si .i64 (FN c d).cap,.slc (.sym c.ocv.nx) 1 (fun k=>[.si .i64 (c.ocv.x k)]),.slc (.sym c.ocv.ny) 1 (fun k=>[.si .i64 (c.ocv.y k)]),.si .i64 (FN c d).shift,
  .slc (.sym c.cold.nx) 1 (fun k=>[.si .i64 (c.cold.x k)]),.slc (.sym c.cold.ny) 1 (fun k=>[.si .i64 (c.cold.y k)]),.si .i64 (FN c d).extra,.si .i64 (FN c d).pair,.si .i64 c.keep,.si .i64 (FN c d).leak,.si .i64 (FN c d).hcap,.si .i64 (FN c d).cool,
  .slc (.sym c.stress.nx) 1 (fun k=>[.si .i64 (c.stress.x k)]),.slc (.sym c.stress.ny) 1 (fun k=>[.si .i64 (c.stress.y k)]),.si .i64 c.cyc,.si .i64 c.agel,.si .i64 c.grow]
noncomputable def SBc:Sums:=⟨SBb.one,SBb.two,SBb.lo,SBb.eqs,SBb.its,SBb.imm⟩
theorem yC:SumsOK Tryz.prog SBc:=yD
noncomputable def SBd:Sums:=⟨SBc.one,SBc.two,SBc.lo,SBc.eqs,SBc.its,SBc.imm⟩
theorem yB:SumsOK Tryz.prog SBd:=yC
@[irreducible]def AQ (n:Nat) (v:Nat->Int):Int:=if n=2 then min (v 0) (v 1) else min (min (v 0) (v 1)) (min (v 2) (v 3))
@[irreducible]def mN (n:Nat) (v:Nat->Int):Int:=if n=2 then max (v 0) (v 1) else max (max (v 0) (v 1)) (max (v 2) (v 3))
theorem ee (v:Nat->Int):AQ 2 v=min (v 0) (v 1):=by unfold AQ;rw [if_pos rfl]
noncomputable def SBe0:Sums:=⟨SBd.one,SBd.two,SBd.lo,SBd.eqs,SBd.its,SBd.imm⟩
theorem SBe0_ok:SumsOK Tryz.prog SBe0:=yB
end
end Abs
end Go.Proofs.YtccgngldoinokaaGreat

namespace Go.Proofs.YtccgngldoinokaaGreat
namespace Abs
open Go Go.RowKit
noncomputable section
attribute [local irreducible] A2
theorem lP (c:Cel) (d:Nat->Int):A6 (c.cap+d 0,(c.ocv.nx,fun k=>(c.ocv.x k,())),(c.ocv.ny,fun k=>(c.ocv.y k,())),c.shift+d 1,(c.cold.nx,fun k=>(c.cold.x k,())),(c.cold.ny,fun k=>(c.cold.y k,())),
  c.extra+d 2,c.pair+d 3,c.keep,c.leak+d 4,c.hcap+d 5,c.cool+d 6,(c.stress.nx,fun k=>(c.stress.x k,())),(c.stress.ny,fun k=>(c.stress.y k,())),c.cyc,c.agel,c.grow,())=FN c d:=by
 have:=XN (FN c d)
 simpa only [U3,S_,SA,W9,W_,WB,WD,b_,WE,PI,WA,bA,WF,WC] using this
def pB:Spec [.ptr Db]:=⟨fun _=>True,fun _=>.top⟩
set_option maxRecDepth 100000 in
theorem pA:FnSpec Tryz.prog 49 _ pB:=by
 refine FnSpec.of SRg_ok mixed (U:=0) (I:=fun _=>[]) Tryz.func49 rfl (by kernel_rfl) rfl rfl (by decide +kernel) ?_
 rintro ⟨c,⟨⟩⟩ -
 obtain ⟨c,rfl⟩:=E2 c
 unfold A2
 conv=>arg 2;reduce
 simp [pB]
noncomputable def SBf0:Sums:=⟨(49,A_ _ pB)::SBe0.one,SBe0.two,SBe0.lo,SBe0.eqs,SBe0.its,SBe0.imm⟩
theorem SBf0_ok:SumsOK Tryz.prog SBf0:=(SBe0_ok.cons Tryz.func49 (by kernel_rfl) (by kernel_rfl) pA)
noncomputable def SBf:Sums:=⟨SBf0.one,SRg.two,SBe0.lo,SBe0.eqs,SBe0.its,[40]⟩
theorem SBf_ok:SumsOK Tryz.prog SBf:=⟨SBf0_ok.one,SRg_ok.two,SBf0_ok.eqs,SBf0_ok.bodyOne,SRg_ok.bodyTwo,SBf0_ok.its⟩
theorem mvM {c:Cel} (h:Ai c) (d:Nat->Int):Ai (FN c d):=by
 unfold Ai at h ⊢
 simpa using h
end
end Abs
end Go.Proofs.YtccgngldoinokaaGreat

namespace Go.Proofs.YtccgngldoinokaaGreat
namespace Abs
open Go Go.RowKit
noncomputable section
attribute [local irreducible] A2
noncomputable def SBg0:Sums:=⟨SBf0.one,SBf0.two,SBf0.lo,SBf0.eqs,SBf0.its,SBf0.imm⟩
theorem SBg0_ok:SumsOK Tryz.prog SBg0:=SBf0_ok
end
end Abs
end Go.Proofs.YtccgngldoinokaaGreat

namespace Go.Proofs.YtccgngldoinokaaGreat
namespace Abs
open Go Go.RowKit
noncomputable section
attribute [local irreducible] A2
structure Wid where
 a0:Cel
 a1:Cel
 a2:Nat
 a3:Nat->Int
 a4:Nat->Int
 a5:Int
 a6:Int
 a7:Int
 a8:Int
 a9:Int
 a10:Int
@[irreducible]def Wid.lo (x:Wid):Cel:=x.a0
@[irreducible]def Wid.hi (x:Wid):Cel:=x.a1
@[irreducible]def Wid.n (x:Wid):Nat:=x.a2
@[irreducible]def Wid.bl (x:Wid):Nat->Int:=x.a3
@[irreducible]def Wid.fl (x:Wid):Int:=x.a7
noncomputable def SBh:Sums:=⟨SBg0.one,SBg0.two,SBg0.lo,SBg0.eqs,SBg0.its,[40]⟩
theorem yA:SumsOK Tryz.prog SBh:=SBg0_ok.setImm _
noncomputable def SBj:Sums:=⟨SBh.one,SBh.two,SBh.lo,SBh.eqs,SBh.its,SBh.imm⟩
theorem SBj_ok:SumsOK Tryz.prog SBj:=yA
noncomputable def SBk:Sums:=⟨SBj.one,SBj.two,SBj.lo,SBj.eqs,SBj.its,SRg.imm⟩
theorem y_:SumsOK Tryz.prog SBk:=SBj_ok.setImm _
end
end Abs
end Go.Proofs.YtccgngldoinokaaGreat

namespace Go.Proofs.YtccgngldoinokaaGreat
namespace Abs
open Go Go.RowKit
noncomputable section
attribute [local irreducible] A2
noncomputable def SBl:Sums:=⟨SBk.one,SBk.two,SBk.lo,SBk.eqs,SBk.its,SBk.imm⟩
theorem xz:SumsOK Tryz.prog SBl:=y_
noncomputable def SBm:Sums:=⟨SBl.one,SBl.two,SBl.lo,SBl.eqs,SBl.its,SBl.imm⟩
theorem xy:SumsOK Tryz.prog SBm:=xz
noncomputable def SBn:Sums:=⟨SBm.one,SBm.two,SBm.lo,SBm.eqs,SBm.its,SBm.imm⟩
theorem xx:SumsOK Tryz.prog SBn:=xy
end
end Abs
end Go.Proofs.YtccgngldoinokaaGreat

namespace Go.Proofs.YtccgngldoinokaaGreat
namespace Abs
open Go Go.RowKit
noncomputable section
attribute [local irreducible] A2
noncomputable def SBo:Sums:=⟨SBn.one,SBn.two,SBn.lo,SBn.eqs,SBn.its,SBn.imm⟩
theorem xw:SumsOK Tryz.prog SBo:=xx
end
end Abs
end Go.Proofs.YtccgngldoinokaaGreat

namespace Go.Proofs.YtccgngldoinokaaGreat
namespace Abs
open Go Go.RowKit
noncomputable section
attribute [local irreducible] A2
noncomputable def SBp:Sums:=⟨SBo.one,SBo.two,SBo.lo,SBo.eqs,SBo.its,SBo.imm⟩
theorem xv:SumsOK Tryz.prog SBp:=xw
noncomputable def SBq:Sums:=⟨SBp.one,SBp.two,SBp.lo,SBp.eqs,SBp.its,SBp.imm⟩
theorem SBq_ok:SumsOK Tryz.prog SBq:=xv
end
end Abs
end Go.Proofs.YtccgngldoinokaaGreat

namespace Go.Proofs.YtccgngldoinokaaGreat
namespace Abs
open Go Go.RowKit
noncomputable section
attribute [local irreducible] A2
def jy:Spec [.int .i64]:=⟨fun _=>True,fun ((x:Int),_)=>.sb (HH x)⟩
set_option maxRecDepth 100000 in
theorem jw:FnSpec Tryz.prog 50 _ jy:=by
 refine FnSpec.of SBq_ok mixed (U:=0) (I:=fun _=>[]) Tryz.func50 rfl (by kernel_rfl) rfl rfl (by decide +kernel) ?_
 rintro ⟨(x:Int),⟨⟩⟩ -
 unfold A2
 conv=>arg 2;reduce
 simp [jy,XR]
 rw [Bool.eq_iff_iff,isQ_iff]
 simp
def rK:Spec [.int .i64,.ptr [F7]]:=⟨fun ((i:Int),((n,_),_),_)=>0<=i/\i<(n:Int),fun ((i:Int),((_,el),_),_)=>.si .i64 (el (Iz i)).1⟩
set_option maxRecDepth 100000 in
theorem rJ:FnSpec Tryz.prog 52 _ rK:=by
 refine FnSpec.of SBq_ok mixed (U:=0) (I:=fun _=>[]) Tryz.func52 rfl (by kernel_rfl) rfl rfl (by decide +kernel) ?_
 rintro ⟨(i:Int),⟨⟨n,el⟩,⟨⟩⟩,⟨⟩⟩ ⟨(h1:0<=i),(h2:i<(n:Int))⟩
 obtain ⟨v,rfl⟩:∃ v:Nat->Int,el=fun k=>(v k,()):=⟨fun k=>(el k).1,rfl⟩
 unfold A2
 conv=>arg 2;reduce
 simp [rK]
 omega
noncomputable def SAa0:Sums:=⟨(52,A_ _ rK)::(50,A_ _ jy)::SBq.one,SBq.two,SBq.lo,SBq.eqs,SBq.its,SBq.imm⟩
theorem SAa0_ok:SumsOK Tryz.prog SAa0:=((SBq_ok.cons Tryz.func50 (by kernel_rfl) (by kernel_rfl) jw).cons Tryz.func52 (by kernel_rfl) (by kernel_rfl) rJ)
noncomputable def SAa:Sums:=⟨SAa0.one,SBa.two,SAa0.lo,SAa0.eqs,SAa0.its,SAa0.imm⟩
theorem yF:SumsOK Tryz.prog SAa:=⟨SAa0_ok.one,SBa_ok.two,SAa0_ok.eqs,SAa0_ok.bodyOne,SBa_ok.bodyTwo,SAa0_ok.its⟩
def pO:Spec [EN,.fn 52 [] [.ptr [F7]]]:=⟨fun (c,(_,((n,el),_),_),_)=>Dl (A6 c)=true/\n=7/\dp (fun k=>(el k).1),fun (c,(_,((_,el),_),_),_)=>mvA (A6 c) (fun k=>(el k).1)⟩
set_option maxRecDepth 100000 in
set_option maxHeartbeats 2000000 in
theorem pN:FnSpec Tryz.prog 51 _ pO:=by
 refine FnSpec.of yF mixed (U:=8) (I:=fun _=>[]) Tryz.func51 rfl (by kernel_rfl) rfl rfl (by decide +kernel) ?_
 rintro ⟨c,⟨y,⟨⟨n,el⟩,⟨⟩⟩,⟨⟩⟩,⟨⟩⟩ hpre
 obtain ⟨c,rfl⟩:=E2 c
 obtain ⟨lo,rfl⟩:∃ lo:Nat->Int,el=fun k=>(lo k,()):=⟨fun k=>(el k).1,rfl⟩
 have hpre:Dl c=true/\n=7/\dp lo:=by have:Dl (A6 (DQ c))=true/\n=7/\dp lo:=hpre;rwa [BM] at this
 obtain ⟨hc,rfl,ho⟩:=hpre
 unfold A2
 conv=>arg 2;reduce
 simp [pO,rK,p_,Pv,Ar,A3,AP,AB,and_assoc]
 have hk:=celB_iff.1 hc
 unfold dp at ho
 have a0:=ho 0 (by decide)
 have a1:=ho 1 (by decide)
 have a2:=ho 2 (by decide)
 have a3:=ho 3 (by decide)
 have a4:=ho 4 (by decide)
 have a5:=ho 5 (by decide)
 have a6:=ho 6 (by decide)
 have:=hk.cap0
 have:=hk.cap1
 have:=hk.sh0
 have:=hk.sh1
 have:=hk.ex0
 have:=hk.ex1
 have:=hk.pr0
 have:=hk.pr1
 have:=hk.lk0
 have:=hk.lk1
 have:=hk.hc0
 have:=hk.hc1
 have:=hk.co0
 have:=hk.co1
 omega
theorem M1 (c:Cel):enc EN (DQ c)=.agg [.si .i64 c.cap,.slc (.sym c.ocv.nx) 1 (fun k=>[.si .i64 (c.ocv.x k)]),.slc (.sym c.ocv.ny) 1 (fun k=>[.si .i64 (c.ocv.y k)]),.si .i64 c.shift,
  .slc (.sym c.cold.nx) 1 (fun k=>[.si .i64 (c.cold.x k)]),.slc (.sym c.cold.ny) 1 (fun k=>[.si .i64 (c.cold.y k)]),.si .i64 c.extra,.si .i64 c.pair,.si .i64 c.keep,.si .i64 c.leak,.si .i64 c.hcap,.si .i64 c.cool,
  .slc (.sym c.stress.nx) 1 (fun k=>[.si .i64 (c.stress.x k)]),.slc (.sym c.stress.ny) 1 (fun k=>[.si .i64 (c.stress.y k)]),.si .i64 c.cyc,.si .i64 c.agel,.si .i64 c.grow]:=rfl
def Ue (c:Cel):Prop:=Ai c/\c.ocv.nx<=1048576/\c.ocv.ny<=1048576/\c.cold.nx<=1048576/\c.cold.ny<=1048576/\c.stress.nx<=1048576/\c.stress.ny<=1048576
def pf:Spec [EN]:=⟨fun (c,_)=>Ue (A6 c),fun (c,_)=>enc EN (DQ (A6 c))⟩
set_option maxRecDepth 100000 in
set_option maxHeartbeats 2000000 in
theorem ve:FnSpec Tryz.prog 53 _ pf:=by
 refine FnSpec.of SBq_ok mixed (U:=4) (I:=fun _=>[]) Tryz.func53 rfl (by kernel_rfl) rfl rfl (by decide +kernel) ?_
 rintro ⟨c,⟨⟩⟩ hpre
 obtain ⟨c,rfl⟩:=E2 c
 have hpre:Ue c:=by have:Ue (A6 (DQ c)):=hpre;rwa [BM] at this
 obtain ⟨h0,h1,h2,h3,h4,h5,h6⟩:=hpre
 unfold A2
 conv=>arg 2;reduce
 simp [pf,M1,CV,Ar,A3,AP,AB,and_assoc]
 omega
theorem CelOK.few {c:Cel} (h:CelOK c):Ue c:=by
 have h1:=crB_iff.1 (scB_iff.1 h.ocv).1
 have h2:=crB_iff.1 (scB_iff.1 h.cold).1
 have h3:=crB_iff.1 (scB_iff.1 h.stress).1
 exact ⟨h.max,by omega,by omega,by omega,by omega,by omega,by omega⟩
@[irreducible]def celNil:Cel:=⟨0,⟨0,fun _=>0,0,fun _=>0⟩,0,⟨0,fun _=>0,0,fun _=>0⟩,0,0,0,0,0,0,⟨0,fun _=>0,0,fun _=>0⟩,0,0,0⟩
theorem lQ:celNil.cap=0/\celNil.ocv.nx=0/\celNil.ocv.ny=0/\celNil.shift=0/\celNil.cold.nx=0/\celNil.cold.ny=0/\celNil.extra=0/\celNil.pair=0/\celNil.keep=0/\celNil.leak=0/\celNil.hcap=0/\celNil.cool=0/\celNil.stress.nx=0/\celNil.stress.ny=0/\celNil.cyc=0/\celNil.agel=0/\celNil.grow=0:=by
 unfold celNil Cel.cap Cel.ocv Cel.shift Cel.cold Cel.extra Cel.pair Cel.keep Cel.leak Cel.hcap Cel.cool Cel.stress Cel.cyc Cel.agel Cel.grow
 simp
@[irreducible]def Sz (c:Cel) (n:Nat) (v:Nat->Int):Int:=if Dl c=true/\n=7 then (if fV (fun k=>HH (v k)) 7=true then (if Dl (FN c v)=true then 0 else 3) else 2) else 2
@[irreducible]def Mz (c:Cel) (n:Nat) (v:Nat->Int):Cel:=if Sz c n v=0 then FN c v else celNil
theorem xM {c:Cel} {n:Nat} {v:Nat->Int} (h:Dl c=true->n=7->False):Sz c n v=2:=by unfold Sz;rw [if_neg (fun q=>h q.1 q.2)]
theorem AJ9 {c:Cel} {n:Nat} {v:Nat->Int} {k:Nat} (hk:k<n) (h:HH (v k)=false):Sz c n v=2:=by
 unfold Sz
 split
 ·rename_i q
  obtain ⟨q1,rfl⟩:=q
  rw [if_neg]
  intro ha
  have:=allN_iff.1 ha k hk
  rw [h] at this;cases this
 ·rfl
theorem AJ8 {c:Cel} {v:Nat->Int} (h:Dl c=true) (hq:∀ k,k<7->HH (v k)=true) (hm:Dl (FN c v)=false):Sz c 7 v=3:=by
 unfold Sz;rw [if_pos ⟨h,rfl⟩,if_pos (allN_iff.2 hq),if_neg (by rw [hm];decide)]
theorem tB {c:Cel} {v:Nat->Int} (h:Dl c=true) (hq:∀ k,k<7->HH (v k)=true) (hm:Dl (FN c v)=true):Sz c 7 v=0:=by
 unfold Sz;rw [if_pos ⟨h,rfl⟩,if_pos (allN_iff.2 hq),if_pos hm]
theorem tC {c:Cel} {n:Nat} {v:Nat->Int} (h:Sz c n v=0):Mz c n v=FN c v:=by unfold Mz;rw [if_pos h]
theorem AK0 {c:Cel} {n:Nat} {v:Nat->Int} (h:¬ Sz c n v=0):Mz c n v=celNil:=by unfold Mz;rw [if_neg h]
theorem uZ {C:Cel} (h:C=celNil):0=C.cap/\C.ocv.nx=0/\C.ocv.ny=0/\0=C.shift/\C.cold.nx=0/\C.cold.ny=0/\0=C.extra/\0=C.pair/\0=C.keep/\0=C.leak/\0=C.hcap/\0=C.cool/\C.stress.nx=0/\C.stress.ny=0/\0=C.cyc/\0=C.agel/\0=C.grow:=by
 obtain ⟨n1,n2,n3,n4,n5,n6,n7,n8,n9,n10,n11,n12,n13,n14,n15,n16,n17⟩:=lQ
 subst h
 exact ⟨n1.symm,n2,n3,n4.symm,n5,n6,n7.symm,n8.symm,n9.symm,n10.symm,n11.symm,n12.symm,n13,n14,n15.symm,n16.symm,n17.symm⟩
theorem ZC {c:Cel} {n:Nat} {v:Nat->Int} {e:Int} (h:Sz c n v=e) (he:¬ e=0):0=(Mz c n v).cap/\(Mz c n v).ocv.nx=0/\(Mz c n v).ocv.ny=0/\0=(Mz c n v).shift/\(Mz c n v).cold.nx=0/\(Mz c n v).cold.ny=0/\0=(Mz c n v).extra/\0=(Mz c n v).pair/\0=(Mz c n v).keep/\0=(Mz c n v).leak/\0=(Mz c n v).hcap/\0=(Mz c n v).cool/\(Mz c n v).stress.nx=0/\(Mz c n v).stress.ny=0/\0=(Mz c n v).cyc/\0=(Mz c n v).agel/\0=(Mz c n v).grow/\e=Sz c n v:=by
 obtain ⟨n1,n2,n3,n4,n5,n6,n7,n8,n9,n10,n11,n12,n13,n14,n15,n16,n17⟩:=uZ (AK0 (c:=c) (n:=n) (v:=v) (by rw [h];exact he))
 exact ⟨n1,n2,n3,n4,n5,n6,n7,n8,n9,n10,n11,n12,n13,n14,n15,n16,n17,h.symm⟩
noncomputable def SAb0:Sums:=⟨(53,A_ _ pf)::(51,A_ _ pO)::(50,A_ _ jy)::SBf.one,SBf.two,SBf.lo,SBf.eqs,SBf.its,SBf.imm⟩
theorem SAb0_ok:SumsOK Tryz.prog SAb0:=(((SBf_ok.cons Tryz.func50 (by kernel_rfl) (by kernel_rfl) jw).cons Tryz.func51 (by kernel_rfl) (by kernel_rfl) pN).cons Tryz.func53 (by kernel_rfl) (by kernel_rfl) ve)
noncomputable def SAb:Sums:=⟨SAb0.one,SAb0.two,SAb0.lo,SAb0.eqs,SAb0.its,[40,36]⟩
theorem yE:SumsOK Tryz.prog SAb:=SAb0_ok.setImm _
def AJ5:Spec [EN,F7]:=⟨fun (c,x,_)=>Ai (A6 c)/\x.1<=maxLen,fun (c,(n,el),_)=>.tup [enc EN (DQ (Mz (A6 c) n (fun k=>(el k).1))),.si .i64 (Sz (A6 c) n (fun k=>(el k).1))]⟩
def AU8:Ad [EN,F7]->Cz:=fun (c,(n,el),_)=>[
 (4,[],fun fr hp=>⟨Nat,fun g=>⟨J1 [.k 7,.t 1,.k 14,.s (.si .i64 (Em g)),.t 8,.k 9] fr,hp⟩,Nat × Nat × (Nat->Int),fun g=>(g,n,fun k=>(el k).1),fun (g,n,v)=>g<=n/\∀ k,k<g->HH (v k)=true,fun g=>Hb n g⟩)]
set_option maxRecDepth 100000 in
set_option maxHeartbeats 4000000 in
theorem xK:FnSpec Tryz.prog 20 _ AJ5:=by
 refine FnSpec.of yE mixed (U:=0) (I:=AU8) Tryz.func20 rfl (by kernel_rfl) rfl rfl (by decide +kernel) ?_
 rintro ⟨c,⟨n,el⟩,⟨⟩⟩ hpre
 obtain ⟨c,rfl⟩:=E2 c
 obtain ⟨v,rfl⟩:∃ v:Nat->Int,el=fun k=>(v k,()):=⟨fun k=>(el k).1,rfl⟩
 have hpre:Ai c/\n<=maxLen:=by have:Ai (A6 (DQ c))/\n<=maxLen:=hpre;rwa [BM] at this
 obtain ⟨hc,hn⟩:=hpre
 unfold A2
 conv=>arg 2;reduce
 unfold maxLen at hn
 simp [AJ5,M7,pB,jy,pO,pf,M1,lP,Ar,A3,AP,AB,and_assoc]
 refine ⟨hc,fun h=>ZC (xM fun q1 q2=>?_) (by decide),fun h1 h2=>⟨⟨0,rfl,by omega,fun k hk=>by omega⟩,fun g hg hq=>⟨fun hlt=>⟨hlt,fun hb=>ZC (AJ9 hlt hb) (by decide),fun hb=>⟨by omega,by omega,g+1,by omega,by omega,fun k hk=>?_,by omega⟩⟩,fun hge=>?_⟩⟩⟩
 ·rcases h with h|h
  ·rw [q1] at h;cases h
  ·omega
 ·by_cases h':k<g
  ·exact hq k h'
  ·obtain rfl:k=g:=by omega
   exact hb
 ·obtain rfl:n=7:=by omega
  have hq7:∀ k,k<7->HH (v k)=true:=fun k hk=>hq k (by omega)
  have ho:dp v:=by
   unfold dp
   intro k hk
   exact isQ_iff.1 (hq7 k hk)
  refine ⟨h1,rfl,ho,mvM hc v,fun hb=>ZC (AJ8 h1 hq7 hb) (by decide),fun hb=>?_⟩
  have E0:Sz c 7 (fun k=>v k)=0:=tB h1 hq7 hb
  have E:Mz c 7 (fun k=>v k)=FN c v:=tC E0
  rw [E,E0]
  refine ⟨(celB_iff.1 hb).few,?_⟩
  simp
end
end Abs
end Go.Proofs.YtccgngldoinokaaGreat

namespace Go.Proofs.YtccgngldoinokaaGreat
namespace Abs
open Go Go.RowKit
noncomputable section
attribute [local irreducible] A2
def xA (k:Nat):Int:=if k=0 then 0 else if k=1 then 8000 else if k=2 then 50000 else 65536
def wz (k:Nat):Int:=if k=0 then 3000000 else if k=1 then 3400000 else if k=2 then 3700000 else 4200000
def cd (k:Nat):Int:=if k=0 then 0 else 400000
def x_ (k:Nat):Int:=if k=0 then 1000 else 3000
def wy (k:Nat):Int:=if k=0 then 1 else 3
@[irreducible]def basC:Cel:=⟨1000000,⟨4,xA,4,wz⟩,0,⟨2,cd,2,x_⟩,100,500,60000,10,20000,300,⟨2,cd,2,wy⟩,1048576,0,100⟩
theorem basC_is:basC.cap=1000000/\basC.shift=0/\basC.extra=100/\basC.pair=500/\basC.keep=60000/\basC.leak=10/\basC.hcap=20000/\basC.cool=300/\basC.cyc=1048576/\basC.agel=0/\basC.grow=100:=by
 unfold basC Cel.cap Cel.shift Cel.extra Cel.pair Cel.keep Cel.leak Cel.hcap Cel.cool Cel.cyc Cel.agel Cel.grow
 exact ⟨rfl,rfl,rfl,rfl,rfl,rfl,rfl,rfl,rfl,rfl,rfl⟩
theorem XT:basC.ocv=⟨4,xA,4,wz⟩:=by unfold basC Cel.ocv;rfl
theorem Sv:basC.cold=⟨2,cd,2,x_⟩:=by unfold basC Cel.cold;rfl
theorem XS:basC.stress=⟨2,cd,2,wy⟩:=by unfold basC Cel.stress;rfl
theorem Mt (a:Nat) (b:Nat->Int) (c:Nat) (d:Nat->Int):(Crv.mk a b c d).nx=a/\(Crv.mk a b c d).x=b/\(Crv.mk a b c d).ny=c/\(Crv.mk a b c d).y=d:=by
 unfold Crv.nx Crv.x Crv.ny Crv.y;exact ⟨rfl,rfl,rfl,rfl⟩
theorem AR5:fg ⟨4,xA,4,wz⟩ 65536 8388608=true:=by
 obtain ⟨a,b,c,d⟩:=Mt 4 xA 4 wz
 rw [scB_iff,crB_iff,a,b,c,d]
 refine ⟨⟨rfl,by decide,by decide,fun k hk=>?_,fun k hk=>?_⟩,rfl,rfl,by decide,by decide⟩
 ·rw [isQ_iff,isQ_iff]
  unfold xA wz
  repeat' split
  all_goals omega
 ·rcases (show k=0\/k=1\/k=2 by omega) with rfl|rfl|rfl<;>decide
theorem AR6:fg ⟨2,cd,2,x_⟩ 400000 1048576=true:=by
 obtain ⟨a,b,c,d⟩:=Mt 2 cd 2 x_
 rw [scB_iff,crB_iff,a,b,c,d]
 refine ⟨⟨rfl,by decide,by decide,fun k hk=>?_,fun k hk=>?_⟩,rfl,rfl,by decide,by decide⟩
 ·rw [isQ_iff,isQ_iff]
  unfold cd x_
  repeat' split
  all_goals omega
 ·obtain rfl:k=0:=by omega
  decide
theorem AR4:fg ⟨2,cd,2,wy⟩ 400000 1048576=true:=by
 obtain ⟨a,b,c,d⟩:=Mt 2 cd 2 wy
 rw [scB_iff,crB_iff,a,b,c,d]
 refine ⟨⟨rfl,by decide,by decide,fun k hk=>?_,fun k hk=>?_⟩,rfl,rfl,by decide,by decide⟩
 ·rw [isQ_iff,isQ_iff]
  unfold cd wy
  repeat' split
  all_goals omega
 ·obtain rfl:k=0:=by omega
  decide
def Jr (d:Nat->Int):Prop:=(-20000<=d 0/\d 0<=20000)/\(-3000<=d 1/\d 1<=3000)/\(-100<=d 2/\d 2<=400)/\(-100<=d 3/\d 3<=100)/\(-5<=d 4/\d 4<=5)/\(-50<=d 5/\d 5<=50)/\(-20<=d 6/\d 6<=20)
theorem mv_ok {d:Nat->Int} (h:Jr d):Dl (FN basC d)=true:=by
 obtain ⟨h0,h1,h2,h3,h4,h5,h6⟩:=h
 obtain ⟨e0,e1,e2,e3,e4,e5,e6,e7,e8,e9,e10⟩:=basC_is
 refine celB_iff.2 ⟨?_,?_,?_,?_,?_,?_,?_,?_,?_,?_,?_,?_,?_,?_,?_,?_,?_,?_,?_,?_,?_,?_,?_,?_,?_⟩
 all_goals first
  | (simp only [U3,S_,SA,W9,W_,WB,WD,WA,bA,WF,WC];omega)
  | (rw [b_,XT];exact AR5)
  | (rw [WE,Sv];exact AR6)
  | (rw [PI,XS];exact AR4)
theorem ld:Dl basC=true:=by
 have:=mv_ok (d:=fun _=>0) (by unfold Jr;simp)
 have e:FN basC (fun _=>0)=basC:=by
  unfold FN
  simp only [Int.add_zero]
  unfold Cel.cap Cel.ocv Cel.shift Cel.cold Cel.extra Cel.pair Cel.keep Cel.leak Cel.hcap Cel.cool Cel.stress Cel.cyc Cel.agel Cel.grow
  rfl
 rwa [e] at this
theorem zH {d:Nat->Int} (h:Jr d):∀ k,k<7->HH (d k)=true:=fun k hk=>by
 obtain ⟨h0,h1,h2,h3,h4,h5,h6⟩:=h
 rw [isQ_iff]
 rcases (show k=0\/k=1\/k=2\/k=3\/k=4\/k=5\/k=6 by omega) with rfl|rfl|rfl|rfl|rfl|rfl|rfl<;>omega
theorem AJ6 {d:Nat->Int} (h:Jr d):Sz basC 7 d=0/\Mz basC 7 d=FN basC d:=by
 have e:=tB ld (zH h) (mv_ok h)
 exact ⟨e,tC e⟩
theorem du {c:Cel} {d d':Nat->Int} (h:∀ k,k<7->d k=d' k):FN c d=FN c d':=by
 unfold FN
 rw [h 0 (by decide),h 1 (by decide),h 2 (by decide),h 3 (by decide),h 4 (by decide),h 5 (by decide),h 6 (by decide)]
def r_:Spec []:=⟨fun _=>True,fun _=>enc EN (DQ basC)⟩
set_option maxRecDepth 100000 in
theorem xF:FnSpec Tryz.prog 21 _ r_:=by
 refine FnSpec.of SZ0_ok mixed (U:=0) (I:=fun _=>[]) Tryz.func21 rfl (by kernel_rfl) rfl rfl (by decide +kernel) ?_
 rintro ⟨⟩ -
 unfold A2
 conv=>arg 2;reduce
 obtain ⟨e0,e1,e2,e3,e4,e5,e6,e7,e8,e9,e10⟩:=basC_is
 obtain ⟨o1,o2,o3,o4⟩:=Mt 4 xA 4 wz
 obtain ⟨c1,c2,c3,c4⟩:=Mt 2 cd 2 x_
 obtain ⟨s1,s2,s3,s4⟩:=Mt 2 cd 2 wy
 simp [r_,M1,XT,Sv,XS,o1,o2,o3,o4,c1,c2,c3,c4,s1,s2,s3,s4,e0,e1,e2,e3,e4,e5,e6,e7,e8,e9,e10,Ar,A3,AP,AB,and_assoc]
 have r4:∀ j,j<4->j=0\/j=1\/j=2\/j=3:=fun j hj=>by omega
 have r2:∀ j,j<2->j=0\/j=1:=fun j hj=>by omega
 refine ⟨fun j hj=>?_,fun j hj=>?_,fun j hj=>?_,fun j hj=>?_,fun j hj=>?_,fun j hj=>?_⟩
 ·rcases r4 j hj with rfl|rfl|rfl|rfl<;>simp [AZ,AW,AO,E3,LY,xA]
 ·rcases r4 j hj with rfl|rfl|rfl|rfl<;>simp [AZ,AW,AO,E3,LY,wz]
 ·rcases r2 j hj with rfl|rfl<;>simp [AZ,AW,AO,E3,LY,cd]
 ·rcases r2 j hj with rfl|rfl<;>simp [AZ,AW,AO,E3,LY,x_]
 ·rcases r2 j hj with rfl|rfl<;>simp [AZ,AW,AO,E3,LY,cd]
 ·rcases r2 j hj with rfl|rfl<;>simp [AZ,AW,AO,E3,LY,wy]
@[irreducible]def LK (lo hi a:Int):Int:=lo+((hi-lo)*a).tdiv 255
def oL:Spec [.agg [.int .i64,.int .i64],.int .u8]:=⟨fun (((lo:Int),(hi:Int),_),(a:Int),_)=>-20000<=lo/\lo<=0/\0<=hi/\hi<=20000/\0<=a/\a<=255,fun (((lo:Int),(hi:Int),_),(a:Int),_)=>.si .i64 (LK lo hi a)⟩
theorem io {lo hi a:Int} (h0:lo<=hi) (a0:0<=a) (a1:a<=255):lo<=LK lo hi a/\LK lo hi a<=hi/\0<=((hi-lo)*a).tdiv 255/\((hi-lo)*a).tdiv 255<=hi-lo/\0<=(hi-lo)*a/\(hi-lo)*a<=(hi-lo)*255:=by
 have m0:0<=(hi-lo)*a:=Int.mul_nonneg (by omega) a0
 have m1:(hi-lo)*a<=(hi-lo)*255:=Int.mul_le_mul_of_nonneg_left a1 (by omega)
 unfold LK
 rw [Int.tdiv_eq_ediv_of_nonneg m0]
 omega
set_option maxRecDepth 100000 in
theorem uF:FnSpec Tryz.prog 19 _ oL:=by
 refine FnSpec.of SZ0_ok mixed (U:=0) (I:=fun _=>[]) Tryz.func19 rfl (by kernel_rfl) rfl rfl (by decide +kernel) ?_
 rintro ⟨⟨(lo:Int),(hi:Int),⟨⟩⟩,(a:Int),⟨⟩⟩ ⟨(l0 : -20000<=lo),(l1:lo<=0),(h0:0<=hi),(h1:hi<=20000),(a0:0<=a),(a1:a<=255)⟩
 unfold A2
 conv=>arg 2;reduce
 have:=io (lo:=lo) (hi:=hi) (a:=a) (by omega) a0 a1
 have e:lo+((hi-lo)*a).tdiv 255=LK lo hi a:=by unfold LK;rfl
 simp [oL,O2,IntKind.min,IntKind.max,IntKind.signed,IntKind.bits,and_assoc,e]
 omega
@[irreducible]def Xr (k:Nat):Int:=if k=0 then -20000 else if k=1 then -3000 else if k=2 then -100 else if k=3 then -100 else if k=4 then -5 else if k=5 then -50 else -20
@[irreducible]def Xs (k:Nat):Int:=if k=0 then 20000 else if k=1 then 3000 else if k=2 then 400 else if k=3 then 100 else if k=4 then 5 else if k=5 then 50 else 20
theorem ry:Xr 0 = -20000:=by unfold Xr;rfl
theorem sA:Xs 0=20000:=by unfold Xs;rfl
theorem rv:Xr 1 = -3000:=by unfold Xr;rfl
theorem s_:Xs 1=3000:=by unfold Xs;rfl
theorem ru:Xr 2 = -100:=by unfold Xr;rfl
theorem s9:Xs 2=400:=by unfold Xs;rfl
theorem rt:Xr 3 = -100:=by unfold Xr;rfl
theorem s8:Xs 3=100:=by unfold Xs;rfl
theorem rr:Xr 4 = -5:=by unfold Xr;rfl
theorem s7:Xs 4=5:=by unfold Xs;rfl
theorem rq:Xr 5 = -50:=by unfold Xr;rfl
theorem s6:Xs 5=50:=by unfold Xs;rfl
theorem rp:Xr 6 = -20:=by unfold Xr;rfl
theorem rz:Xs 6=20:=by unfold Xs;rfl
def n_:Spec []:=⟨fun _=>True,fun _=>.slc (.sym 7) 2 (fun k=>[.si .i64 (Xr k),.si .i64 (Xs k)])⟩
set_option maxRecDepth 100000 in
theorem tX:FnSpec Tryz.prog 18 _ n_:=by
 refine FnSpec.of SZ0_ok mixed (U:=0) (I:=fun _=>[]) Tryz.func18 rfl (by kernel_rfl) rfl rfl (by decide +kernel) ?_
 rintro ⟨⟩ -
 unfold A2
 conv=>arg 2;reduce
 simp [n_,Ar,A3,AP,AB,and_assoc]
 intro j hj
 rcases (show j=0\/j=1\/j=2\/j=3\/j=4\/j=5\/j=6 by omega) with rfl|rfl|rfl|rfl|rfl|rfl|rfl<;>simp [AZ,AW,AO,E3,LY,ry,sA,rv,s_,ru,s9,rt,s8,rr,s7,rq,s6,rp,rz]
@[irreducible]def QU (a0 a1 a2 a3 a4 a5 a6:Int) (k:Nat):Int:=if k=0 then LK (-20000) 20000 a0 else if k=1 then LK (-3000) 3000 a1 else if k=2 then LK (-100) 400 a2 else if k=3 then LK (-100) 100 a3 else if k=4 then LK (-5) 5 a4 else if k=5 then LK (-50) 50 a5 else LK (-20) 20 a6
theorem sY (a0 a1 a2 a3 a4 a5 a6:Int):QU a0 a1 a2 a3 a4 a5 a6 0=LK (-20000) 20000 a0:=by unfold QU;rfl
theorem sX (a0 a1 a2 a3 a4 a5 a6:Int):QU a0 a1 a2 a3 a4 a5 a6 1=LK (-3000) 3000 a1:=by unfold QU;rfl
theorem sW (a0 a1 a2 a3 a4 a5 a6:Int):QU a0 a1 a2 a3 a4 a5 a6 2=LK (-100) 400 a2:=by unfold QU;rfl
theorem sV (a0 a1 a2 a3 a4 a5 a6:Int):QU a0 a1 a2 a3 a4 a5 a6 3=LK (-100) 100 a3:=by unfold QU;rfl
theorem sU (a0 a1 a2 a3 a4 a5 a6:Int):QU a0 a1 a2 a3 a4 a5 a6 4=LK (-5) 5 a4:=by unfold QU;rfl
theorem sS (a0 a1 a2 a3 a4 a5 a6:Int):QU a0 a1 a2 a3 a4 a5 a6 5=LK (-50) 50 a5:=by unfold QU;rfl
theorem sR (a0 a1 a2 a3 a4 a5 a6:Int):QU a0 a1 a2 a3 a4 a5 a6 6=LK (-20) 20 a6:=by unfold QU;rfl
theorem Ts {a0 a1 a2 a3 a4 a5 a6:Int} (h0:0<=a0/\a0<=255) (h1:0<=a1/\a1<=255) (h2:0<=a2/\a2<=255) (h3:0<=a3/\a3<=255) (h4:0<=a4/\a4<=255) (h5:0<=a5/\a5<=255) (h6:0<=a6/\a6<=255):Jr (QU a0 a1 a2 a3 a4 a5 a6):=by
 unfold Jr
 rw [sY,sX,sW,sV,sU,sS,sR]
 have p:∀ lo hi a:Int,lo<=hi->(0<=a/\a<=255)->lo<=LK lo hi a/\LK lo hi a<=hi:=fun lo hi a h ha=>by
  have:=io (lo:=lo) (hi:=hi) (a:=a) h ha.1 ha.2
  omega
 exact ⟨p _ _ _ (by decide) h0,p _ _ _ (by decide) h1,p _ _ _ (by decide) h2,p _ _ _ (by decide) h3,p _ _ _ (by decide) h4,p _ _ _ (by decide) h5,p _ _ _ (by decide) h6⟩
theorem AJ7 {D d:Nat->Int} (hD:∀ k,k<7->D k=d k) (h:Jr d):Sz basC 7 D=0/\Mz basC 7 D=FN basC d:=by
 have hT:Jr D:=by
  unfold Jr at h ⊢
  rw [hD 0 (by decide),hD 1 (by decide),hD 2 (by decide),hD 3 (by decide),hD 4 (by decide),hD 5 (by decide),hD 6 (by decide)]
  exact h
 obtain ⟨a,b⟩:=AJ6 hT
 exact ⟨a,by rw [b];exact du hD⟩
@[irreducible]def Xc (ch:Int):Sta:=⟨300000+1500*ch,0,300000,0,0⟩
theorem Yk (ch:Int):(Xc ch).q=300000+1500*ch/\(Xc ch).rx=0/\(Xc ch).tp=300000/\(Xc ch).th=0/\(Xc ch).ag=0:=by
 unfold Xc Sta.q Sta.rx Sta.tp Sta.th Sta.ag;exact ⟨rfl,rfl,rfl,rfl,rfl⟩
theorem ss {d:Nat->Int} {ch:Int} (h:Jr d) (c0:0<=ch) (c1:ch<=255):MJ (FN basC d) (Xc ch)=0:=by
 obtain ⟨i0,i1,i2,i3,i4⟩:=Yk ch
 refine lA (mv_ok h) ⟨by omega,by omega,by omega,by omega,by omega,by omega,by omega,by omega,by omega,?_⟩
 have hw:Gl (FN basC d) (Xc ch).th (Xc ch).ag=0:=by
  rw [i3,i4]
  unfold Gl Px
  simp
 rw [hw]
 have hc:(FN basC d).cap=1000000+d 0:=by rw [U3,basC_is.1]
 have hr:980000<=JI (FN basC d) 0:=by
  have:=h.1
  unfold JI
  omega
 omega
theorem Fn.weakenR {P:Program} {f:FuncId} {args:List AV} {H:A0} {r r':AV} {H':A0} (h:Fn P f args H r H') (hw:∀ (C:Cx) (w:World) (v:Value),Rel C w r v->Rel C w r' v):Fn P f args H r' H' :=
 fun C w vs hO hH ha=>(h C w vs hO hH ha).mono fun _e _w' ⟨v,C',h1,h2,h3,h4⟩=>⟨v,C',h1,h2,hw _ _ _ h3,h4⟩
def xL:Spec [EN,F7]:=⟨fun (c,x,_)=>Ai (A6 c)/\x.1<=maxLen/\Sz (A6 c) x.1 (fun k=>(x.2 k).1)=0,fun (c,(n,el),_)=>.tup [enc EN (DQ (Mz (A6 c) n (fun k=>(el k).1))),.li .i64 0]⟩
theorem rI:FnSpec Tryz.prog 20 _ xL:=by
 rintro ⟨c,⟨n,el⟩,⟨⟩⟩ ⟨h1,h2,h3⟩
 have h:=xK (c,(n,el),PUnit.unit) ⟨h1,h2⟩
 refine Fn.weakenR h fun C w v hv=>?_
 have hv:Rel C w (.tup [enc EN (DQ (Mz (A6 c) n (fun k=>(el k).1))),.si .i64 (Sz (A6 c) n (fun k=>(el k).1))]) v:=hv
 have h3:Sz (A6 c) n (fun k=>(el k).1)=0:=h3
 rw [h3] at hv
 have key:∀ (A:AV) (v:Value),Rel C w (.tup [A,.si .i64 0]) v->Rel C w (.tup [A,.li .i64 0]) v:=fun A v hv=>by
  cases hv with
  | tup _ vs hv =>
    cases hv with
    | cons _ _ x xs a b =>
      cases b with
      | cons _ _ y ys a' b' =>
        cases a'
        exact .tup _ _ (.cons _ _ _ _ a (.cons _ _ _ _ (.li _ _) b'))
 exact key _ v hv
def wN:Spec [EN,JA]:=⟨fun (c,s,_)=>Ai (A6 c)/\MJ (A6 c) (AC s)=0,fun _=>.li .i64 0⟩
theorem qg:FnSpec Tryz.prog 22 _ wN:=by
 rintro ⟨c,s,⟨⟩⟩ ⟨h1,h2⟩
 have h:=l9 (c,s,PUnit.unit) h1
 refine Fn.weakenR h fun C w v hv=>?_
 have hv:Rel C w (.si .i64 (MJ (A6 c) (AC s))) v:=hv
 have h2:MJ (A6 c) (AC s)=0:=h2
 rw [h2] at hv
 cases hv
 exact .li _ _
noncomputable def SZo:Sums:=⟨(19,A_ _ oL)::(21,A_ _ r_)::(18,A_ _ n_)::(22,A_ _ wN)::(20,A_ _ xL)::SZ0.one,SZ0.two,SZ0.lo,SZ0.eqs,SZ0.its,SZ0.imm⟩
theorem xV:SumsOK Tryz.prog SZo:=(((((SZ0_ok.cons Tryz.func20 (by kernel_rfl) (by kernel_rfl) rI).cons Tryz.func22 (by kernel_rfl) (by kernel_rfl) qg).cons Tryz.func18 (by kernel_rfl) (by kernel_rfl) tX).cons Tryz.func21 (by kernel_rfl) (by kernel_rfl) xF).cons Tryz.func19 (by kernel_rfl) (by kernel_rfl) uF)
@[reducible]def H1:List Sh:=[.int .u8,.int .u8,.int .u8,.int .u8,.int .u8,.int .u8,.int .u8,.int .u8,.int .u8]
def u8 (x:Int):Prop:=0<=x/\x<=255
def pR:Spec [.agg H1]:=⟨fun (((a0:Int),(a1:Int),(a2:Int),(a3:Int),(a4:Int),(a5:Int),(a6:Int),(ch:Int),(w:Int),_),_)=>u8 a0/\u8 a1/\u8 a2/\u8 a3/\u8 a4/\u8 a5/\u8 a6/\u8 ch/\u8 w,
 fun (((a0:Int),(a1:Int),(a2:Int),(a3:Int),(a4:Int),(a5:Int),(a6:Int),(ch:Int),_),_)=>.tup [enc EN (DQ (FN basC (QU a0 a1 a2 a3 a4 a5 a6))),enc JA (Gs (Xc ch)),.top,.sb true]⟩
def AT1:Ad [.agg H1]->Cz:=fun _=>[(2097163,[(9,0,0),(11,0,0)],fun _ _=>Gp)]
set_option maxRecDepth 100000 in
set_option maxHeartbeats 4000000 in
theorem v8:FnSpec Tryz.prog 5 _ pR:=by
 refine FnSpec.of xV mixed (U:=9) (I:=AT1) Tryz.func5 rfl (by kernel_rfl) rfl rfl (by decide +kernel) ?_
 rintro ⟨⟨(a0:Int),(a1:Int),(a2:Int),(a3:Int),(a4:Int),(a5:Int),(a6:Int),(ch:Int),(w:Int),⟨⟩⟩,⟨⟩⟩ ⟨h0,h1,h2,h3,h4,h5,h6,h7,h8⟩
 unfold u8 at h0 h1 h2 h3 h4 h5 h6 h7 h8
 have hT:=Ts h0 h1 h2 h3 h4 h5 h6
 unfold A2
 conv=>arg 2;reduce
 simp [pR,xL,wN,n_,r_,oL,M1,O2,IntKind.min,IntKind.max,IntKind.signed,IntKind.bits,Ar,A3,AP,AB,CV,and_assoc,ry,sA,rv,s_,ru,s9,rt,s8,rr,s7,rq,s6,rp,rz]
 have key:=fun D hD=>AJ7 (D:=D) (d:=QU a0 a1 a2 a3 a4 a5 a6) hD hT
 have es:AC (300000+1500*ch,0,300000,0,0,PUnit.unit)=Xc ch:=by unfold AC Xc;rfl
 rw [es,(key _ ?_).1,(key _ ?_).2]
 ·obtain ⟨i0,i1,i2,i3,i4⟩:=Yk ch
  have hm:=(celB_iff.1 ld).max
  have hm2:=(celB_iff.1 (mv_ok hT)).max
  have hin:=ss (d:=QU a0 a1 a2 a3 a4 a5 a6) hT h7.1 h7.2
  have hml:7<=maxLen:=by unfold maxLen;decide
  have hcan:∀ (k:Nat),k<7->EO [Sh.int IntKind.i64] (Ft 6 (Ft 5 (Ft 4 (Ft 3 (Ft 2 (Ft 1 (AZ 1 [AV.si IntKind.i64 (LK (-20000) 20000 a0)]) (AZ 1 [AV.si IntKind.i64 (LK (-3000) 3000 a1)])) (AZ 1 [AV.si IntKind.i64 (LK (-100) 400 a2)])) (AZ 1 [AV.si IntKind.i64 (LK (-100) 100 a3)])) (AZ 1 [AV.si IntKind.i64 (LK (-5) 5 a4)])) (AZ 1 [AV.si IntKind.i64 (LK (-50) 50 a5)])) (AZ 1 [AV.si IntKind.i64 (LK (-20) 20 a6)]) k):=fun k hk=>by
   rcases (show k=0\/k=1\/k=2\/k=3\/k=4\/k=5\/k=6 by omega) with rfl|rfl|rfl|rfl|rfl|rfl|rfl<;>simp [Ft,AZ,AW,AO,EO,BL,D1,AD]
  simp [hm,hm2,hin,hml,enc,Ab,Gs,i0,i1,i2,i3,i4]
  refine ⟨h0.1,h0.2,h1.1,h1.2,h2.1,h2.2,h3.1,h3.2,h4.1,h4.2,h5.1,h5.2,h6.1,h6.2,hcan,?_⟩
  omega
 all_goals
  intro k hk
  rcases (show k=0\/k=1\/k=2\/k=3\/k=4\/k=5\/k=6 by omega) with rfl|rfl|rfl|rfl|rfl|rfl|rfl<;>simp [Ft,AZ,AW,AO,sY,sX,sW,sV,sU,sS,sR]
end
end Abs
end Go.Proofs.YtccgngldoinokaaGreat

namespace Go.Proofs.YtccgngldoinokaaGreat
namespace Abs
open Go Go.RowKit
noncomputable section
structure LI (n L:Nat) (k:Int) (g:Gd) (C:Nat->Cel) (s:Nat->Sta) (m:Mc) (p:Pla) (r:Nat->Int):Prop where
 a:n<=L
 b:n<=60
 i:GInv k n m p r
 c:∀ j,j<3->ClOK (C j) (s j) n
 g:m.g=g
variable {n L:Nat} {k:Int} {g:Gd} {C:Nat->Cel} {s:Nat->Sta} {m:Mc} {p:Pla} {r:Nat->Int} {T:Tru} {c:Int}
@[irreducible]def mE (b:Bool) (x:Int):Int:=if b=true then x else 0
theorem Qs (x:Int):mE true x=x:=by unfold mE;rfl
theorem Qt (x:Int):mE false x=0:=by unfold mE;rfl
theorem Ka (T:Tru) (r:Nat->Int) (c:Nat):mE (FY T c) (r c+1)=Hu T r c:=by unfold mE Hu;rfl
@[irreducible]def nxS (C:Nat->Cel) (s:Nat->Sta) (c:Int) (j:Nat):Sta:=fe (C j) (s j) c 300000
theorem jE (C:Nat->Cel) (s:Nat->Sta) (c:Int) (j:Nat):nxS C s c j=fe (C j) (s j) c 300000:=by unfold nxS;rfl
@[irreducible]def uV (m:Mc) (p:Pla):Pla:=A5 p m.d0 m.d1 m.d2 m.fi
theorem jF (m:Mc) (p:Pla):uV m p=A5 p m.d0 m.d1 m.d2 m.fi:=by unfold uV;rfl
theorem AF8 (h:LI n L k g C s m p r) (hT:TrOK T):MsOK m (A1 p T):=AA6 h.i.ct (by have:=h.b;omega) hT
theorem PS (h:LI n L k g C s m p r) {j:Nat} (hj:j<3):MJ (C j) (s j)=0/\Ai (C j):=by
 have:=(h.c j hj).ok
 exact ⟨this,(celB_iff.1 (csE_iff.1 this).1).max⟩
theorem vX (h:LI n L k g C s m p r) {u:Pul} (hu:Uc u) (hc : -163840<=c/\c<=163840):TrOK (EQ (Al (C 0) (s 0) c) (Al (C 1) (s 1) c) (Al (C 2) (s 2) c) (s 0).tp (s 1).tp (s 2).tp c u)/\ErOK (EQ (Al (C 0) (s 0) c) (Al (C 1) (s 1) c) (Al (C 2) (s 2) c) (s 0).tp (s 1).tp (s 2).tp c u)/\(EQ (Al (C 0) (s 0) c) (Al (C 1) (s 1) c) (Al (C 2) (s 2) c) (s 0).tp (s 1).tp (s 2).tp c u).x2=c:=by
 have hv:∀ j,j<3->(-2147483648<=Al (C j) (s j) c/\Al (C j) (s j) c<=2147483648)/\0<=(s j).tp/\(s j).tp<=400000:=fun j hj=>by
  obtain ⟨h1,h2⟩:=csE_iff.1 (PS h hj).1
  exact ⟨gD h1 h2 (by omega) (by omega),h2.t0,h2.t1⟩
 obtain ⟨a0,b0⟩:=hv 0 (by decide)
 obtain ⟨a1,b1⟩:=hv 1 (by decide)
 obtain ⟨a2,b2⟩:=hv 2 (by decide)
 obtain ⟨h1,h2⟩:=zD (i:=c) (u:=u) a0 a1 a2 b0 b1 b2 (by omega) hu
 exact ⟨h1,h2,Xq _ _ _ _ _ _ _ _⟩
theorem pV (h:LI n L k g C s m p r) (h1:n<L) (h2:n<60) (hT:ErOK T) (hx:HP p=false->c=0) (e:T.x2=c) (hc : -163840<=c/\c<=163840) :
  LI (n+1) L k g C (nxS C s c) (Az m (A1 p T)) (uV (Az m (A1 p T)) p) (Hu T r):=by
 have hct:CtOK m 1000:=h.i.ct.up (by omega)
 refine ⟨h1,h2,?_,fun j hj=>?_,by rw [sC hct];exact h.g⟩
 ·rw [jF]
  have:=vz h.i (by omega) hT (fun hp=>by rw [e];exact hx hp)
  rwa [show ((n+1:Nat):Int)=(n:Int)+1 by omega]
 ·rw [jE,show ((n+1:Nat):Int)=(n:Int)+1 by omega]
  exact (cY (h.c j hj) (by omega) hc).2
theorem vY (h:LI n L k g C s m p r) (hc : -163840<=c/\c<=163840) {j:Nat} (hj:j<3):MM (C j) (s j) c 300000=0:=(cY (h.c j hj) (by have:=h.b;omega) hc).1
theorem Me (h:LI n L k g C s m p r) {j:Nat} (hj:j<6):0<=r j/\r j<=60:=by
 have:=h.i.rn j hj
 have:=h.i.ct.h j (by omega)
 have:=h.b
 omega
theorem jj (h:LI n L k g C s m p r) {j:Nat} (hj:j<6):(UK g ((j:Int)+1)+k<=r j->HP p=false)/\((j=2\/j=3)->r j<=UK g ((j:Int)+1)+k):=by
 rw [<- h.g,qX m.g j hj]
 obtain ⟨h1,h2⟩:=qF h.i hj
 refine ⟨fun hd=>?_,h2⟩
 cases hp:HP p with
 | false=>rfl
 | true=>exact absurd ⟨hd,hp⟩ h1
theorem pW {lag K A:Int} {b:Bool} {N:Nat} (hg:GdOK g) (hl:0<=lag/\lag<=4) (hC:∀ j,j<3->ClOK (C j) (s j) 0):LI 0 L lag g C s (CU g) (A7 lag N K A b) (fun _=>0) :=
 ⟨Nat.zero_le _,Nat.zero_le _,w5 hg hl,fun j hj=>hC j hj,YU g⟩
theorem US {d:Nat->Int} {ch:Int} (h:Jr d) (h0:0<=ch) (h1:ch<=255):ClOK (FN basC d) (Xc ch) 0:=by
 obtain ⟨_,_,_,a,b⟩:=Yk ch
 exact ⟨ss h h0 h1,by rw [a];decide,by rw [b];decide⟩
def MY (fr:List AV) (hp:A0) (t:Nat):List AV:=match A4 fr t with
 | .own i _=>(match A3 hp i with|.cells _ l=>l|_=>[])
 | _=>[]
def VV (fr:List AV) (hp:A0) (t:Nat) (l:List AV):A0:=match A4 fr t with
 | .own i _=>ze hp i l
 | _=>hp
def mcO (l:List AV):Mc:=G4 (DP sg l)
def uL (l:List AV):Pla:=HZ (DP sP l)
def sgO (l:List AV):Sg:=LF (DP iI l)
def trO (l:List AV):Tru:=Hm (DP V2 l)
end
end Abs
end Go.Proofs.YtccgngldoinokaaGreat

namespace Go.Proofs.YtccgngldoinokaaGreat
namespace Abs
open Go Go.RowKit
noncomputable section
attribute [local irreducible] A2
set_option maxRecDepth 100000 in
set_option maxHeartbeats 8000000 in
theorem te:FnSpecF Tryz.prog 12 _ _ nI:=by
 refine FnSpecF.of xZ mixed (U:=9) (I:=zN) Tryz.func12 rfl (by kernel_rfl) rfl (by decide +kernel) ?_
 rintro ⟨x,⟨⟩⟩ ⟨⟨⟩,s,⟨⟩⟩ ⟨hp,hk⟩
 obtain ⟨m,rfl⟩:∃ m,x=bD m:=⟨_,mcC_iff.1 hp⟩
 obtain ⟨s,rfl⟩:∃ z,s=yQ z:=⟨LF s,by unfold LF yQ;simp⟩
 simp only [Kl,Y5] at hk
 clear hp
 have eI:zN (bD m,PUnit.unit) (PUnit.unit,yQ s,PUnit.unit)=nH m s:=by
  show nH (G4 (bD m)) (LF (yQ s))=nH m s
  rw [Kl,Y5]
 rw [eI]
 unfold A2
 conv=>arg 2;reduce
 simp [nI,pq,qc,qe,rF,Va,QR,QQ,jL,O4,aU,oO,qn,ol,p8,qY,Xb,Na,zj,zO,JT,AZ,AW,AO,Dh,Ed,Ab,enc,Dy,J6,Lr,ownIn.ownInL,ownIn,A3,AP,AB,and_assoc]
 simp [AF6,vB,vO,vR,vQ,vP,vJ,vI,vH,vG,vF,vE,vD,vU,vT,vS,vC,vA,vN,vM,vL,vK,pS,bJ,AF5,SF,SE,SD,bR,bQ,bP,bO,bN,bM,bL,bY,bX,bW,bK,bI,bV,bU,bT,bS,AT3,AC9,AE2,AE5,AE4,AE3,AD7,AD6,AD5,AD4,AD3,AD2,AD1,AE8,AE7,AE6,AD0,AC8,AE1,AE0,AD9,AD8,v_,jT,jb,je,jd,jc,ja,jZ,jY,jX,jW,jV,jU,jh,jg,jf,PQ,PP,sq,so,sn,sl,AT2,AA8,AC1,AC4,AC3,AC2,AB6,AB5,AB4,AB3,AB2,AB1,AB0,AC7,AC6,AC5,AA9,AA7,AC0,AB9,AB8,AB7,UY,UX,UW,Wn,Wm,Wl,Wk,Wj,Wi,Wh,Gu]
 have hMc:McOK (mB m s):=⟨by rw [PP];exact hk.mc.t0,by rw [PP];exact hk.mc.t1,by rw [PQ];exact hk.mc.m0,by rw [PQ];exact hk.mc.m1⟩
 have hSn:xT (Gu m s):=by
  unfold xT
  rw [TR]
  simp
  exact hk.lk
 rw [<- TR]
 refine ⟨qB_iff.2 ⟨hk.lk.1,hk.lk.2.1⟩,qB_iff.2 ⟨hk.lk.2.2.1,hk.lk.2.2.2⟩,fun _ _=>?_⟩
 refine ⟨hk.pn,?_⟩
 refine ⟨fun k hk=>by rcases (show k=0\/k=1\/k=2 by omega) with rfl|rfl|rfl<;>simp [AZ,AW,AO,EO,BL,D1,K4],?_⟩
 refine ⟨hk.pn,?_⟩
 refine ⟨hk.a0.1,Int.le_trans hk.a0.2 (by decide),?_⟩
 refine ⟨hk.a1.1,Int.le_trans hk.a1.2 (by decide),?_⟩
 refine ⟨hk.a2.1,Int.le_trans hk.a2.2 (by decide),?_⟩
 refine ⟨hk.h0.1,Int.le_trans hk.h0.2 (by decide),?_⟩
 refine ⟨hk.h1.1,Int.le_trans hk.h1.2 (by decide),?_⟩
 refine ⟨hk.h2.1,Int.le_trans hk.h2.2 (by decide),?_⟩
 refine ⟨hk.h3.1,Int.le_trans hk.h3.2 (by decide),?_⟩
 refine ⟨hk.h4.1,Int.le_trans hk.h4.2 (by decide),?_⟩
 refine ⟨hk.h5.1,Int.le_trans hk.h5.2 (by decide),?_⟩
 refine ⟨hk.h6.1,Int.le_trans hk.h6.2 (by decide),?_⟩
 refine ⟨wk,wr,?_⟩
 refine ⟨wj,wq,?_⟩
 refine ⟨wi,wp,?_⟩
 refine ⟨wh,wo,?_⟩
 refine ⟨wg,wn,?_⟩
 refine ⟨we,wm,?_⟩
 refine ⟨wc,wl,?_⟩
 refine ⟨fun h=>by unfold t8;rw [if_pos h],fun h=>by unfold t8;rw [if_neg (by rw [h];decide)],?_⟩
 refine ⟨fun h=>by unfold t6;rw [if_pos h],fun h=>by unfold t6;rw [if_neg (by rw [h];decide)],?_⟩
 refine ⟨hk.ph.1,Int.lt_of_le_of_lt hk.ph.2 (by decide),?_⟩
 have e5:((mC m s).ph == 5)=decide ((mC m s).ph=5):=by rw [Bool.eq_iff_iff];simp
 refine ⟨fun h=>?_,fun n5=>⟨fun h=>⟨hMc,?_⟩,fun n4=>⟨fun h=>⟨hMc,?_⟩,fun n3=>⟨fun h=>⟨hMc,?_⟩,fun n2=>⟨fun h=>⟨hMc,hSn,?_⟩,fun n1=>?_⟩⟩⟩⟩,fun h=>?_,fun h1=>⟨fun h=>?_,fun h2=>?_⟩⟩
 ·rw [AE9 h]
  simp [v_,jT,jb,je,jd,jc,ja,jZ,jY,jX,jW,jV,jU,jh,jg,jf,PQ,PP,sq,so,sn,sl,UY,UX,UW,Wn,Wm,Wl,Wk,Wj,Wi,Wh]
 ·rw [AF0 h];simp
 ·rw [AF1 h];simp
 ·rw [AF2 h];simp
 ·rw [AF3 h];simp
 ·rw [AF4 (show m.ph=0 by have:=hk.ph;omega)];simp
 ·rw [e5];simp [Az,h]
 ·rw [e5];simp [Az,h]
 ·rw [e5];simp [Az,h1,h2]
end
end Abs
end Go.Proofs.YtccgngldoinokaaGreat

namespace Go.Proofs.YtccgngldoinokaaGreat
namespace Abs
open Go Go.RowKit
noncomputable section
attribute [local irreducible] A2
def vj (P:Program) (S:Sums) (U:Nat) (fn:Func):Ey:=fun args hp=>match eZ P S U fn args hp with
 | some ⟨pre,res,h,mv⟩=>K6 h fun h'=>some ⟨pre,res,h',mv⟩
 | none=>none
theorem pj (P:Program) (S:Sums) (U:Nat) (fn:Func):vj P S U fn=eZ P S U fn:=by
 funext args hp
 unfold vj
 cases h:eZ P S U fn args hp with
 | none=>rfl
 | some r=>simp only [Kr]
noncomputable def SZj0:Sums:=⟨SZp0.one,(42,vj Tryz.prog SZp0 5 Tryz.f42)::SZp0.two,SZp0.lo,SZp0.eqs,SZp0.its,SZp0.imm⟩
theorem SZj0_ok:SumsOK Tryz.prog SZj0:=SZp0_ok.addTwo Tryz.func42 (by kernel_rfl) (by kernel_rfl) (by rw [pj];exact cB SZp0_ok mixed Tryz.func42 rfl (by kernel_rfl))
noncomputable def yp:Sums:=⟨SZj0.one,SZj0.two,SZj0.lo,SZj0.eqs,SZj0.its,[78]⟩
theorem xX:SumsOK Tryz.prog yp:=SZj0_ok.setImm _
def mvpF:SpecF plB [.own 0 0,.agg [.bool,.bool,.bool,.bool]]:=⟨fun (x,_) _=>zl x/\(HZ x).md=true/\PlOK (HZ x),fun _ _=>.li .i64 0,fun (x,_) (_,((d0:Bool),(d1:Bool),(d2:Bool),(f:Bool),_),_)=>NH (A5 (HZ x) d0 d1 d2 f)⟩
def HE (p:Pla) (d0 d1 d2 f:Bool) (a b:Int):Prop:=p.md=true->p.ix=a->p.lg=b->A2 Tryz.prog ⟨yp.one,yp.two,1,yp.eqs,yp.its,yp.imm⟩ 0 [] Tryz.f13 (pX [] (Ab [.own 0 0,.agg [.bool,.bool,.bool,.bool]] (PUnit.unit,(d0,d1,d2,f,PUnit.unit),PUnit.unit))) (yZ [false,false,false,false,false,false,false,false,false,false,false,false,false,false,false,false,false,false,false,false,false,false,false,false,false,false,false,false,false,false,false,false,false,false,false,false,false,false,false,false,false,false,false,false,false,false,false,false,false,false,false,false,false,false,false,false,false,false,false,false,false,false,false,false,false,true,true] (Dh plB (plX p a b,PUnit.unit))) (.li .i64 0) (NH (A5 p d0 d1 d2 f))
end
end Abs
end Go.Proofs.YtccgngldoinokaaGreat

namespace Go.Proofs.YtccgngldoinokaaGreat
namespace Abs
open Go Go.RowKit
noncomputable section
attribute [local irreducible] A2
set_option maxRecDepth 100000 in
set_option maxHeartbeats 4000000 in
theorem uv (p:Pla) (d0 d1 d2 f:Bool):HE p d0 d1 d2 f 0 0:=by
 intro hm hx hl
 unfold A2
 conv=>arg 2;reduce
 simp [NH,Ha,Hv,hm,Dh,Ed,A3,AP,AB,Ar,DW,hl,hx,Fd,Ie,Ic,Ib,Dp,E4,BG,BF,BE,BD,BC,BB,BA,B_,B9,B8,B7,B6,B5,B4,B3,CN,CM,CL,CK,CJ,CI,CH,CG,CF,CE,CD,CC,CA,C_,C9,C8,Bz,Bw,Bv,Bu,Bt,Bs,Br,Bq,Bp,Bo,Bm,Bl,Bk,Bj,Bi,Bh,Bg,Bf,Be,Bd,Bc,Bb,Ba,BZ,BY,BX,BW,BV,BU,BT,BS,BR,Cr,B1,Cg,Cf,Ce,D_,D9,D8,Cj,Ci,Ch,Cm,Cl,Ck,Cp,Co,Cn,D4,D7,D3,D6,D2,D5,DC,DF,DB,DE,DA,DD]
 try simp +contextual
set_option maxRecDepth 100000 in
set_option maxHeartbeats 4000000 in
theorem uu (p:Pla) (d0 d1 d2 f:Bool):HE p d0 d1 d2 f 0 1:=by
 intro hm hx hl
 unfold A2
 conv=>arg 2;reduce
 simp [NH,Ha,Hv,hm,Dh,Ed,A3,AP,AB,Ar,DW,hl,hx,Fd,Ie,Ic,Ib,Dp,E4,BG,BF,BE,BD,BC,BB,BA,B_,B9,B8,B7,B6,B5,B4,B3,CN,CM,CL,CK,CJ,CI,CH,CG,CF,CE,CD,CC,CA,C_,C9,C8,Bz,Bw,Bv,Bu,Bt,Bs,Br,Bq,Bp,Bo,Bm,Bl,Bk,Bj,Bi,Bh,Bg,Bf,Be,Bd,Bc,Bb,Ba,BZ,BY,BX,BW,BV,BU,BT,BS,BR,Cr,B1,Cg,Cf,Ce,D_,D9,D8,Cj,Ci,Ch,Cm,Cl,Ck,Cp,Co,Cn,D4,D7,D3,D6,D2,D5,DC,DF,DB,DE,DA,DD]
 try simp +contextual
set_option maxRecDepth 100000 in
set_option maxHeartbeats 4000000 in
theorem ut (p:Pla) (d0 d1 d2 f:Bool):HE p d0 d1 d2 f 1 1:=by
 intro hm hx hl
 unfold A2
 conv=>arg 2;reduce
 simp [NH,Ha,Hv,hm,Dh,Ed,A3,AP,AB,Ar,DW,hl,hx,Fd,Ie,Ic,Ib,Dp,E4,BG,BF,BE,BD,BC,BB,BA,B_,B9,B8,B7,B6,B5,B4,B3,CN,CM,CL,CK,CJ,CI,CH,CG,CF,CE,CD,CC,CA,C_,C9,C8,Bz,Bw,Bv,Bu,Bt,Bs,Br,Bq,Bp,Bo,Bm,Bl,Bk,Bj,Bi,Bh,Bg,Bf,Be,Bd,Bc,Bb,Ba,BZ,BY,BX,BW,BV,BU,BT,BS,BR,Cr,B1,Cg,Cf,Ce,D_,D9,D8,Cj,Ci,Ch,Cm,Cl,Ck,Cp,Co,Cn,D4,D7,D3,D6,D2,D5,DC,DF,DB,DE,DA,DD]
 try simp +contextual
set_option maxRecDepth 100000 in
set_option maxHeartbeats 4000000 in
theorem ur (p:Pla) (d0 d1 d2 f:Bool):HE p d0 d1 d2 f 0 2:=by
 intro hm hx hl
 unfold A2
 conv=>arg 2;reduce
 simp [NH,Ha,Hv,hm,Dh,Ed,A3,AP,AB,Ar,DW,hl,hx,Fd,Ie,Ic,Ib,Dp,E4,BG,BF,BE,BD,BC,BB,BA,B_,B9,B8,B7,B6,B5,B4,B3,CN,CM,CL,CK,CJ,CI,CH,CG,CF,CE,CD,CC,CA,C_,C9,C8,Bz,Bw,Bv,Bu,Bt,Bs,Br,Bq,Bp,Bo,Bm,Bl,Bk,Bj,Bi,Bh,Bg,Bf,Be,Bd,Bc,Bb,Ba,BZ,BY,BX,BW,BV,BU,BT,BS,BR,Cr,B1,Cg,Cf,Ce,D_,D9,D8,Cj,Ci,Ch,Cm,Cl,Ck,Cp,Co,Cn,D4,D7,D3,D6,D2,D5,DC,DF,DB,DE,DA,DD]
 try simp +contextual
end
end Abs
end Go.Proofs.YtccgngldoinokaaGreat

namespace Go.Proofs.YtccgngldoinokaaGreat
namespace Abs
open Go Go.RowKit
noncomputable section
attribute [local irreducible] A2
set_option maxRecDepth 100000 in
set_option maxHeartbeats 4000000 in
theorem uo (p:Pla) (d0 d1 d2 f:Bool):HE p d0 d1 d2 f 1 2:=by
 intro hm hx hl
 unfold A2
 conv=>arg 2;reduce
 simp [NH,Ha,Hv,hm,Dh,Ed,A3,AP,AB,Ar,DW,hl,hx,Fd,Ie,Ic,Ib,Dp,E4,BG,BF,BE,BD,BC,BB,BA,B_,B9,B8,B7,B6,B5,B4,B3,CN,CM,CL,CK,CJ,CI,CH,CG,CF,CE,CD,CC,CA,C_,C9,C8,Bz,Bw,Bv,Bu,Bt,Bs,Br,Bq,Bp,Bo,Bm,Bl,Bk,Bj,Bi,Bh,Bg,Bf,Be,Bd,Bc,Bb,Ba,BZ,BY,BX,BW,BV,BU,BT,BS,BR,Cr,B1,Cg,Cf,Ce,D_,D9,D8,Cj,Ci,Ch,Cm,Cl,Ck,Cp,Co,Cn,D4,D7,D3,D6,D2,D5,DC,DF,DB,DE,DA,DD]
 try simp +contextual
set_option maxRecDepth 100000 in
set_option maxHeartbeats 4000000 in
theorem un (p:Pla) (d0 d1 d2 f:Bool):HE p d0 d1 d2 f 2 2:=by
 intro hm hx hl
 unfold A2
 conv=>arg 2;reduce
 simp [NH,Ha,Hv,hm,Dh,Ed,A3,AP,AB,Ar,DW,hl,hx,Fd,Ie,Ic,Ib,Dp,E4,BG,BF,BE,BD,BC,BB,BA,B_,B9,B8,B7,B6,B5,B4,B3,CN,CM,CL,CK,CJ,CI,CH,CG,CF,CE,CD,CC,CA,C_,C9,C8,Bz,Bw,Bv,Bu,Bt,Bs,Br,Bq,Bp,Bo,Bm,Bl,Bk,Bj,Bi,Bh,Bg,Bf,Be,Bd,Bc,Bb,Ba,BZ,BY,BX,BW,BV,BU,BT,BS,BR,Cr,B1,Cg,Cf,Ce,D_,D9,D8,Cj,Ci,Ch,Cm,Cl,Ck,Cp,Co,Cn,D4,D7,D3,D6,D2,D5,DC,DF,DB,DE,DA,DD]
 try simp +contextual
set_option maxRecDepth 100000 in
set_option maxHeartbeats 4000000 in
theorem um (p:Pla) (d0 d1 d2 f:Bool):HE p d0 d1 d2 f 0 3:=by
 intro hm hx hl
 unfold A2
 conv=>arg 2;reduce
 simp [NH,Ha,Hv,hm,Dh,Ed,A3,AP,AB,Ar,DW,hl,hx,Fd,Ie,Ic,Ib,Dp,E4,BG,BF,BE,BD,BC,BB,BA,B_,B9,B8,B7,B6,B5,B4,B3,CN,CM,CL,CK,CJ,CI,CH,CG,CF,CE,CD,CC,CA,C_,C9,C8,Bz,Bw,Bv,Bu,Bt,Bs,Br,Bq,Bp,Bo,Bm,Bl,Bk,Bj,Bi,Bh,Bg,Bf,Be,Bd,Bc,Bb,Ba,BZ,BY,BX,BW,BV,BU,BT,BS,BR,Cr,B1,Cg,Cf,Ce,D_,D9,D8,Cj,Ci,Ch,Cm,Cl,Ck,Cp,Co,Cn,D4,D7,D3,D6,D2,D5,DC,DF,DB,DE,DA,DD]
 try simp +contextual
set_option maxRecDepth 100000 in
set_option maxHeartbeats 4000000 in
theorem ul (p:Pla) (d0 d1 d2 f:Bool):HE p d0 d1 d2 f 1 3:=by
 intro hm hx hl
 unfold A2
 conv=>arg 2;reduce
 simp [NH,Ha,Hv,hm,Dh,Ed,A3,AP,AB,Ar,DW,hl,hx,Fd,Ie,Ic,Ib,Dp,E4,BG,BF,BE,BD,BC,BB,BA,B_,B9,B8,B7,B6,B5,B4,B3,CN,CM,CL,CK,CJ,CI,CH,CG,CF,CE,CD,CC,CA,C_,C9,C8,Bz,Bw,Bv,Bu,Bt,Bs,Br,Bq,Bp,Bo,Bm,Bl,Bk,Bj,Bi,Bh,Bg,Bf,Be,Bd,Bc,Bb,Ba,BZ,BY,BX,BW,BV,BU,BT,BS,BR,Cr,B1,Cg,Cf,Ce,D_,D9,D8,Cj,Ci,Ch,Cm,Cl,Ck,Cp,Co,Cn,D4,D7,D3,D6,D2,D5,DC,DF,DB,DE,DA,DD]
 try simp +contextual
end
end Abs
end Go.Proofs.YtccgngldoinokaaGreat

namespace Go.Proofs.YtccgngldoinokaaGreat
namespace Abs
open Go Go.RowKit
noncomputable section
attribute [local irreducible] A2
set_option maxRecDepth 100000 in
set_option maxHeartbeats 4000000 in
theorem uk (p:Pla) (d0 d1 d2 f:Bool):HE p d0 d1 d2 f 2 3:=by
 intro hm hx hl
 unfold A2
 conv=>arg 2;reduce
 simp [NH,Ha,Hv,hm,Dh,Ed,A3,AP,AB,Ar,DW,hl,hx,Fd,Ie,Ic,Ib,Dp,E4,BG,BF,BE,BD,BC,BB,BA,B_,B9,B8,B7,B6,B5,B4,B3,CN,CM,CL,CK,CJ,CI,CH,CG,CF,CE,CD,CC,CA,C_,C9,C8,Bz,Bw,Bv,Bu,Bt,Bs,Br,Bq,Bp,Bo,Bm,Bl,Bk,Bj,Bi,Bh,Bg,Bf,Be,Bd,Bc,Bb,Ba,BZ,BY,BX,BW,BV,BU,BT,BS,BR,Cr,B1,Cg,Cf,Ce,D_,D9,D8,Cj,Ci,Ch,Cm,Cl,Ck,Cp,Co,Cn,D4,D7,D3,D6,D2,D5,DC,DF,DB,DE,DA,DD]
 try simp +contextual
set_option maxRecDepth 100000 in
set_option maxHeartbeats 4000000 in
theorem uj (p:Pla) (d0 d1 d2 f:Bool):HE p d0 d1 d2 f 3 3:=by
 intro hm hx hl
 unfold A2
 conv=>arg 2;reduce
 simp [NH,Ha,Hv,hm,Dh,Ed,A3,AP,AB,Ar,DW,hl,hx,Fd,Ie,Ic,Ib,Dp,E4,BG,BF,BE,BD,BC,BB,BA,B_,B9,B8,B7,B6,B5,B4,B3,CN,CM,CL,CK,CJ,CI,CH,CG,CF,CE,CD,CC,CA,C_,C9,C8,Bz,Bw,Bv,Bu,Bt,Bs,Br,Bq,Bp,Bo,Bm,Bl,Bk,Bj,Bi,Bh,Bg,Bf,Be,Bd,Bc,Bb,Ba,BZ,BY,BX,BW,BV,BU,BT,BS,BR,Cr,B1,Cg,Cf,Ce,D_,D9,D8,Cj,Ci,Ch,Cm,Cl,Ck,Cp,Co,Cn,D4,D7,D3,D6,D2,D5,DC,DF,DB,DE,DA,DD]
 try simp +contextual
set_option maxRecDepth 100000 in
set_option maxHeartbeats 4000000 in
theorem ui (p:Pla) (d0 d1 d2 f:Bool):HE p d0 d1 d2 f 0 4:=by
 intro hm hx hl
 unfold A2
 conv=>arg 2;reduce
 simp [NH,Ha,Hv,hm,Dh,Ed,A3,AP,AB,Ar,DW,hl,hx,Fd,Ie,Ic,Ib,Dp,E4,BG,BF,BE,BD,BC,BB,BA,B_,B9,B8,B7,B6,B5,B4,B3,CN,CM,CL,CK,CJ,CI,CH,CG,CF,CE,CD,CC,CA,C_,C9,C8,Bz,Bw,Bv,Bu,Bt,Bs,Br,Bq,Bp,Bo,Bm,Bl,Bk,Bj,Bi,Bh,Bg,Bf,Be,Bd,Bc,Bb,Ba,BZ,BY,BX,BW,BV,BU,BT,BS,BR,Cr,B1,Cg,Cf,Ce,D_,D9,D8,Cj,Ci,Ch,Cm,Cl,Ck,Cp,Co,Cn,D4,D7,D3,D6,D2,D5,DC,DF,DB,DE,DA,DD]
 try simp +contextual
set_option maxRecDepth 100000 in
set_option maxHeartbeats 4000000 in
theorem uh (p:Pla) (d0 d1 d2 f:Bool):HE p d0 d1 d2 f 1 4:=by
 intro hm hx hl
 unfold A2
 conv=>arg 2;reduce
 simp [NH,Ha,Hv,hm,Dh,Ed,A3,AP,AB,Ar,DW,hl,hx,Fd,Ie,Ic,Ib,Dp,E4,BG,BF,BE,BD,BC,BB,BA,B_,B9,B8,B7,B6,B5,B4,B3,CN,CM,CL,CK,CJ,CI,CH,CG,CF,CE,CD,CC,CA,C_,C9,C8,Bz,Bw,Bv,Bu,Bt,Bs,Br,Bq,Bp,Bo,Bm,Bl,Bk,Bj,Bi,Bh,Bg,Bf,Be,Bd,Bc,Bb,Ba,BZ,BY,BX,BW,BV,BU,BT,BS,BR,Cr,B1,Cg,Cf,Ce,D_,D9,D8,Cj,Ci,Ch,Cm,Cl,Ck,Cp,Co,Cn,D4,D7,D3,D6,D2,D5,DC,DF,DB,DE,DA,DD]
 try simp +contextual
end
end Abs
end Go.Proofs.YtccgngldoinokaaGreat

namespace Go.Proofs.YtccgngldoinokaaGreat
namespace Abs
open Go Go.RowKit
noncomputable section
attribute [local irreducible] A2
set_option maxRecDepth 100000 in
set_option maxHeartbeats 4000000 in
theorem ug (p:Pla) (d0 d1 d2 f:Bool):HE p d0 d1 d2 f 2 4:=by
 intro hm hx hl
 unfold A2
 conv=>arg 2;reduce
 simp [NH,Ha,Hv,hm,Dh,Ed,A3,AP,AB,Ar,DW,hl,hx,Fd,Ie,Ic,Ib,Dp,E4,BG,BF,BE,BD,BC,BB,BA,B_,B9,B8,B7,B6,B5,B4,B3,CN,CM,CL,CK,CJ,CI,CH,CG,CF,CE,CD,CC,CA,C_,C9,C8,Bz,Bw,Bv,Bu,Bt,Bs,Br,Bq,Bp,Bo,Bm,Bl,Bk,Bj,Bi,Bh,Bg,Bf,Be,Bd,Bc,Bb,Ba,BZ,BY,BX,BW,BV,BU,BT,BS,BR,Cr,B1,Cg,Cf,Ce,D_,D9,D8,Cj,Ci,Ch,Cm,Cl,Ck,Cp,Co,Cn,D4,D7,D3,D6,D2,D5,DC,DF,DB,DE,DA,DD]
 try simp +contextual
set_option maxRecDepth 100000 in
set_option maxHeartbeats 4000000 in
theorem uf (p:Pla) (d0 d1 d2 f:Bool):HE p d0 d1 d2 f 3 4:=by
 intro hm hx hl
 unfold A2
 conv=>arg 2;reduce
 simp [NH,Ha,Hv,hm,Dh,Ed,A3,AP,AB,Ar,DW,hl,hx,Fd,Ie,Ic,Ib,Dp,E4,BG,BF,BE,BD,BC,BB,BA,B_,B9,B8,B7,B6,B5,B4,B3,CN,CM,CL,CK,CJ,CI,CH,CG,CF,CE,CD,CC,CA,C_,C9,C8,Bz,Bw,Bv,Bu,Bt,Bs,Br,Bq,Bp,Bo,Bm,Bl,Bk,Bj,Bi,Bh,Bg,Bf,Be,Bd,Bc,Bb,Ba,BZ,BY,BX,BW,BV,BU,BT,BS,BR,Cr,B1,Cg,Cf,Ce,D_,D9,D8,Cj,Ci,Ch,Cm,Cl,Ck,Cp,Co,Cn,D4,D7,D3,D6,D2,D5,DC,DF,DB,DE,DA,DD]
 try simp +contextual
set_option maxRecDepth 100000 in
set_option maxHeartbeats 4000000 in
theorem ue (p:Pla) (d0 d1 d2 f:Bool):HE p d0 d1 d2 f 4 4:=by
 intro hm hx hl
 unfold A2
 conv=>arg 2;reduce
 simp [NH,Ha,Hv,hm,Dh,Ed,A3,AP,AB,Ar,DW,hl,hx,Fd,Ie,Ic,Ib,Dp,E4,BG,BF,BE,BD,BC,BB,BA,B_,B9,B8,B7,B6,B5,B4,B3,CN,CM,CL,CK,CJ,CI,CH,CG,CF,CE,CD,CC,CA,C_,C9,C8,Bz,Bw,Bv,Bu,Bt,Bs,Br,Bq,Bp,Bo,Bm,Bl,Bk,Bj,Bi,Bh,Bg,Bf,Be,Bd,Bc,Bb,Ba,BZ,BY,BX,BW,BV,BU,BT,BS,BR,Cr,B1,Cg,Cf,Ce,D_,D9,D8,Cj,Ci,Ch,Cm,Cl,Ck,Cp,Co,Cn,D4,D7,D3,D6,D2,D5,DC,DF,DB,DE,DA,DD]
 try simp +contextual
end
end Abs
end Go.Proofs.YtccgngldoinokaaGreat

namespace Go.Proofs.YtccgngldoinokaaGreat
namespace Abs
open Go Go.RowKit
noncomputable section
attribute [local irreducible] A2
set_option maxRecDepth 100000 in
set_option maxHeartbeats 8000000 in
theorem uc:FnSpecF Tryz.prog 13 _ _ mvpF:=by
 refine FnSpecF.ofLi [] [false,false,false,false,false,false,false,false,false,false,false,false,false,false,false,false,false,false,false,false,false,false,false,false,false,false,false,false,false,false,false,false,false,false,false,false,false,false,false,false,false,false,false,false,false,false,false,false,false,false,false,false,false,false,false,false,false,false,false,false,false,false,false,false,false,true,true] xX mixed (U:=0) (I:=fun _ _=>[]) Tryz.func13 rfl (by kernel_rfl) rfl (by decide +kernel) ?_
 rintro ⟨x,⟨⟩⟩ ⟨⟨⟩,⟨(d0:Bool),(d1:Bool),(d2:Bool),(f:Bool),⟨⟩⟩,⟨⟩⟩ ⟨hp,hm,hk⟩
 obtain ⟨p,rfl⟩:∃ p,x=QJ p:=⟨_,plC_iff.1 hp⟩
 have hm:p.md=true:=by have:(HZ (QJ p)).md=true:=hm;rwa [Ia] at this
 have hk:PlOK p:=by have:PlOK (HZ (QJ p)):=hk;rwa [Ia] at this
 clear hp
 obtain ⟨l0,l1,i0,i1⟩:=hk
 have eA:mvpF.after (QJ p,PUnit.unit) (PUnit.unit,(d0,d1,d2,f,PUnit.unit),PUnit.unit)=NH (A5 p d0 d1 d2 f):=by
  show NH (A5 (HZ (QJ p)) d0 d1 d2 f)=_
  rw [Ia]
 have eR:mvpF.res (QJ p,PUnit.unit) (PUnit.unit,(d0,d1,d2,f,PUnit.unit),PUnit.unit)=.li .i64 0:=rfl
 rw [eA,eR,zk]
 have hc:(p.lg=0/\p.ix=0)\/(p.lg=1/\p.ix=0)\/(p.lg=1/\p.ix=1)\/(p.lg=2/\p.ix=0)\/(p.lg=2/\p.ix=1)\/(p.lg=2/\p.ix=2)\/(p.lg=3/\p.ix=0)\/(p.lg=3/\p.ix=1)\/(p.lg=3/\p.ix=2)\/(p.lg=3/\p.ix=3)\/(p.lg=4/\p.ix=0)\/(p.lg=4/\p.ix=1)\/(p.lg=4/\p.ix=2)\/(p.lg=4/\p.ix=3)\/(p.lg=4/\p.ix=4):=by omega
 rcases hc with ⟨hl,hx⟩|⟨hl,hx⟩|⟨hl,hx⟩|⟨hl,hx⟩|⟨hl,hx⟩|⟨hl,hx⟩|⟨hl,hx⟩|⟨hl,hx⟩|⟨hl,hx⟩|⟨hl,hx⟩|⟨hl,hx⟩|⟨hl,hx⟩|⟨hl,hx⟩|⟨hl,hx⟩|⟨hl,hx⟩
 ·rw [hl,hx]
  exact uv p d0 d1 d2 f hm hx hl
 ·rw [hl,hx]
  exact uu p d0 d1 d2 f hm hx hl
 ·rw [hl,hx]
  exact ut p d0 d1 d2 f hm hx hl
 ·rw [hl,hx]
  exact ur p d0 d1 d2 f hm hx hl
 ·rw [hl,hx]
  exact uo p d0 d1 d2 f hm hx hl
 ·rw [hl,hx]
  exact un p d0 d1 d2 f hm hx hl
 ·rw [hl,hx]
  exact um p d0 d1 d2 f hm hx hl
 ·rw [hl,hx]
  exact ul p d0 d1 d2 f hm hx hl
 ·rw [hl,hx]
  exact uk p d0 d1 d2 f hm hx hl
 ·rw [hl,hx]
  exact uj p d0 d1 d2 f hm hx hl
 ·rw [hl,hx]
  exact ui p d0 d1 d2 f hm hx hl
 ·rw [hl,hx]
  exact uh p d0 d1 d2 f hm hx hl
 ·rw [hl,hx]
  exact ug p d0 d1 d2 f hm hx hl
 ·rw [hl,hx]
  exact uf p d0 d1 d2 f hm hx hl
 ·rw [hl,hx]
  exact ue p d0 d1 d2 f hm hx hl
end
end Abs
end Go.Proofs.YtccgngldoinokaaGreat
