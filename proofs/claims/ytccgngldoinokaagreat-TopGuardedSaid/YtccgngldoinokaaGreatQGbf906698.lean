/- A part of the proof: no statement of its own. -/
import Derived.Test.YtccgngldoinokaaGreatQGfd3ee993
import Derived.Shelf.SortM.Plain
import Derived.Shelf.SortM.SortNone
import Derived.Test.YtccgngldoinokaaGreatProg
import Derived.Sort.OwnSortedInts
import Derived.Laws.Bits128
set_option linter.unusedSimpArgs false
set_option linter.unusedVariables false
namespace Go.Proofs.YtccgngldoinokaaGreat
namespace Abs
open Go Go.RowKit
noncomputable section
attribute [local irreducible] A2
structure GdOK (g:Gd):Prop where
 d0:1<=g.d0/\g.d0<=5
 d1:1<=g.d1/\g.d1<=5
 d2:1<=g.d2/\g.d2<=5
 d3:1<=g.d3/\g.d3<=5
 d4:1<=g.d4/\g.d4<=5
 d5:1<=g.d5/\g.d5<=5
 d6:1<=g.d6/\g.d6<=5
 op:1<=g.op/\g.op<=8
@[irreducible]def xC (x:Int):Bool:=decide (x<0) || !(qB x)
def qq:Spec [.int .i64]:=⟨fun _=>True,fun ((x:Int),_)=>.sb (xC x)⟩
noncomputable def SZh0:Sums:=⟨(60,A_ _ dc)::(28,A_ _ Va)::SZ0.one,SZ0.two,SZ0.lo,SZ0.eqs,SZ0.its,SZ0.imm⟩
theorem SZh0_ok:SumsOK Tryz.prog SZh0:=((SZ0_ok.cons Tryz.func28 (by kernel_rfl) (by kernel_rfl) YJ).cons Tryz.func60 (by kernel_rfl) (by kernel_rfl) im)
set_option maxRecDepth 100000 in
theorem wS:FnSpec Tryz.prog 57 _ qq:=by
 refine FnSpec.of SZh0_ok mixed (U:=0) (I:=fun _=>[]) Tryz.func57 rfl (by kernel_rfl) rfl rfl (by decide +kernel) ?_
 rintro ⟨(x:Int),⟨⟩⟩ -
 unfold A2
 conv=>arg 2;reduce
 simp [qq,Va]
 unfold xC
 simp
def qp:Spec [.int .i64]:=⟨fun _=>True,fun ((x:Int),_)=>.sb (MA (go x))⟩
set_option maxRecDepth 100000 in
theorem wR:FnSpec Tryz.prog 59 _ qp:=by
 refine FnSpec.of SZh0_ok mixed (U:=0) (I:=fun _=>[]) Tryz.func59 rfl (by kernel_rfl) rfl rfl (by decide +kernel) ?_
 rintro ⟨(x:Int),⟨⟩⟩ -
 unfold A2
 conv=>arg 2;reduce
 simp [qp,dc]
noncomputable def SZh1:Sums:=⟨(59,A_ _ qp)::(57,A_ _ qq)::SZh0.one,SZh0.two,SZh0.lo,SZh0.eqs,SZh0.its,SZh0.imm⟩
theorem SZh1_ok:SumsOK Tryz.prog SZh1:=((SZh0_ok.cons Tryz.func57 (by kernel_rfl) (by kernel_rfl) wS).cons Tryz.func59 (by kernel_rfl) (by kernel_rfl) wR)
def py:Spec [.slice 1 [.int .i64],.fn 57 [] []]:=⟨fun x=>x.1.1<=maxLen,fun ((n,el),((_,c),_))=>.si .i64 (Lo (fun k=>xC (el k).1) n)⟩
noncomputable def AU2:Ad [.slice 1 [.int .i64],.fn 57 [] []]->Cz:=fun ((n,el),((_,c),_))=>[(2,[],fun fr hp=>⟨Nat,fun g=>⟨J1 [.k 5,.t 1,.k 2,.s (.si .i64 (Em g)),.t 10] fr,hp⟩,Nat,fun g=>g,fun g=>g<=Aw (fun k=>xC (el k).1) n,fun g=>Hb n g⟩)]
set_option maxRecDepth 100000 in
theorem px:FnSpec Tryz.prog 81 _ py:=by
 refine FnSpec.of SZh1_ok mixed (U:=0) (I:=AU2) Tryz.func81 rfl (by kernel_rfl) rfl rfl (by decide +kernel) ?_
 rintro ⟨⟨n,el⟩,⟨⟨⟩,c⟩,⟨⟩⟩ hpre
 have hn:n<=maxLen:=hpre
 unfold A2
 conv=>arg 2;reduce
 unfold maxLen at hn
 have hle:=Ek (fun k=>xC (el k).1) n
 simp [py,qq,and_assoc]
 refine ⟨⟨0,rfl,by omega⟩,fun k hk=>⟨fun h1=>?_,fun h1=>?_⟩⟩
 ·refine And.intro h1 ?_
  refine ⟨fun h2=>?_,fun h2=>?_⟩
  ·rw [Lo,K9 hk (by simpa using h2),if_pos h1];try simp
  ·have:=K8 hk (by simpa using h2) h1
   refine ⟨by omega,by omega,k+1,by omega,by omega,by omega⟩
 ·rw [Lo,if_neg (by omega)]
def gkAC:Spec [.slice 1 [.int .i64],.fn 57 [] []]:=⟨fun x=>x.1.1<=maxLen,fun ((n,el),((_,c),_))=>.sb (Hh (fun k=>xC (el k).1) n)⟩
noncomputable def AU1:Sums:=⟨(81,A_ _ py)::SZh1.one,SZh1.two,SZh1.lo,SZh1.eqs,SZh1.its,SZh1.imm⟩
theorem pw:SumsOK Tryz.prog AU1:=(SZh1_ok.cons Tryz.func81 (by kernel_rfl) (by kernel_rfl) px)
set_option maxRecDepth 100000 in
theorem pz:FnSpec Tryz.prog 56 _ gkAC:=by
 refine FnSpec.of pw mixed (U:=0) (I:=fun _=>[]) Tryz.func56 rfl (by kernel_rfl) rfl rfl (by decide +kernel) ?_
 rintro ⟨⟨n,el⟩,⟨⟨⟩,c⟩,⟨⟩⟩ hpre
 unfold A2
 conv=>arg 2;reduce
 have hpre:gkAC.pre ((n,el),(((),c),())):=hpre
 simp [gkAC,py,HQ] at hpre ⊢
 exact hpre
def pu:Spec [.slice 1 [.int .i64],.fn 59 [] []]:=⟨fun x=>x.1.1<=maxLen,fun ((n,el),((_,c),_))=>.si .i64 (Lo (fun k=>MA (go (el k).1)) n)⟩
noncomputable def AU0:Ad [.slice 1 [.int .i64],.fn 59 [] []]->Cz:=fun ((n,el),((_,c),_))=>[(2,[],fun fr hp=>⟨Nat,fun g=>⟨J1 [.k 5,.t 1,.k 2,.s (.si .i64 (Em g)),.t 10] fr,hp⟩,Nat,fun g=>g,fun g=>g<=Aw (fun k=>MA (go (el k).1)) n,fun g=>Hb n g⟩)]
set_option maxRecDepth 100000 in
theorem pt:FnSpec Tryz.prog 82 _ pu:=by
 refine FnSpec.of SZh1_ok mixed (U:=0) (I:=AU0) Tryz.func82 rfl (by kernel_rfl) rfl rfl (by decide +kernel) ?_
 rintro ⟨⟨n,el⟩,⟨⟨⟩,c⟩,⟨⟩⟩ hpre
 have hn:n<=maxLen:=hpre
 unfold A2
 conv=>arg 2;reduce
 unfold maxLen at hn
 have hle:=Ek (fun k=>MA (go (el k).1)) n
 simp [pu,qp,and_assoc]
 refine ⟨⟨0,rfl,by omega⟩,fun k hk=>⟨fun h1=>?_,fun h1=>?_⟩⟩
 ·refine And.intro h1 ?_
  refine ⟨fun h2=>?_,fun h2=>?_⟩
  ·rw [Lo,K9 hk (by simpa using h2),if_pos h1];try simp
  ·have:=K8 hk (by simpa using h2) h1
   refine ⟨by omega,by omega,k+1,by omega,by omega,by omega⟩
 ·rw [Lo,if_neg (by omega)]
def gkBC:Spec [.slice 1 [.int .i64],.fn 59 [] []]:=⟨fun x=>x.1.1<=maxLen,fun ((n,el),((_,c),_))=>.sb (Hh (fun k=>MA (go (el k).1)) n)⟩
noncomputable def AT9:Sums:=⟨(82,A_ _ pu)::SZh1.one,SZh1.two,SZh1.lo,SZh1.eqs,SZh1.its,SZh1.imm⟩
theorem pr:SumsOK Tryz.prog AT9:=(SZh1_ok.cons Tryz.func82 (by kernel_rfl) (by kernel_rfl) pt)
set_option maxRecDepth 100000 in
theorem pv:FnSpec Tryz.prog 58 _ gkBC:=by
 refine FnSpec.of pr mixed (U:=0) (I:=fun _=>[]) Tryz.func58 rfl (by kernel_rfl) rfl rfl (by decide +kernel) ?_
 rintro ⟨⟨n,el⟩,⟨⟨⟩,c⟩,⟨⟩⟩ hpre
 unfold A2
 conv=>arg 2;reduce
 have hpre:gkBC.pre ((n,el),(((),c),())):=hpre
 simp [gkBC,pu,HQ] at hpre ⊢
 exact hpre
noncomputable def SZh2:Sums:=⟨(58,A_ _ gkBC)::(56,A_ _ gkAC)::SZh1.one,SZh1.two,SZh1.lo,SZh1.eqs,SZh1.its,SZh1.imm⟩
theorem SZh2_ok:SumsOK Tryz.prog SZh2:=((SZh1_ok.cons Tryz.func56 (by kernel_rfl) (by kernel_rfl) pz).cons Tryz.func58 (by kernel_rfl) (by kernel_rfl) pv)
noncomputable def SZh3:Sums:=⟨SZh2.one,SZh2.two,SZh2.lo,SZh2.eqs,SZh2.its,[30]⟩
theorem SZh3_ok:SumsOK Tryz.prog SZh3:=SZh2_ok.setImm _
def ke:Spec [.agg Dy]:=⟨fun (x,_)=>Nu x/\GdOK (J4 x),fun _=>.li .i64 0⟩
set_option maxRecDepth 100000 in
theorem vy:FnSpec Tryz.prog 23 _ ke:=by
 refine FnSpec.of SZh3_ok mixed (U:=0) (I:=fun _=>[]) Tryz.func23 rfl (by kernel_rfl) rfl rfl (by decide +kernel) ?_
 rintro ⟨x,⟨⟩⟩ ⟨hp,hk⟩
 obtain ⟨g,rfl⟩:∃ g,x=J6 g:=⟨_,gdC_iff.1 hp⟩
 have hk:GdOK g:=by have:GdOK (J4 (J6 g)):=hk;rwa [Ko] at this
 clear hp
 unfold A2
 conv=>arg 2;reduce
 simp [ke,gkAC,gkBC,dc,and_assoc]
 refine ⟨by unfold CV;decide,fun k hk=>?_,by unfold maxLen;decide,?_⟩
 ·rcases (show k=0\/k=1\/k=2\/k=3\/k=4\/k=5\/k=6\/k=7\/k=8\/k=9\/k=10\/k=11 by omega) with rfl|rfl|rfl|rfl|rfl|rfl|rfl|rfl|rfl|rfl|rfl|rfl<;>simp [Ft,AZ,AW,AO,EO,BL,D1,AD]
 ·obtain ⟨d0,d1,d2,d3,d4,d5,d6,op⟩:=hk
  generalize hA:Hh _ 12=A
  generalize hB:Hh _ 7=B
  have eA:A=false:=by
   rw [<- hA]
   refine anyN_false.2 fun k hk=>?_
   rcases (show k=0\/k=1\/k=2\/k=3\/k=4\/k=5\/k=6\/k=7\/k=8\/k=9\/k=10\/k=11 by omega) with rfl|rfl|rfl|rfl|rfl|rfl|rfl|rfl|rfl|rfl|rfl|rfl<;>simp [Ft,AZ,AW,AO,xC,qB]
  have eB:B=false:=by
   rw [<- hB]
   refine anyN_false.2 fun k hk=>?_
   rcases (show k=0\/k=1\/k=2\/k=3\/k=4\/k=5\/k=6 by omega) with rfl|rfl|rfl|rfl|rfl|rfl|rfl<;>simp [AZ,AW,AO,go]<;>omega
  clear hA hB
  subst eA eB
  simp
  refine ⟨fun k hk=>?_,by unfold maxLen;decide,by unfold go;decide,tkB_iff.2 (by omega)⟩
  rcases (show k=0\/k=1\/k=2\/k=3\/k=4\/k=5\/k=6 by omega) with rfl|rfl|rfl|rfl|rfl|rfl|rfl<;>simp [AZ,AW,AO,EO,BL,D1,AD]
noncomputable def SZh4:Sums:=⟨(23,A_ _ ke)::SZh3.one,SZh3.two,SZh3.lo,SZh3.eqs,SZh3.its,SZh3.imm⟩
theorem SZh4_ok:SumsOK Tryz.prog SZh4:=(SZh3_ok.cons Tryz.func23 (by kernel_rfl) (by kernel_rfl) vy)
@[irreducible]def CU (g:Gd):Mc:=⟨g,0,0,false,false,false,0,0,0,0,0,0,0,0,0,0,0,0,false,false,false,false⟩
theorem YU (g:Gd):(CU g).g=g:=by unfold CU;simp only [Mc.g_mk]
theorem Ty (g:Gd):(CU g).ph=0:=by unfold CU;simp only [Mc.ph_mk]
theorem pM (g:Gd):(CU g).ca=0:=by unfold CU;simp only [Mc.ca_mk]
theorem aq (g:Gd):(CU g).b0=false:=by unfold CU;simp only [Mc.b0_mk]
theorem ap (g:Gd):(CU g).b1=false:=by unfold CU;simp only [Mc.b1_mk]
theorem ao (g:Gd):(CU g).b2=false:=by unfold CU;simp only [Mc.b2_mk]
theorem am (g:Gd):(CU g).h0=0:=by unfold CU;simp only [Mc.h0_mk]
theorem al (g:Gd):(CU g).h1=0:=by unfold CU;simp only [Mc.h1_mk]
theorem ak (g:Gd):(CU g).h2=0:=by unfold CU;simp only [Mc.h2_mk]
theorem aj (g:Gd):(CU g).h3=0:=by unfold CU;simp only [Mc.h3_mk]
theorem ai (g:Gd):(CU g).h4=0:=by unfold CU;simp only [Mc.h4_mk]
theorem ah (g:Gd):(CU g).h5=0:=by unfold CU;simp only [Mc.h5_mk]
theorem ae (g:Gd):(CU g).h6=0:=by unfold CU;simp only [Mc.h6_mk]
theorem ax (g:Gd):(CU g).a0=0:=by unfold CU;simp only [Mc.a0_mk]
theorem au (g:Gd):(CU g).a1=0:=by unfold CU;simp only [Mc.a1_mk]
theorem ar (g:Gd):(CU g).a2=0:=by unfold CU;simp only [Mc.a2_mk]
theorem Tz (g:Gd):(CU g).mi=0:=by unfold CU;simp only [Mc.mi_mk]
theorem Tx (g:Gd):(CU g).ti=0:=by unfold CU;simp only [Mc.ti_mk]
theorem pL (g:Gd):(CU g).d0=false:=by unfold CU;simp only [Mc.d0_mk]
theorem pK (g:Gd):(CU g).d1=false:=by unfold CU;simp only [Mc.d1_mk]
theorem pJ (g:Gd):(CU g).d2=false:=by unfold CU;simp only [Mc.d2_mk]
theorem pI (g:Gd):(CU g).fi=false:=by unfold CU;simp only [Mc.fi_mk]
def pG:SpecN [.agg Dy]:=⟨fun (x,_)=>Nu x/\GdOK (J4 x),fun _=>.tup [.own 0 0,.li .i64 0],fun (x,_)=>Xb (CU (J4 x))⟩
set_option maxRecDepth 100000 in
theorem uY:FnSpecN Tryz.prog 6 _ pG:=by
 refine FnSpecN.of SZh4_ok mixed (U:=0) (I:=fun _=>[]) Tryz.func6 rfl (by kernel_rfl) rfl rfl (by decide +kernel) ?_
 rintro ⟨x,⟨⟩⟩ ⟨hp,hk⟩
 obtain ⟨g,rfl⟩:∃ g,x=J6 g:=⟨_,gdC_iff.1 hp⟩
 have hk:GdOK g:=by have:GdOK (J4 (J6 g)):=hk;rwa [Ko] at this
 clear hp
 unfold A2
 conv=>arg 2;reduce
 simp [pG,ke,Xb,Na,Dh,Ed,Ab,enc,Dy,J6,Lr,ownIn.ownInL,ownIn,A3,AP,AB,YU,Ty,pM,aq,ap,ao,am,al,ak,aj,ai,ah,ae,ax,au,ar,Tz,Tx,pL,pK,pJ,pI]
 exact hk
@[irreducible]def UK (g:Gd) (c:Int):Int:=if c=1 then g.d0 else if c=2 then g.d1 else if c=3 then g.d2 else if c=4 then g.d3 else if c=5 then g.d4 else g.d5
def rctS:Spec [.agg Dy,.int .i64,.int .i64]:=⟨fun (x,(c:Int),(k:Int),_)=>Nu x/\GdOK (J4 x)/\1<=c/\c<=6/\0<=k/\k<=20,fun (x,(c:Int),(k:Int),_)=>.tup [.si .i64 (UK (J4 x) c+k),.li .i64 0]⟩
set_option maxRecDepth 100000 in
theorem ig:FnSpec Tryz.prog 15 _ rctS:=by
 refine FnSpec.of SZh4_ok mixed (U:=0) (I:=fun _=>[]) Tryz.func15 rfl (by kernel_rfl) rfl rfl (by decide +kernel) ?_
 rintro ⟨x,(c:Int),(k:Int),⟨⟩⟩ ⟨hp,hk,(c0:1<=c),(c1:c<=6),(k0:0<=k),(k1:k<=20)⟩
 obtain ⟨g,rfl⟩:∃ g,x=J6 g:=⟨_,gdC_iff.1 hp⟩
 have hk:GdOK g:=by have:GdOK (J4 (J6 g)):=hk;rwa [Ko] at this
 clear hp
 unfold A2
 conv=>arg 2;reduce
 simp [rctS,ke,and_assoc]
 have hk':=hk
 obtain ⟨d0,d1,d2,d3,d4,d5,d6,op⟩:=hk'
 refine ⟨hk,c0,c1,k0,k1,fun _ _ _ _=>?_⟩
 rcases (show c=1\/c=2\/c=3\/c=4\/c=5\/c=6 by omega) with rfl|rfl|rfl|rfl|rfl|rfl<;>simp [UK]<;>omega
@[irreducible]def A7 (lag:Int) (n:Nat) (k a:Int) (b:Bool):Pla:=⟨true,false,false,false,false,false,false,false,false,false,false,false,false,false,false,false,false,false,false,false,false,false,false,false,false,false,false,false,false,false,false,false,false,false,false,false,false,false,false,false,false,false,false,false,false,false,false,false,false,false,false,false,false,false,false,false,false,false,false,false,false,false,false,false,false,0,lag,decide (n=1/\k=3/\a=0),decide (n=1/\k=3/\a=1),decide (n=1/\k=3/\a=2),decide (n=1/\k=4/\a=0),decide (n=1/\k=4/\a=1),decide (n=1/\k=4/\a=2),false,false,false,decide (n=1/\k=2/\a=0),decide (n=1/\k=2/\a=1),decide (n=1/\k=2/\a=2),decide (n=1/\k=1/\a=0),decide (n=1/\k=1/\a=1),decide (n=1/\k=1/\a=2),(if n=1/\k=5/\a=0 then 1 else 0),b,(if n=1/\k=5/\a=1 then 1 else 0),b,(if n=1/\k=5/\a=2 then 1 else 0),b,(if n=1/\k=6/\a=0 then 1 else 0),b,(if n=1/\k=6/\a=1 then 1 else 0),b,(if n=1/\k=6/\a=2 then 1 else 0),b⟩
section
variable (lag:Int) (n:Nat) (k a:Int) (b:Bool)
theorem Tw:(A7 lag n k a b).md=(true):=by unfold A7 Pla.md;rfl
theorem ac:(A7 lag n k a b).fi=(false):=by unfold A7 Pla.fi;rfl
theorem S8:(A7 lag n k a b).r000=(false):=by unfold A7 Pla.r000;rfl
theorem S7:(A7 lag n k a b).r001=(false):=by unfold A7 Pla.r001;rfl
theorem S6:(A7 lag n k a b).r002=(false):=by unfold A7 Pla.r002;rfl
theorem S5:(A7 lag n k a b).r010=(false):=by unfold A7 Pla.r010;rfl
theorem S4:(A7 lag n k a b).r011=(false):=by unfold A7 Pla.r011;rfl
theorem S3:(A7 lag n k a b).r012=(false):=by unfold A7 Pla.r012;rfl
theorem S2:(A7 lag n k a b).r020=(false):=by unfold A7 Pla.r020;rfl
theorem S1:(A7 lag n k a b).r021=(false):=by unfold A7 Pla.r021;rfl
theorem Rz:(A7 lag n k a b).r022=(false):=by unfold A7 Pla.r022;rfl
theorem Ry:(A7 lag n k a b).r030=(false):=by unfold A7 Pla.r030;rfl
theorem Rx:(A7 lag n k a b).r031=(false):=by unfold A7 Pla.r031;rfl
theorem Rw:(A7 lag n k a b).r032=(false):=by unfold A7 Pla.r032;rfl
theorem Rv:(A7 lag n k a b).r040=(false):=by unfold A7 Pla.r040;rfl
theorem Ru:(A7 lag n k a b).r041=(false):=by unfold A7 Pla.r041;rfl
theorem Rt:(A7 lag n k a b).r042=(false):=by unfold A7 Pla.r042;rfl
theorem Rs:(A7 lag n k a b).r050=(false):=by unfold A7 Pla.r050;rfl
theorem Rr:(A7 lag n k a b).r051=(false):=by unfold A7 Pla.r051;rfl
theorem Rq:(A7 lag n k a b).r052=(false):=by unfold A7 Pla.r052;rfl
theorem Rp:(A7 lag n k a b).r060=(false):=by unfold A7 Pla.r060;rfl
theorem Ro:(A7 lag n k a b).r061=(false):=by unfold A7 Pla.r061;rfl
theorem Rn:(A7 lag n k a b).r062=(false):=by unfold A7 Pla.r062;rfl
theorem Rm:(A7 lag n k a b).r070=(false):=by unfold A7 Pla.r070;rfl
theorem Rl:(A7 lag n k a b).r071=(false):=by unfold A7 Pla.r071;rfl
theorem Rk:(A7 lag n k a b).r072=(false):=by unfold A7 Pla.r072;rfl
theorem Rj:(A7 lag n k a b).r080=(false):=by unfold A7 Pla.r080;rfl
theorem Ri:(A7 lag n k a b).r081=(false):=by unfold A7 Pla.r081;rfl
theorem Rh:(A7 lag n k a b).r082=(false):=by unfold A7 Pla.r082;rfl
theorem Rg:(A7 lag n k a b).r090=(false):=by unfold A7 Pla.r090;rfl
theorem Rf:(A7 lag n k a b).r091=(false):=by unfold A7 Pla.r091;rfl
theorem Re:(A7 lag n k a b).r092=(false):=by unfold A7 Pla.r092;rfl
theorem Rd:(A7 lag n k a b).r100=(false):=by unfold A7 Pla.r100;rfl
theorem Rc:(A7 lag n k a b).r101=(false):=by unfold A7 Pla.r101;rfl
theorem Rb:(A7 lag n k a b).r102=(false):=by unfold A7 Pla.r102;rfl
theorem Ra:(A7 lag n k a b).r110=(false):=by unfold A7 Pla.r110;rfl
theorem RZ:(A7 lag n k a b).r111=(false):=by unfold A7 Pla.r111;rfl
theorem RY:(A7 lag n k a b).r112=(false):=by unfold A7 Pla.r112;rfl
theorem RX:(A7 lag n k a b).r120=(false):=by unfold A7 Pla.r120;rfl
theorem RW:(A7 lag n k a b).r121=(false):=by unfold A7 Pla.r121;rfl
theorem RV:(A7 lag n k a b).r122=(false):=by unfold A7 Pla.r122;rfl
theorem RU:(A7 lag n k a b).r130=(false):=by unfold A7 Pla.r130;rfl
theorem RT:(A7 lag n k a b).r131=(false):=by unfold A7 Pla.r131;rfl
theorem RS:(A7 lag n k a b).r132=(false):=by unfold A7 Pla.r132;rfl
theorem RR:(A7 lag n k a b).r140=(false):=by unfold A7 Pla.r140;rfl
theorem RQ:(A7 lag n k a b).r141=(false):=by unfold A7 Pla.r141;rfl
theorem RP:(A7 lag n k a b).r142=(false):=by unfold A7 Pla.r142;rfl
theorem RN:(A7 lag n k a b).r150=(false):=by unfold A7 Pla.r150;rfl
theorem RM:(A7 lag n k a b).r151=(false):=by unfold A7 Pla.r151;rfl
theorem RL:(A7 lag n k a b).r152=(false):=by unfold A7 Pla.r152;rfl
theorem RK:(A7 lag n k a b).r160=(false):=by unfold A7 Pla.r160;rfl
theorem RJ:(A7 lag n k a b).r161=(false):=by unfold A7 Pla.r161;rfl
theorem RI:(A7 lag n k a b).r162=(false):=by unfold A7 Pla.r162;rfl
theorem RH:(A7 lag n k a b).r170=(false):=by unfold A7 Pla.r170;rfl
theorem RG:(A7 lag n k a b).r171=(false):=by unfold A7 Pla.r171;rfl
theorem RF:(A7 lag n k a b).r172=(false):=by unfold A7 Pla.r172;rfl
theorem RE:(A7 lag n k a b).r180=(false):=by unfold A7 Pla.r180;rfl
theorem RD:(A7 lag n k a b).r181=(false):=by unfold A7 Pla.r181;rfl
theorem RC:(A7 lag n k a b).r182=(false):=by unfold A7 Pla.r182;rfl
theorem RB:(A7 lag n k a b).r190=(false):=by unfold A7 Pla.r190;rfl
theorem RA:(A7 lag n k a b).r191=(false):=by unfold A7 Pla.r191;rfl
theorem R_:(A7 lag n k a b).r192=(false):=by unfold A7 Pla.r192;rfl
theorem R9:(A7 lag n k a b).r200=(false):=by unfold A7 Pla.r200;rfl
theorem R8:(A7 lag n k a b).r201=(false):=by unfold A7 Pla.r201;rfl
theorem R7:(A7 lag n k a b).r202=(false):=by unfold A7 Pla.r202;rfl
theorem Nk:(A7 lag n k a b).ix=(0):=by unfold A7 Pla.ix;rfl
theorem K0:(A7 lag n k a b).lg=(lag):=by unfold A7 Pla.lg;rfl
theorem P6:(A7 lag n k a b).we0=(decide (n=1/\k=3/\a=0)):=by unfold A7 Pla.we0;rfl
theorem P5:(A7 lag n k a b).we1=(decide (n=1/\k=3/\a=1)):=by unfold A7 Pla.we1;rfl
theorem P4:(A7 lag n k a b).we2=(decide (n=1/\k=3/\a=2)):=by unfold A7 Pla.we2;rfl
theorem Vu:(A7 lag n k a b).st0=(decide (n=1/\k=4/\a=0)):=by unfold A7 Pla.st0;rfl
theorem Vt:(A7 lag n k a b).st1=(decide (n=1/\k=4/\a=1)):=by unfold A7 Pla.st1;rfl
theorem Vs:(A7 lag n k a b).st2=(decide (n=1/\k=4/\a=2)):=by unfold A7 Pla.st2;rfl
theorem Vy:(A7 lag n k a b).sh0=(false):=by unfold A7 Pla.sh0;rfl
theorem Vw:(A7 lag n k a b).sh1=(false):=by unfold A7 Pla.sh1;rfl
theorem Vv:(A7 lag n k a b).sh2=(false):=by unfold A7 Pla.sh2;rfl
theorem P9:(A7 lag n k a b).mu0=(decide (n=1/\k=2/\a=0)):=by unfold A7 Pla.mu0;rfl
theorem P8:(A7 lag n k a b).mu1=(decide (n=1/\k=2/\a=1)):=by unfold A7 Pla.mu1;rfl
theorem P7:(A7 lag n k a b).mu2=(decide (n=1/\k=2/\a=2)):=by unfold A7 Pla.mu2;rfl
theorem PB:(A7 lag n k a b).li0=(decide (n=1/\k=1/\a=0)):=by unfold A7 Pla.li0;rfl
theorem PA:(A7 lag n k a b).li1=(decide (n=1/\k=1/\a=1)):=by unfold A7 Pla.li1;rfl
theorem P_:(A7 lag n k a b).li2=(decide (n=1/\k=1/\a=2)):=by unfold A7 Pla.li2;rfl
theorem Vo:(A7 lag n k a b).wn0=((if n=1/\k=5/\a=0 then 1 else 0)):=by unfold A7 Pla.wn0;rfl
theorem Vr:(A7 lag n k a b).wb0=(b):=by unfold A7 Pla.wb0;rfl
theorem Vn:(A7 lag n k a b).wn1=((if n=1/\k=5/\a=1 then 1 else 0)):=by unfold A7 Pla.wn1;rfl
theorem Vq:(A7 lag n k a b).wb1=(b):=by unfold A7 Pla.wb1;rfl
theorem Vm:(A7 lag n k a b).wn2=((if n=1/\k=5/\a=2 then 1 else 0)):=by unfold A7 Pla.wn2;rfl
theorem Vp:(A7 lag n k a b).wb2=(b):=by unfold A7 Pla.wb2;rfl
theorem W5:(A7 lag n k a b).kn0=((if n=1/\k=6/\a=0 then 1 else 0)):=by unfold A7 Pla.kn0;rfl
theorem W8:(A7 lag n k a b).kb0=(b):=by unfold A7 Pla.kb0;rfl
theorem W1:(A7 lag n k a b).kn1=((if n=1/\k=6/\a=1 then 1 else 0)):=by unfold A7 Pla.kn1;rfl
theorem W7:(A7 lag n k a b).kb1=(b):=by unfold A7 Pla.kb1;rfl
theorem Vz:(A7 lag n k a b).kn2=((if n=1/\k=6/\a=2 then 1 else 0)):=by unfold A7 Pla.kn2;rfl
theorem W6:(A7 lag n k a b).kb2=(b):=by unfold A7 Pla.kb2;rfl
end
def jG:SpecN [.int .i64,.slice 3 [.int .i64,.int .i64,.bool]]:=⟨fun ((lag:Int),(n,el),_)=>0<=lag/\lag<=4/\n<=1/\(n=1->1<=(el 0).1/\(el 0).1<=6/\0<=(el 0).2.1/\(el 0).2.1<=2/\((el 0).2.2.1=true->5<=(el 0).1)),
 fun _=>.tup [.own 0 0,.li .i64 0],fun ((lag:Int),(n,el),_)=>NH (A7 lag n (el 0).1 (el 0).2.1 (el 0).2.2.1)⟩
def AS6:Ad [.int .i64,.slice 3 [.int .i64,.int .i64,.bool]]->Cz:=fun _=>[(2097165,[(10,0,0)],fun _ _=>Gp)]
set_option maxRecDepth 100000 in
set_option maxHeartbeats 8000000 in
theorem uX:FnSpecN Tryz.prog 7 _ jG:=by
 refine FnSpecN.ofLt [false,true] SZ0_ok mixed (U:=3) (I:=AS6) Tryz.func7 rfl (by kernel_rfl) rfl rfl (by decide +kernel) ?_
 rintro ⟨(lag:Int),⟨n,el⟩,⟨⟩⟩ ⟨(g0:0<=lag),(g1:lag<=4),(hn:n<=1),h⟩
 obtain ⟨K,A,B,rfl⟩:∃ (K A:Nat->Int) (B:Nat->Bool),el=fun k=>(K k,A k,B k,()):=⟨fun k=>(el k).1,fun k=>(el k).2.1,fun k=>(el k).2.2.1,rfl⟩
 have h:n=1->1<=K 0/\K 0<=6/\0<=A 0/\A 0<=2/\(B 0=true->5<=K 0):=h
 rcases (show n=0\/n=1 by omega) with rfl|rfl
 ·unfold A2
  conv=>arg 2;reduce
  simp [jG,NH,Ha,Dh,Ed,A3,AP,AB,Ar,Tw,ac,S8,S7,S6,S5,S4,S3,S2,S1,Rz,Ry,Rx,Rw,Rv,Ru,Rt,Rs,Rr,Rq,Rp,Ro,Rn,Rm,Rl,Rk,Rj,Ri,Rh,Rg,Rf,Re,Rd,Rc,Rb,Ra,RZ,RY,RX,RW,RV,RU,RT,RS,RR,RQ,RP,RN,RM,RL,RK,RJ,RI,RH,RG,RF,RE,RD,RC,RB,RA,R_,R9,R8,R7,Nk,K0,P6,P5,P4,Vu,Vt,Vs,Vy,Vw,Vv,P9,P8,P7,PB,PA,P_,Vo,Vr,Vn,Vq,Vm,Vp,W5,W8,W1,W7,Vz,W6]
  omega
 ·unfold A2
  conv=>arg 2;reduce
  obtain ⟨k0,k1,a0,a1,hb⟩:=h rfl
  simp [jG,NH,Ha,Dh,Ed,A3,AP,AB,Ar,Tw,ac,S8,S7,S6,S5,S4,S3,S2,S1,Rz,Ry,Rx,Rw,Rv,Ru,Rt,Rs,Rr,Rq,Rp,Ro,Rn,Rm,Rl,Rk,Rj,Ri,Rh,Rg,Rf,Re,Rd,Rc,Rb,Ra,RZ,RY,RX,RW,RV,RU,RT,RS,RR,RQ,RP,RN,RM,RL,RK,RJ,RI,RH,RG,RF,RE,RD,RC,RB,RA,R_,R9,R8,R7,Nk,K0,P6,P5,P4,Vu,Vt,Vs,Vy,Vw,Vv,P9,P8,P7,PB,PA,P_,Vo,Vr,Vn,Vq,Vm,Vp,W5,W8,W1,W7,Vz,W6]
  have hK:K 0=1\/K 0=2\/K 0=3\/K 0=4\/K 0=5\/K 0=6:=by omega
  have hA:A 0=0\/A 0=1\/A 0=2:=by omega
  cases hB:B 0<;>rcases hK with h1|h1|h1|h1|h1|h1<;>rcases hA with h2|h2|h2<;>simp [h1,h2,hB,DV,LX,Ar] at hb ⊢ <;> omega
end
end Abs
end Go.Proofs.YtccgngldoinokaaGreat

namespace Go.Proofs.YtccgngldoinokaaGreat
namespace Abs
open Go Go.RowKit
noncomputable section
attribute [local irreducible] A2
@[irreducible]def QM (x:Int):Int:=1+x % 5
@[irreducible]def qZ (x:Int):Int:=1+x % 8
@[irreducible]def QO (a0 a1 a2 a3 a4 a5 a6 o:Int):Gd:=⟨QM a0,QM a1,QM a2,QM a3,QM a4,QM a5,QM a6,qZ o⟩
theorem fy (a0 a1 a2 a3 a4 a5 a6 o:Int):(QO a0 a1 a2 a3 a4 a5 a6 o).d0=QM a0:=by unfold QO;simp only [Gd.d0_mk]
theorem fx (a0 a1 a2 a3 a4 a5 a6 o:Int):(QO a0 a1 a2 a3 a4 a5 a6 o).d1=QM a1:=by unfold QO;simp only [Gd.d1_mk]
theorem fv (a0 a1 a2 a3 a4 a5 a6 o:Int):(QO a0 a1 a2 a3 a4 a5 a6 o).d2=QM a2:=by unfold QO;simp only [Gd.d2_mk]
theorem fu (a0 a1 a2 a3 a4 a5 a6 o:Int):(QO a0 a1 a2 a3 a4 a5 a6 o).d3=QM a3:=by unfold QO;simp only [Gd.d3_mk]
theorem Xe (a0 a1 a2 a3 a4 a5 a6 o:Int):(QO a0 a1 a2 a3 a4 a5 a6 o).d4=QM a4:=by unfold QO;simp only [Gd.d4_mk]
theorem ft (a0 a1 a2 a3 a4 a5 a6 o:Int):(QO a0 a1 a2 a3 a4 a5 a6 o).d5=QM a5:=by unfold QO;simp only [Gd.d5_mk]
theorem fq (a0 a1 a2 a3 a4 a5 a6 o:Int):(QO a0 a1 a2 a3 a4 a5 a6 o).d6=QM a6:=by unfold QO;simp only [Gd.d6_mk]
theorem fo (a0 a1 a2 a3 a4 a5 a6 o:Int):(QO a0 a1 a2 a3 a4 a5 a6 o).op=qZ o:=by unfold QO;simp only [Gd.op_mk]
theorem fp {a0 a1 a2 a3 a4 a5 a6 o:Int} (h0:0<=a0) (h1:0<=a1) (h2:0<=a2) (h3:0<=a3) (h4:0<=a4) (h5:0<=a5) (h6:0<=a6) (h7:0<=o):GdOK (QO a0 a1 a2 a3 a4 a5 a6 o):=by
 have d:∀ x:Int,0<=x->1<=QM x/\QM x<=5:=fun x h=>by unfold QM;omega
 have e:1<=qZ o/\qZ o<=8:=by unfold qZ;omega
 exact ⟨by rw [fy];exact d _ h0,by rw [fx];exact d _ h1,by rw [fv];exact d _ h2,by rw [fu];exact d _ h3,by rw [Xe];exact d _ h4,by rw [ft];exact d _ h5,by rw [fq];exact d _ h6,by rw [fo];exact e⟩
@[reducible]def my:Sh:=.agg [.int .u8,.int .u8,.int .u8,.int .u8,.int .u8,.int .u8,.int .u8]
def d_:Spec [my,.int .u8]:=⟨fun (((a0:Int),(a1:Int),(a2:Int),(a3:Int),(a4:Int),(a5:Int),(a6:Int),_),(o:Int),_)=>(0<=a0/\a0<=255)/\(0<=a1/\a1<=255)/\(0<=a2/\a2<=255)/\(0<=a3/\a3<=255)/\(0<=a4/\a4<=255)/\(0<=a5/\a5<=255)/\(0<=a6/\a6<=255)/\0<=o/\o<=255,
 fun (((a0:Int),(a1:Int),(a2:Int),(a3:Int),(a4:Int),(a5:Int),(a6:Int),_),(o:Int),_)=>.agg (Lr (QO a0 a1 a2 a3 a4 a5 a6 o))⟩
set_option maxRecDepth 100000 in
set_option maxHeartbeats 2000000 in
theorem fm:FnSpec Tryz.prog 4 _ d_:=by
 refine FnSpec.of SZ0_ok mixed (U:=9) (I:=fun _=>[]) Tryz.func4 rfl (by kernel_rfl) rfl rfl (by decide +kernel) ?_
 rintro ⟨⟨(a0:Int),(a1:Int),(a2:Int),(a3:Int),(a4:Int),(a5:Int),(a6:Int),⟨⟩⟩,(o:Int),⟨⟩⟩ hpre
 have hpre:(0<=a0/\a0<=255)/\(0<=a1/\a1<=255)/\(0<=a2/\a2<=255)/\(0<=a3/\a3<=255)/\(0<=a4/\a4<=255)/\(0<=a5/\a5<=255)/\(0<=a6/\a6<=255)/\0<=o/\o<=255:=hpre
 unfold A2
 conv=>arg 2;reduce
 simp [d_,Lr,fy,fx,fv,fu,Xe,ft,fq,fo,O2,IntKind.min,IntKind.max,IntKind.signed,IntKind.bits,and_assoc]
 have e5:∀ x:Int,0<=x->1+x.tmod 5=QM x/\1<=QM x/\QM x<=5:=fun x h=>by unfold QM;rw [Int.tmod_eq_emod_of_nonneg h];omega
 have e8:1+o.tmod 8=qZ o/\1<=qZ o/\qZ o<=8:=by unfold qZ;rw [Int.tmod_eq_emod_of_nonneg (by omega)];omega
 have b0:=e5 a0 (by omega)
 have b1:=e5 a1 (by omega)
 have b2:=e5 a2 (by omega)
 have b3:=e5 a3 (by omega)
 have b4:=e5 a4 (by omega)
 have b5:=e5 a5 (by omega)
 have b6:=e5 a6 (by omega)
 rw [b0.1,b1.1,b2.1,b3.1,b4.1,b5.1,b6.1,e8.1]
 omega
@[irreducible]def Ug (k:Int):Int:=k % 7
@[irreducible]def nW (a:Int):Int:=a % 3
@[irreducible]def zP (k:Int) (b:Bool):Bool:=b&&(decide (Ug k=5)||decide (Ug k=6))
@[irreducible]def nU (k:Int):Nat:=if Ug k=0 then 0 else 1
def nS:Spec [.agg [.int .u8,.int .u8,.bool]]:=⟨fun (((k:Int),(a:Int),_,_),_)=>0<=k/\k<=255/\0<=a/\a<=255,fun (((k:Int),(a:Int),(b:Bool),_),_)=>.slc (.sym (nU k)) 3 (fun _=>[.si .i64 (Ug k),.si .i64 (nW a),.sb (zP k b)])⟩
set_option maxRecDepth 100000 in
theorem to:FnSpec Tryz.prog 8 _ nS:=by
 refine FnSpec.of SZ0_ok mixed (U:=0) (I:=fun _=>[]) Tryz.func8 rfl (by kernel_rfl) rfl rfl (by decide +kernel) ?_
 rintro ⟨⟨(k:Int),(a:Int),(b:Bool),⟨⟩⟩,⟨⟩⟩ ⟨(k0:0<=k),(k1:k<=255),(a0:0<=a),(a1:a<=255)⟩
 unfold A2
 conv=>arg 2;reduce
 simp [nS,O2,IntKind.min,IntKind.max,IntKind.signed,IntKind.bits,Ar,A3,AP,AB,and_assoc]
 have ek:k.tmod 7=Ug k:=by unfold Ug;rw [Int.tmod_eq_emod_of_nonneg k0]
 have ea:a.tmod 3=nW a:=by unfold nW;rw [Int.tmod_eq_emod_of_nonneg a0]
 rw [ek,ea]
 refine ⟨by omega,by omega,by omega,by omega,fun h=>by unfold nU;rw [if_pos h],fun h=>⟨fun h1 h2=>⟨h1,h2⟩,by unfold nU;rw [if_neg h],fun j hj=>?_⟩⟩
 have hn:nU k=1:=by unfold nU;rw [if_neg h]
 obtain rfl:j=0:=by omega
 have e5:(Ug k == 5)=decide (Ug k=5):=by rw [Bool.eq_iff_iff];simp
 have e6:(Ug k == 6)=decide (Ug k=6):=by rw [Bool.eq_iff_iff];simp
 unfold zP
 rw [e5,e6]
 simp [AZ,AW,E3,LY]
@[irreducible]def FY (t:Tru) (k:Nat):Bool:=match k with
 | 0=>decide (4105000<t.x0)
 | 1=>decide (t.x1<3195000)
 | 2=>decide (100500<t.x2)
 | 3=>decide (t.x2 < -60500)
 | 4=>decide (321000<t.x3)
 | _=>decide (t.x4<97500)
def oT:Spec [.agg Dy,.agg V2]:=⟨fun (x,_)=>Nu x,fun (_,t,_)=>.agg [.sb (FY (Hm t) 0),.sb (FY (Hm t) 1),.sb (FY (Hm t) 2),.sb (FY (Hm t) 3),.sb (FY (Hm t) 4),.sb (FY (Hm t) 5)]⟩
set_option maxRecDepth 100000 in
set_option maxHeartbeats 2000000 in
theorem uP:FnSpec Tryz.prog 14 _ oT:=by
 refine FnSpec.of SZ0_ok mixed (U:=0) (I:=fun _=>[]) Tryz.func14 rfl (by kernel_rfl) rfl rfl (by decide +kernel) ?_
 rintro ⟨x,t,⟨⟩⟩ (hp:Nu x)
 obtain ⟨g,rfl⟩:∃ g,x=J6 g:=⟨_,gdC_iff.1 hp⟩
 obtain ⟨t,rfl⟩:∃ z,t=Zb z:=⟨_,gl t⟩
 clear hp
 unfold A2
 conv=>arg 2;reduce
 simp [oT,and_assoc]
 unfold FY
 exact ⟨rfl,rfl,rfl,rfl,rfl,rfl⟩
end
end Abs
end Go.Proofs.YtccgngldoinokaaGreat

namespace Go.Proofs.YtccgngldoinokaaGreat
namespace Abs
open Go Go.RowKit
noncomputable section
attribute [local irreducible] A2
noncomputable def SZy:Sums:=⟨(47,A_ _ W4.w4S)::(15,A_ _ rctS)::(4,A_ _ d_)::SZh4.one,SZh4.two,SZh4.lo,SZh4.eqs,SZh4.its,SZh4.imm⟩
theorem xU:SumsOK Tryz.prog SZy:=(((SZh4_ok.cons Tryz.func4 (by kernel_rfl) (by kernel_rfl) fm).cons Tryz.func15 (by kernel_rfl) (by kernel_rfl) ig).cons Tryz.func47 (by kernel_rfl) (by kernel_rfl) W4.w4_ok)
def w5S:Spec []:=⟨fun _=>True,fun _=>.sb true⟩
set_option maxRecDepth 100000 in
theorem yw:FnSpec Tryz.prog 17 _ w5S:=by
 refine FnSpec.of xU mixed (U:=0) (I:=fun _=>[]) Tryz.func17 rfl (by kernel_rfl) rfl rfl (by decide +kernel) ?_
 rintro ⟨⟩ -
 unfold A2
 conv=>arg 2;reduce
 simp [w5S,W4.w4S,d_,rctS,Nu,and_assoc]
 have e:UK (QO 2 2 2 2 2 2 2 3) 5=3:=by unfold UK;simp [Xe,QM]
 refine ⟨fp (by omega) (by omega) (by omega) (by omega) (by omega) (by omega) (by omega) (by omega),?_⟩
 rw [e];rfl
end
end Abs
end Go.Proofs.YtccgngldoinokaaGreat

namespace Go.Proofs.YtccgngldoinokaaGreat
namespace Abs
open Go Go.RowKit
noncomputable section
end
end Abs
end Go.Proofs.YtccgngldoinokaaGreat

namespace Go.Proofs.YtccgngldoinokaaGreat
open Go.Shelf
def dJ:Go.Shelf.Ren:=⟨fun|5=>92|8=>107|7=>106|19=>125|20=>126|10=>116|11=>117|12=>118|13=>119|14=>120|15=>121|16=>122|17=>123|18=>124|30=>131|31=>132|32=>133|33=>134|34=>135|35=>136|40=>139|n=>n,fun|23=>36|25=>2|3=>3|32=>206|22=>36|0=>0|44=>228|46=>195|4=>4|36=>220|35=>219|41=>225|5=>5|9=>9|53=>234|57=>238|63=>240|64=>241|n=>n,fun|n=>n⟩
theorem iC:Go.Proofs.SlLaysM.n5 Tryz.prog dJ:={
 mixed:=by kernel_rfl
 f5:=⟨Tryz.f92.name,by decide,Tryz.func92.trans (congrArg some (by kernel_rfl))⟩
 f7:=⟨Tryz.f106.name,by decide,Tryz.func106.trans (congrArg some (by kernel_rfl))⟩
 f8:=Tryz.func107.trans (congrArg some (by kernel_rfl))
 f10:=⟨Tryz.f116.name,by decide,Tryz.func116.trans (congrArg some (by kernel_rfl))⟩
 f11:=⟨Tryz.f117.name,by decide,Tryz.func117.trans (congrArg some (by kernel_rfl))⟩
 f12:=⟨Tryz.f118.name,by decide,Tryz.func118.trans (congrArg some (by kernel_rfl))⟩
 f13:=⟨Tryz.f119.name,by decide,Tryz.func119.trans (congrArg some (by kernel_rfl))⟩
 f14:=⟨Tryz.f120.name,by decide,Tryz.func120.trans (congrArg some (by kernel_rfl))⟩
 f15:=⟨Tryz.f121.name,by decide,Tryz.func121.trans (congrArg some (by kernel_rfl))⟩
 f16:=⟨Tryz.f122.name,by decide,Tryz.func122.trans (congrArg some (by kernel_rfl))⟩
 f17:=⟨Tryz.f123.name,by decide,Tryz.func123.trans (congrArg some (by kernel_rfl))⟩
 f18:=⟨Tryz.f124.name,by decide,Tryz.func124.trans (congrArg some (by kernel_rfl))⟩
 f19:=Tryz.func125.trans (congrArg some (by kernel_rfl))
 f20:=Tryz.func126.trans (congrArg some (by kernel_rfl))
 f30:=⟨Tryz.f131.name,by decide,Tryz.func131.trans (congrArg some (by kernel_rfl))⟩
 f31:=Tryz.func132.trans (congrArg some (by kernel_rfl))
 f32:=Tryz.func133.trans (congrArg some (by kernel_rfl))
 f33:=⟨Tryz.f134.name,by decide,Tryz.func134.trans (congrArg some (by kernel_rfl))⟩
 f34:=⟨Tryz.f135.name,by decide,Tryz.func135.trans (congrArg some (by kernel_rfl))⟩
 f35:=⟨Tryz.f136.name,by decide,Tryz.func136.trans (congrArg some (by kernel_rfl))⟩
 f40:=⟨Tryz.f139.name,by decide,Tryz.func139.trans (congrArg some (by kernel_rfl))⟩
 t0:=Tryz.underlying0
 a0:=Tryz.isAgg0
 z0:=Tryz.sizeOf0
 v0:=Tryz.zeroValue0
 t3:=Tryz.underlying3
 a3:=Tryz.isAgg3
 z3:=Tryz.sizeOf3
 v3:=Tryz.zeroValue3
 t4:=Tryz.underlying4
 a4:=Tryz.isAgg4
 z4:=Tryz.sizeOf4
 v4:=Tryz.zeroValue4
 t5:=Tryz.underlying5
 a5:=Tryz.isAgg5
 z5:=Tryz.sizeOf5
 v5:=Tryz.zeroValue5
 t9:=Tryz.underlying9
 a9:=Tryz.isAgg9
 z9:=Tryz.sizeOf9
 v9:=Tryz.zeroValue9
 t22:=Tryz.underlying36
 a22:=Tryz.isAgg36
 z22:=Tryz.sizeOf36
 v22:=Tryz.zeroValue36
 t23:=Tryz.underlying36
 a23:=Tryz.isAgg36
 z23:=Tryz.sizeOf36
 v23:=Tryz.zeroValue36
 t25:=Tryz.underlying2
 a25:=Tryz.isAgg2
 z25:=Tryz.sizeOf2
 v25:=Tryz.zeroValue2
 t32:=Tryz.underlying206
 a32:=Tryz.isAgg206
 z32:=Tryz.sizeOf206
 v32:=Tryz.zeroValue206
 t35:=Tryz.underlying219
 a35:=Tryz.isAgg219
 z35:=Tryz.sizeOf219
 v35:=Tryz.zeroValue219
 t36:=Tryz.underlying220
 a36:=Tryz.isAgg220
 z36:=Tryz.sizeOf220
 v36:=Tryz.zeroValue220
 t41:=Tryz.underlying225
 a41:=Tryz.isAgg225
 z41:=Tryz.sizeOf225
 v41:=Tryz.zeroValue225
 t44:=Tryz.underlying228
 a44:=Tryz.isAgg228
 z44:=Tryz.sizeOf228
 v44:=Tryz.zeroValue228
 t46:=Tryz.underlying195
 a46:=Tryz.isAgg195
 z46:=Tryz.sizeOf195
 v46:=Tryz.zeroValue195
 t53:=Tryz.underlying234
 a53:=Tryz.isAgg234
 z53:=Tryz.sizeOf234
 v53:=Tryz.zeroValue234
 t57:=Tryz.underlying238
 a57:=Tryz.isAgg238
 z57:=Tryz.sizeOf238
 v57:=Tryz.zeroValue238
 t63:=Tryz.underlying240
 a63:=Tryz.isAgg240
 z63:=Tryz.sizeOf240
 v63:=Tryz.zeroValue240
 t64:=Tryz.underlying241
 a64:=Tryz.isAgg241
 z64:=Tryz.sizeOf241
 v64:=Tryz.zeroValue241
}
end Go.Proofs.YtccgngldoinokaaGreat

namespace Go.Proofs.YtccgngldoinokaaGreat
namespace Abs
open Go Go.RowKit Go.Sort
theorem cK {l:List Int} {k:Nat} (h:k<l.length):l.getD k 0=l[k]:=by simp [List.getD,h]
theorem uA {P:Program} {f:FuncId} {h:List Int->List Int} (hl:∀ zs,(h zs).length=zs.length)
  (hc:∀ (blk cap:Nat) (zs:List Int) (w:World),Holds (Value.int .i64) w blk 0 zs.toArray->blk<w.heap.size->zs.length<4611686018427387904 ->
   Calls P f #[.slice (some ⟨blk,0,none⟩) zs.length cap] w fun e w'=>e=.returned (.tuple #[])/\∃ n os,w'=grow (putRow (Value.int .i64) (Sort.ahead w n) blk 0 (h zs).toArray) os)
  (h0:∀ cap w,Calls P f #[.slice none 0 cap] w fun e w'=>e=.returned (.tuple #[])/\w'=w)
  (e:TypeId) (n:LN) (v:Nat->Int) (hsmall:n.val<4611686018427387904) :
  Fn P f [.row 0] [.row e 1 n (fun k=>[.si .i64 (v k)])] (.tup []) [.row e 1 n (fun k=>[.si .i64 ((h ((List.range n.val).map v)).getD k 0)])]:=by
 intro C w vs hO hH ha
 have hno:∀ i p,1<=i->C.ρ i=some p->False:=fun i p hi hp=>by
  have:=hH.live i p hp
  obtain ⟨j,rfl⟩:∃ j,i=j+1:=⟨i-1,by omega⟩
  rw [show A3 [Blk.row e 1 n (fun k=>[.si .i64 (v k)])] (j+1)=.dead by cases j<;>rfl] at this
  cases p<;>exact this.elim
 cases ha with
 | cons _ _ x ws hx hws =>
 cases hws
 cases hx with
 | rown _ h1 =>
   have hb:=hH.live 0 _ h1
   refine (h0 0 w).mono ?_
   rintro e' w' ⟨rfl,rfl⟩
   refine ⟨_,C,rfl,⟨fun i p hi=>?_,hH.inj,hH.fresh,hH.ilt,hH.sub⟩,.tup _ _ .nil,⟨rfl,rfl,rfl,Nat.le_refl _,fun _ _ _=>rfl,fun _ h=>h,fun _ h=>.inl h,fun _ _=>rfl,fun i b c m hi hp=>(hno i _ hi hp).elim,fun b x hb=>by rw [hO b] at hb;cases hb⟩⟩
   cases i with
   | zero =>
     rw [h1] at hi
     injection hi with hi
     subst hi
     exact hb
   | succ i=>exact (hno (i+1) p (by omega) hi).elim
 | row _ b c m h1 =>
   obtain ⟨hn,hmc,⟨h01,hcap⟩,cs,vs',hh,hsz,hcl⟩:=hH.live 0 _ h1
   subst hn
   have hzl:((List.range n.val).map v).length=n.val:=by simp
   have hcell:∀ k,k<n.val->cs[k]? = some (.int .i64 (v k)):=fun k hk=>by
    obtain ⟨hr,_,hlen,hcs⟩:=hcl k hk
    have:=hcs 0 (by omega)
    rw [Nat.mul_one,Nat.add_zero] at this
    rw [this]
    generalize vs' k=u at hr
    cases hr with
    | cons _ _ y ys h2 h3=>cases h2;rfl
   have ht:cs.toList.take ((List.range n.val).map v).length=((List.range n.val).map v).map (Value.int .i64):=by
    apply List.ext_getElem?
    intro j
    by_cases hj:j<n.val
    ·rw [List.getElem?_take_of_lt (by rw [hzl];exact hj),Array.getElem?_toList,hcell j hj,List.getElem?_map,List.getElem?_map,List.getElem?_range hj]
     rfl
    ·rw [List.getElem?_take_eq_none (by omega),List.getElem?_eq_none (by rw [List.length_map,hzl];omega)]
   have hblt:=(hH.fresh 0 b c n.val h1).1
   have hcall:=hc b c ((List.range n.val).map v) w (holds_of_blockI hh ht) hblt (by rw [hzl];exact hsmall)
   rw [hzl] at hcall
   refine hcall.mono ?_
   rintro e' w' ⟨rfl,nn,os,rfl⟩
   have hs:=heap_sortedI (n:=nn) (os:=os) (h ((List.range n.val).map v)).toArray hh
   have hg:=grownBy_sortedI (w:=w) (g:=b) (n:=nn) (os:=os) (h ((List.range n.val).map v)).toArray
   have htl:(h ((List.range n.val).map v)).length=n.val:=by rw [hl,hzl]
   have htk:=take_putCellsI cs (h ((List.range n.val).map v)) (by rw [htl,hsz,Nat.mul_one];exact hmc)
   generalize (h ((List.range n.val).map v))=ts at *
   generalize grow (putRow (Value.int IntKind.i64) (Sort.ahead w nn) b 0 ts.toArray) os=w' at *
   obtain ⟨g1,g2,g3,g4,g5⟩:=hg
   refine ⟨_,C,rfl,⟨fun i p hi=>?_,hH.inj,fun i b' c' n' hi=>?_,fun b' hb'=>Nat.lt_of_lt_of_le (hH.ilt b' hb') g4,fun b' x hb'=>by rw [hO b'] at hb';cases hb'⟩,.tup _ _ .nil,⟨g1,g2,g3,g4,fun k hk hne=>g5 k hk fun hkb=>?_,fun _ h=>h,fun _ h=>.inl h,fun _ _=>rfl,fun i b c m hi hp=>(hno i _ hi hp).elim,fun b x hb=>by rw [hO b] at hb;cases hb⟩⟩
   ·cases i with
    | zero =>
      rw [h1] at hi
      injection hi with hi
      subst hi
      refine ⟨rfl,hmc,⟨h01,hcap⟩,_,fun k=>[.int .i64 (ts.getD k 0)],hs,by simp [putCells,hsz],fun k hk=>⟨.cons _ _ _ _ (.si _ _) .nil,rfl,rfl,fun j hj=>?_⟩⟩
      obtain rfl:j=0:=by omega
      rw [Nat.mul_one,Nat.add_zero]
      have h3:((putCells (Value.int .i64) 0 ts.toArray cs).toList.take ts.length)[k]? = (ts.map (Value.int .i64))[k]?:=by rw [htk]
      rw [List.getElem?_take_of_lt (by omega),Array.getElem?_toList] at h3
      rw [h3]
      simp [List.getD,show k<ts.length by omega]
    | succ i=>exact (hno (i+1) p (by omega) hi).elim
   ·have:=hH.fresh i b' c' n' hi
    exact ⟨Nat.lt_of_lt_of_le this.1 g4,this.2⟩
   ·injection hkb with hkb
    exact hne 0 b c n.val (by simp) h1 hkb.symm
@[irreducible]def Hr (n:Nat) (v:Nat->Int) (k:Nat):Int:=(((List.range n).map v).mergeSort fun x y=>decide (x<=y)).getD k 0
theorem nR (e:TypeId) (n:LN) (v:Nat->Int) (hsmall:n.val<4611686018427387904):Fn Tryz.prog 92 [.row 0] [.row e 1 n (fun k=>[.si .i64 (v k)])] (.tup []) [.row e 1 n (fun k=>[.si .i64 (Hr n.val v k)])]:=by
 have h:=uA (P:=Tryz.prog) (f:=92) (h:=fun zs=>zs.mergeSort fun x y=>decide (x<=y)) (fun zs=>List.length_mergeSort zs)
  (fun blk cap zs w hH hb hz=>AnyM.slices_Sort_int iC blk 0 cap zs w hH hb hz)
  (fun cap w=>AnyM.slices_Sort_int_none iC none cap w) e n v hsmall
 have e1:(fun k=>[AV.si .i64 (Hr n.val v k)])=fun k=>[AV.si .i64 ((((List.range n.val).map v).mergeSort fun x y=>decide (x<=y)).getD k 0)]:=by unfold Hr;rfl
 rw [e1];exact h
theorem nM {n k:Nat} {v:Nat->Int} (hk:k<n):∃ j,j<n/\Hr n v k=v j:=by
 unfold Hr
 have hp:=List.mergeSort_perm ((List.range n).map v) (fun x y=>decide (x<=y))
 have hlen:(((List.range n).map v).mergeSort fun x y=>decide (x<=y)).length=n:=by rw [hp.length_eq];simp
 have hm:(((List.range n).map v).mergeSort fun x y=>decide (x<=y)).getD k 0∈((List.range n).map v).mergeSort fun x y=>decide (x<=y):=by
  rw [cK (by omega)];exact List.getElem_mem _
 have:=hp.mem_iff.1 hm
 simp only [List.mem_map,List.mem_range] at this
 obtain ⟨j,hj,e⟩:=this
 exact ⟨j,hj,e.symm⟩
end Abs
end Go.Proofs.YtccgngldoinokaaGreat

namespace Go.Proofs.YtccgngldoinokaaGreat
namespace Abs
open Go Go.RowKit
noncomputable section
attribute [local irreducible] A2
@[irreducible]def Le (a b:Int):Bool:=decide (a<b)
theorem ltB_iff {a b:Int}:Le a b=true↔a<b:=by unfold Le;simp
@[reducible]def dE:Sh:=.agg [.int .i64,.int .i64,.bool]
def qy:Spec [.ptr Dy,dE]:=⟨fun (x,_)=>Nu x,fun (_,((_:Int),(u:Int),_),_)=>.sb (Le 4100000 u)⟩
def qx:Spec [.ptr Dy,dE]:=⟨fun (x,_)=>Nu x,fun (_,((l:Int),(_:Int),_),_)=>.sb (Le l 3200000)⟩
def qw:Spec [.ptr Dy,dE]:=⟨fun (x,_)=>Nu x,fun (_,((_:Int),(u:Int),_),_)=>.sb (Le 100000 u)⟩
def qv:Spec [.ptr Dy,dE]:=⟨fun (x,_)=>Nu x,fun (_,((l:Int),(_:Int),_),_)=>.sb (Le l (-60000))⟩
def qu:Spec [.ptr Dy,dE]:=⟨fun (x,_)=>Nu x,fun (_,((_:Int),(u:Int),_),_)=>.sb (Le 320000 u)⟩
def qt:Spec [.ptr Dy,dE]:=⟨fun (x,_)=>Nu x,fun (_,((l:Int),(_:Int),_),_)=>.sb (Le l 100000)⟩
set_option maxRecDepth 100000 in
theorem wZ:FnSpec Tryz.prog 86 _ qy:=by
 refine FnSpec.of SZ0_ok mixed (U:=0) (I:=fun _=>[]) Tryz.func86 rfl (by kernel_rfl) rfl rfl (by decide +kernel) ?_
 rintro ⟨x,⟨(l:Int),(u:Int),(o:Bool),⟨⟩⟩,⟨⟩⟩ (hpre:Nu x)
 obtain ⟨g,rfl⟩:∃ g,x=J6 g:=⟨_,gdC_iff.1 hpre⟩
 clear hpre
 unfold A2
 conv=>arg 2;reduce
 simp [qy]
 unfold Le
 simp
set_option maxRecDepth 100000 in
theorem wY:FnSpec Tryz.prog 87 _ qx:=by
 refine FnSpec.of SZ0_ok mixed (U:=0) (I:=fun _=>[]) Tryz.func87 rfl (by kernel_rfl) rfl rfl (by decide +kernel) ?_
 rintro ⟨x,⟨(l:Int),(u:Int),(o:Bool),⟨⟩⟩,⟨⟩⟩ (hpre:Nu x)
 obtain ⟨g,rfl⟩:∃ g,x=J6 g:=⟨_,gdC_iff.1 hpre⟩
 clear hpre
 unfold A2
 conv=>arg 2;reduce
 simp [qx]
 unfold Le
 simp
set_option maxRecDepth 100000 in
theorem wX:FnSpec Tryz.prog 88 _ qw:=by
 refine FnSpec.of SZ0_ok mixed (U:=0) (I:=fun _=>[]) Tryz.func88 rfl (by kernel_rfl) rfl rfl (by decide +kernel) ?_
 rintro ⟨x,⟨(l:Int),(u:Int),(o:Bool),⟨⟩⟩,⟨⟩⟩ (hpre:Nu x)
 obtain ⟨g,rfl⟩:∃ g,x=J6 g:=⟨_,gdC_iff.1 hpre⟩
 clear hpre
 unfold A2
 conv=>arg 2;reduce
 simp [qw]
 unfold Le
 simp
set_option maxRecDepth 100000 in
theorem wW:FnSpec Tryz.prog 89 _ qv:=by
 refine FnSpec.of SZ0_ok mixed (U:=0) (I:=fun _=>[]) Tryz.func89 rfl (by kernel_rfl) rfl rfl (by decide +kernel) ?_
 rintro ⟨x,⟨(l:Int),(u:Int),(o:Bool),⟨⟩⟩,⟨⟩⟩ (hpre:Nu x)
 obtain ⟨g,rfl⟩:∃ g,x=J6 g:=⟨_,gdC_iff.1 hpre⟩
 clear hpre
 unfold A2
 conv=>arg 2;reduce
 simp [qv]
 unfold Le
 simp
set_option maxRecDepth 100000 in
theorem wU:FnSpec Tryz.prog 90 _ qu:=by
 refine FnSpec.of SZ0_ok mixed (U:=0) (I:=fun _=>[]) Tryz.func90 rfl (by kernel_rfl) rfl rfl (by decide +kernel) ?_
 rintro ⟨x,⟨(l:Int),(u:Int),(o:Bool),⟨⟩⟩,⟨⟩⟩ (hpre:Nu x)
 obtain ⟨g,rfl⟩:∃ g,x=J6 g:=⟨_,gdC_iff.1 hpre⟩
 clear hpre
 unfold A2
 conv=>arg 2;reduce
 simp [qu]
 unfold Le
 simp
set_option maxRecDepth 100000 in
theorem wT:FnSpec Tryz.prog 91 _ qt:=by
 refine FnSpec.of SZ0_ok mixed (U:=0) (I:=fun _=>[]) Tryz.func91 rfl (by kernel_rfl) rfl rfl (by decide +kernel) ?_
 rintro ⟨x,⟨(l:Int),(u:Int),(o:Bool),⟨⟩⟩,⟨⟩⟩ (hpre:Nu x)
 obtain ⟨g,rfl⟩:∃ g,x=J6 g:=⟨_,gdC_iff.1 hpre⟩
 clear hpre
 unfold A2
 conv=>arg 2;reduce
 simp [qt]
 unfold Le
 simp
noncomputable def SZ1:Sums:=⟨(91,A_ _ qt)::(90,A_ _ qu)::(89,A_ _ qv)::(88,A_ _ qw)::(87,A_ _ qx)::(86,A_ _ qy)::(68,A_ _ Th)::(35,A_ _ QQ)::(33,A_ _ QR)::(60,A_ _ dc)::(28,A_ _ Va)::SZ0.one,SZ0.two,SZ0.lo,SZ0.eqs,SZ0.its,SZ0.imm⟩
theorem SZ1_ok:SumsOK Tryz.prog SZ1:=(((((((((((SZ0_ok.cons Tryz.func28 (by kernel_rfl) (by kernel_rfl) YJ).cons Tryz.func60 (by kernel_rfl) (by kernel_rfl) im).cons Tryz.func33 (by kernel_rfl) (by kernel_rfl) j8).cons Tryz.func35 (by kernel_rfl) (by kernel_rfl) j6).cons Tryz.func68 (by kernel_rfl) (by kernel_rfl) uM).cons Tryz.func86 (by kernel_rfl) (by kernel_rfl) wZ).cons Tryz.func87 (by kernel_rfl) (by kernel_rfl) wY).cons Tryz.func88 (by kernel_rfl) (by kernel_rfl) wX).cons Tryz.func89 (by kernel_rfl) (by kernel_rfl) wW).cons Tryz.func90 (by kernel_rfl) (by kernel_rfl) wU).cons Tryz.func91 (by kernel_rfl) (by kernel_rfl) wT)
def Xy:SpecF [.row 2 1 [.int .i64]] [.rowr 0]:=⟨fun ((n,_),_) _=>n<4611686018427387904,fun _ _=>.tup [],fun ((n,el),_) _=>[.row 2 1 (.sym n) (fun k=>[.si .i64 (Hr n (fun j=>(el j).1) k)])]⟩
theorem nO:FnSpecF Tryz.prog 92 _ _ Xy:=by
 rintro ⟨⟨n,el⟩,⟨⟩⟩ ⟨⟨⟩,⟨⟩⟩ (h:n<4611686018427387904)
 exact nR _ (.sym n) (fun j=>(el j).1) h
def Xw:SpecF [] [.slice 1 [.int .i64]]:=⟨fun _ (x,_)=>x.1=0,fun _ _=>.tup [],fun _ _=>[]⟩
theorem nN:FnSpecF Tryz.prog 92 _ _ Xw:=by
 rintro ⟨⟩ ⟨⟨n,el⟩,⟨⟩⟩ (h:n=0)
 subst h
 intro C w vs hO hH ha
 have hno:∀ i p,C.ρ i=some p->False:=fun i p hp=>by
  have:=hH.live i p hp
  rw [show A3 (Dh [] ()) i=.dead by cases i<;>rfl] at this
  cases p<;>exact this.elim
 cases ha with
 | cons _ _ x ws hx hws =>
 cases hws
 have hx:Rel C w (.slc (.sym 0) 1 (fun k=>Ab [.int .i64] (el k))) x:=hx
 cases hx with
 | slc _ _ _ A cap _ _ _ _ _ _ =>
   refine (AnyM.slices_Sort_int_none iC A cap w).mono ?_
   rintro e' w' ⟨rfl,rfl⟩
   exact ⟨_,C,rfl,hH,.tup _ _ .nil,⟨rfl,rfl,rfl,Nat.le_refl _,fun _ _ _=>rfl,fun _ h=>h,fun _ h=>.inl h,fun _ _=>rfl,fun i b c m hi hp=>(hno i _ hp).elim,fun b x hb=>by rw [hO b] at hb;cases hb⟩⟩
def xP (s t:Ey):Ey:=fun args hp=>match s args hp with|some r=>some r|none=>t args hp
theorem rO {P:Program} {f:FuncId} {s t:Ey} (hs:Iw P f s) (ht:Iw P f t):Iw P f (xP s t):=by
 intro args hp pre res hp' mv h hpre
 unfold xP at h
 split at h
 ·rename_i r hr
  injection h with h;subst h
  exact hs _ _ _ _ _ _ hr hpre
 ·exact ht _ _ _ _ _ _ h hpre
noncomputable def SZ2:Sums:=⟨SZ1.one,(92,xP (JR _ _ Xy) (JR _ _ Xw))::SZ1.two,SZ1.lo,SZ1.eqs,SZ1.its,SZ1.imm⟩
theorem SZ2_ok:SumsOK Tryz.prog SZ2:=SZ1_ok.addTwo Tryz.func92 (by kernel_rfl) (by kernel_rfl) (rO (Hx nO) (Hx nN))
@[irreducible]def XZ (p:Pn):Bool:=p.h0 && !p.b0
@[irreducible]def XY (p:Pn):Bool:=p.h1 && !p.b1
@[irreducible]def XX (p:Pn):Bool:=p.h2 && !p.b2
@[irreducible]def CZ (p:Pn) (i q:Nat):Int:=match i,q with
 | 0,0=>p.v00|0,1=>p.v01|0,2=>p.v02|0,3=>p.v03|0,4=>p.v04
 | 1,0=>p.v10|1,1=>p.v11|1,2=>p.v12|1,3=>p.v13|1,4=>p.v14
 | 2,0=>p.v20|2,1=>p.v21|2,2=>p.v22|2,3=>p.v23|2,4=>p.v24
 | _,_=>0
def JC (p:Pn) (q:Nat):List Int:=(if XZ p=true then [CZ p 0 q] else [])++((if XY p=true then [CZ p 1 q] else [])++(if XX p=true then [CZ p 2 q] else []))
@[irreducible]def Et (p:Pn):Nat:=(JC p 0).length
@[irreducible]def De (p:Pn) (q k:Nat):Int:=Hr (Et p) (fun j=>(JC p q).getD j 0) k
theorem Uz {p:Pn} (h:p.h0=true) (hb:p.b0=false):XZ p=true:=by unfold XZ;rw [h,hb];rfl
theorem V1 {p:Pn} (h:p.h0=true->p.b0=true):XZ p=false:=by unfold XZ;cases hh:p.h0<;>simp_all
theorem V0 {p:Pn} (h:p.h0=false):XZ p=false:=by unfold XZ;rw [h];rfl
theorem Uw {p:Pn} (h:p.h1=true) (hb:p.b1=false):XY p=true:=by unfold XY;rw [h,hb];rfl
theorem Uy {p:Pn} (h:p.h1=true->p.b1=true):XY p=false:=by unfold XY;cases hh:p.h1<;>simp_all
theorem Ux {p:Pn} (h:p.h1=false):XY p=false:=by unfold XY;rw [h];rfl
theorem Ut {p:Pn} (h:p.h2=true) (hb:p.b2=false):XX p=true:=by unfold XX;rw [h,hb];rfl
theorem Uv {p:Pn} (h:p.h2=true->p.b2=true):XX p=false:=by unfold XX;cases hh:p.h2<;>simp_all
theorem Uu {p:Pn} (h:p.h2=false):XX p=false:=by unfold XX;rw [h];rfl
theorem MQ (p:Pn) (q:Nat):Et p=(JC p q).length:=by
 unfold Et JC
 cases XZ p<;>cases XY p<;>cases XX p<;>rfl
theorem Xx {n:Nat} {v v':Nat->Int} (h:∀ j,j<n->v j=v' j) (k:Nat):Hr n v k=Hr n v' k:=by
 have e:(List.range n).map v=(List.range n).map v':=List.map_congr_left fun j hj=>h j (List.mem_range.1 hj)
 unfold Hr
 rw [e]
theorem FS {p:Pn} {n:Nat} {l:List Int} (q:Nat) (hl:JC p q=l) (hn:n=l.length):n=Et p:=by rw [MQ p q,hl,hn]
theorem LC {p:Pn} {n j:Nat} {q:Nat} {v:Nat->Int} {l:List Int} (hl:JC p q=l) (hn:n=l.length) (hv:∀ j,j<n->v j=l.getD j 0):Hr n v j=De p q j:=by
 unfold De
 rw [<- FS q hl hn,hl]
 exact Xx hv j
def MO:Spec [.ptr Ok,.int .i64]:=⟨fun (x,(q:Int),_)=>sO x/\0<=q/\q<=4,fun (x,(q:Int),_)=>.slc (.sym (Et (EG x))) 1 (fun k=>[.si .i64 (De (EG x) (Iz q) k)])⟩
set_option maxRecDepth 100000 in
set_option maxHeartbeats 4000000 in
theorem u9:FnSpec Tryz.prog 67 _ MO:=by
 refine FnSpec.ofLi [false,true] SZ2_ok mixed (U:=5) (I:=fun _=>[]) Tryz.func67 rfl (by kernel_rfl) rfl rfl (by decide +kernel) ?_
 rintro ⟨x,(q:Int),⟨⟩⟩ ⟨hp,h0,h1⟩
 obtain ⟨p,rfl⟩:∃ p,x=aP p:=⟨_,pnC_iff.1 hp⟩
 clear hp
 rcases (show q=0\/q=1\/q=2\/q=3\/q=4 by have h0:0<=q:=h0;have h1:q<=4:=h1;omega) with rfl|rfl|rfl|rfl|rfl
 ·unfold A2
  conv=>arg 2;reduce
  simp [MO,Xy,Xw,Ar,A3,AP,AB,CV,and_assoc]
  repeat' first|apply And.intro|intro _
  all_goals first|have u0:=Uz (by assumption) (by assumption)|have u0:=V1 (by assumption)|have u0:=V0 (by assumption)
  all_goals first|have u1:=Uw (by assumption) (by assumption)|have u1:=Uy (by assumption)|have u1:=Ux (by assumption)
  all_goals first|have u2:=Ut (by assumption) (by assumption)|have u2:=Uv (by assumption)|have u2:=Uu (by assumption)
  all_goals have e:=show JC p 0=_ by unfold JC;rw [u0,u1,u2]
  all_goals first
   | exact FS 0 e rfl
   | exact (FS 0 e rfl).symm
   | (refine LC e rfl (fun j hj=>?_);rcases (show j=0\/j=1\/j=2 by omega) with rfl|rfl|rfl<;>first|(exfalso;omega)|simp [Ft,AZ,AW,AO,CZ])
   | (rename_i k hk;rcases (show k=0\/k=1\/k=2 by omega) with rfl|rfl|rfl<;>first|(exfalso;omega)|simp [Ft,AZ,AW,AO,EO,BL,D1,AD])
   | rfl
   | trivial
   | (simp [D1,BL,EO,AW,AD];done)
 ·unfold A2
  conv=>arg 2;reduce
  simp [MO,Xy,Xw,Ar,A3,AP,AB,CV,and_assoc]
  repeat' first|apply And.intro|intro _
  all_goals first|have u0:=Uz (by assumption) (by assumption)|have u0:=V1 (by assumption)|have u0:=V0 (by assumption)
  all_goals first|have u1:=Uw (by assumption) (by assumption)|have u1:=Uy (by assumption)|have u1:=Ux (by assumption)
  all_goals first|have u2:=Ut (by assumption) (by assumption)|have u2:=Uv (by assumption)|have u2:=Uu (by assumption)
  all_goals have e:=show JC p 1=_ by unfold JC;rw [u0,u1,u2]
  all_goals first
   | exact FS 1 e rfl
   | exact (FS 1 e rfl).symm
   | (refine LC e rfl (fun j hj=>?_);rcases (show j=0\/j=1\/j=2 by omega) with rfl|rfl|rfl<;>first|(exfalso;omega)|simp [Ft,AZ,AW,AO,CZ])
   | (rename_i k hk;rcases (show k=0\/k=1\/k=2 by omega) with rfl|rfl|rfl<;>first|(exfalso;omega)|simp [Ft,AZ,AW,AO,EO,BL,D1,AD])
   | rfl
   | trivial
   | (simp [D1,BL,EO,AW,AD];done)
 ·unfold A2
  conv=>arg 2;reduce
  simp [MO,Xy,Xw,Ar,A3,AP,AB,CV,and_assoc]
  repeat' first|apply And.intro|intro _
  all_goals first|have u0:=Uz (by assumption) (by assumption)|have u0:=V1 (by assumption)|have u0:=V0 (by assumption)
  all_goals first|have u1:=Uw (by assumption) (by assumption)|have u1:=Uy (by assumption)|have u1:=Ux (by assumption)
  all_goals first|have u2:=Ut (by assumption) (by assumption)|have u2:=Uv (by assumption)|have u2:=Uu (by assumption)
  all_goals have e:=show JC p 2=_ by unfold JC;rw [u0,u1,u2]
  all_goals first
   | exact FS 2 e rfl
   | exact (FS 2 e rfl).symm
   | (refine LC e rfl (fun j hj=>?_);rcases (show j=0\/j=1\/j=2 by omega) with rfl|rfl|rfl<;>first|(exfalso;omega)|simp [Ft,AZ,AW,AO,CZ])
   | (rename_i k hk;rcases (show k=0\/k=1\/k=2 by omega) with rfl|rfl|rfl<;>first|(exfalso;omega)|simp [Ft,AZ,AW,AO,EO,BL,D1,AD])
   | rfl
   | trivial
   | (simp [D1,BL,EO,AW,AD];done)
 ·unfold A2
  conv=>arg 2;reduce
  simp [MO,Xy,Xw,Ar,A3,AP,AB,CV,and_assoc]
  repeat' first|apply And.intro|intro _
  all_goals first|have u0:=Uz (by assumption) (by assumption)|have u0:=V1 (by assumption)|have u0:=V0 (by assumption)
  all_goals first|have u1:=Uw (by assumption) (by assumption)|have u1:=Uy (by assumption)|have u1:=Ux (by assumption)
  all_goals first|have u2:=Ut (by assumption) (by assumption)|have u2:=Uv (by assumption)|have u2:=Uu (by assumption)
  all_goals have e:=show JC p 3=_ by unfold JC;rw [u0,u1,u2]
  all_goals first
   | exact FS 3 e rfl
   | exact (FS 3 e rfl).symm
   | (refine LC e rfl (fun j hj=>?_);rcases (show j=0\/j=1\/j=2 by omega) with rfl|rfl|rfl<;>first|(exfalso;omega)|simp [Ft,AZ,AW,AO,CZ])
   | (rename_i k hk;rcases (show k=0\/k=1\/k=2 by omega) with rfl|rfl|rfl<;>first|(exfalso;omega)|simp [Ft,AZ,AW,AO,EO,BL,D1,AD])
   | rfl
   | trivial
   | (simp [D1,BL,EO,AW,AD];done)
 ·unfold A2
  conv=>arg 2;reduce
  simp [MO,Xy,Xw,Ar,A3,AP,AB,CV,and_assoc]
  repeat' first|apply And.intro|intro _
  all_goals first|have u0:=Uz (by assumption) (by assumption)|have u0:=V1 (by assumption)|have u0:=V0 (by assumption)
  all_goals first|have u1:=Uw (by assumption) (by assumption)|have u1:=Uy (by assumption)|have u1:=Ux (by assumption)
  all_goals first|have u2:=Ut (by assumption) (by assumption)|have u2:=Uv (by assumption)|have u2:=Uu (by assumption)
  all_goals have e:=show JC p 4=_ by unfold JC;rw [u0,u1,u2]
  all_goals first
   | exact FS 4 e rfl
   | exact (FS 4 e rfl).symm
   | (refine LC e rfl (fun j hj=>?_);rcases (show j=0\/j=1\/j=2 by omega) with rfl|rfl|rfl<;>first|(exfalso;omega)|simp [Ft,AZ,AW,AO,CZ])
   | (rename_i k hk;rcases (show k=0\/k=1\/k=2 by omega) with rfl|rfl|rfl<;>first|(exfalso;omega)|simp [Ft,AZ,AW,AO,EO,BL,D1,AD])
   | rfl
   | trivial
   | (simp [D1,BL,EO,AW,AD];done)
end
end Abs
end Go.Proofs.YtccgngldoinokaaGreat

namespace Go.Proofs.YtccgngldoinokaaGreat
namespace Abs
open Go Go.RowKit
noncomputable section
attribute [local irreducible] A2
noncomputable def SZ3:Sums:=⟨(67,A_ _ MO)::SZ2.one,SZ2.two,SZ2.lo,SZ2.eqs,SZ2.its,SZ2.imm⟩
theorem SZ3_ok:SumsOK Tryz.prog SZ3:=(SZ2_ok.cons Tryz.func67 (by kernel_rfl) (by kernel_rfl) u9)
def PnOK (p:Pn):Prop:=∀ i q,-4398046511104<=CZ p i q/\CZ p i q<=4398046511104
theorem o_ {p:Pn} {q:Nat} {x:Int} (h:x∈JC p q):∃ i,x=CZ p i q:=by
 unfold JC at h
 rcases List.mem_append.1 h with h|h
 ·split at h
  ·exact ⟨0,List.mem_singleton.1 h⟩
  ·cases h
 ·rcases List.mem_append.1 h with h|h
  ·split at h
   ·exact ⟨1,List.mem_singleton.1 h⟩
   ·cases h
  ·split at h
   ·exact ⟨2,List.mem_singleton.1 h⟩
   ·cases h
theorem DM {p:Pn} (h:PnOK p) {q k:Nat} (hk:k<Et p) : -4398046511104<=De p q k/\De p q k<=4398046511104:=by
 obtain ⟨j,hj,e⟩:=nM (v:=fun j=>(JC p q).getD j 0) hk
 have e:De p q k=(JC p q).getD j 0:=by unfold De;exact e
 rw [e]
 have hl:j<(JC p q).length:=by rw [<- MQ];exact hj
 have hm:(JC p q).getD j 0∈JC p q:=by rw [cK hl];exact List.getElem_mem _
 obtain ⟨i,hi⟩:=o_ hm
 rw [hi]
 exact h i q
@[irreducible]def AX (q:Nat):Int:=match q with|0=>10000|1=>10000|2=>1000|3=>2000|_=>5000
@[irreducible]def J2 (p:Pn) (q:Nat):Bool:=decide (Et p=3)||(decide (Et p=2) && !(ID (De p q 0) (De p q 1) (AX q)))
@[irreducible]def Ju (p:Pn) (q:Nat):Int:=if Et p=3 then De p q 1 else if J2 p q=true then De p q 0 else 0
@[irreducible]def Jt (p:Pn) (q:Nat):Int:=if Et p=3 then De p q 1 else if J2 p q=true then De p q 1 else 0
def T8:Spec [.ptr Ok,.int .i64]:=⟨fun (x,(q:Int),_)=>sO x/\PnOK (EG x)/\0<=q/\q<=4,fun (x,(q:Int),_)=>.agg [.si .i64 (Ju (EG x) (Iz q)),.si .i64 (Jt (EG x) (Iz q)),.sb (J2 (EG x) (Iz q))]⟩
theorem GI {p:Pn} {q:Nat} (h:(Et p:Int)=3):J2 p q=true/\Ju p q=De p q 1/\Jt p q=De p q 1:=by
 have h:Et p=3:=by omega
 unfold Ju Jt J2
 simp [h]
theorem GJ {p:Pn} {q:Nat} (h:(Et p:Int)=2) (hf:ID (De p q 0) (De p q 1) (AX q)=false):J2 p q=true/\Ju p q=De p q 0/\Jt p q=De p q 1:=by
 have h:Et p=2:=by omega
 have hb:J2 p q=true:=by unfold J2;simp [h,hf]
 unfold Ju Jt
 simp [h,hb]
theorem Gm {p:Pn} {q:Nat} (h3:¬ (Et p:Int)=3) (h:(Et p:Int)=2->ID (De p q 0) (De p q 1) (AX q)=true):J2 p q=false/\Ju p q=0/\Jt p q=0:=by
 have h3:¬ Et p=3:=by omega
 have hb:J2 p q=false:=by
  unfold J2
  by_cases h2:Et p=2
  ·simp [h2,h (by omega)]
  ·simp [h3,h2]
 unfold Ju Jt
 simp [h3,hb]
set_option maxRecDepth 100000 in
set_option maxHeartbeats 4000000 in
theorem tJ:FnSpec Tryz.prog 65 _ T8:=by
 refine FnSpec.ofLi [false,true] SZ3_ok mixed (U:=0) (I:=fun _=>[]) Tryz.func65 rfl (by kernel_rfl) rfl rfl (by decide +kernel) ?_
 rintro ⟨x,(q:Int),⟨⟩⟩ ⟨hp,hk,h0,h1⟩
 obtain ⟨p,rfl⟩:∃ p,x=aP p:=⟨_,pnC_iff.1 hp⟩
 have hk:PnOK p:=by have:PnOK (EG (aP p)):=hk;rwa [Ol] at this
 clear hp
 rcases (show q=0\/q=1\/q=2\/q=3\/q=4 by have h0:0<=q:=h0;have h1:q<=4:=h1;omega) with rfl|rfl|rfl|rfl|rfl
 ·unfold A2
  conv=>arg 2;reduce
  simp [T8,MO,Th,and_assoc]
  have e:AX 0=10000:=by unfold AX;rfl
  exact ⟨fun h=>⟨by omega,(GI h).2.1.symm,(GI h).2.2.symm,(GI h).1⟩,fun h3=>⟨fun h=>by omega,fun h=>by omega,fun h=>⟨(DM hk (by omega)).1,(DM hk (by omega)).2,(DM hk (by omega)).1,(DM hk (by omega)).2⟩,
   fun h hf=>⟨by omega,by omega,(GJ h (by rw [e];exact hf)).2.1.symm,(GJ h (by rw [e];exact hf)).2.2.symm,(GJ h (by rw [e];exact hf)).1⟩,fun h=>⟨(Gm h3 (by rw [e];exact h)).2.1.symm,(Gm h3 (by rw [e];exact h)).2.2.symm,(Gm h3 (by rw [e];exact h)).1⟩⟩⟩
 ·unfold A2
  conv=>arg 2;reduce
  simp [T8,MO,Th,and_assoc]
  have e:AX 1=10000:=by unfold AX;rfl
  exact ⟨fun h=>⟨by omega,(GI h).2.1.symm,(GI h).2.2.symm,(GI h).1⟩,fun h3=>⟨fun h=>by omega,fun h=>by omega,fun h=>⟨(DM hk (by omega)).1,(DM hk (by omega)).2,(DM hk (by omega)).1,(DM hk (by omega)).2⟩,
   fun h hf=>⟨by omega,by omega,(GJ h (by rw [e];exact hf)).2.1.symm,(GJ h (by rw [e];exact hf)).2.2.symm,(GJ h (by rw [e];exact hf)).1⟩,fun h=>⟨(Gm h3 (by rw [e];exact h)).2.1.symm,(Gm h3 (by rw [e];exact h)).2.2.symm,(Gm h3 (by rw [e];exact h)).1⟩⟩⟩
 ·unfold A2
  conv=>arg 2;reduce
  simp [T8,MO,Th,and_assoc]
  have e:AX 2=1000:=by unfold AX;rfl
  exact ⟨fun h=>⟨by omega,(GI h).2.1.symm,(GI h).2.2.symm,(GI h).1⟩,fun h3=>⟨fun h=>by omega,fun h=>by omega,fun h=>⟨(DM hk (by omega)).1,(DM hk (by omega)).2,(DM hk (by omega)).1,(DM hk (by omega)).2⟩,
   fun h hf=>⟨by omega,by omega,(GJ h (by rw [e];exact hf)).2.1.symm,(GJ h (by rw [e];exact hf)).2.2.symm,(GJ h (by rw [e];exact hf)).1⟩,fun h=>⟨(Gm h3 (by rw [e];exact h)).2.1.symm,(Gm h3 (by rw [e];exact h)).2.2.symm,(Gm h3 (by rw [e];exact h)).1⟩⟩⟩
 ·unfold A2
  conv=>arg 2;reduce
  simp [T8,MO,Th,and_assoc]
  have e:AX 3=2000:=by unfold AX;rfl
  exact ⟨fun h=>⟨by omega,(GI h).2.1.symm,(GI h).2.2.symm,(GI h).1⟩,fun h3=>⟨fun h=>by omega,fun h=>by omega,fun h=>⟨(DM hk (by omega)).1,(DM hk (by omega)).2,(DM hk (by omega)).1,(DM hk (by omega)).2⟩,
   fun h hf=>⟨by omega,by omega,(GJ h (by rw [e];exact hf)).2.1.symm,(GJ h (by rw [e];exact hf)).2.2.symm,(GJ h (by rw [e];exact hf)).1⟩,fun h=>⟨(Gm h3 (by rw [e];exact h)).2.1.symm,(Gm h3 (by rw [e];exact h)).2.2.symm,(Gm h3 (by rw [e];exact h)).1⟩⟩⟩
 ·unfold A2
  conv=>arg 2;reduce
  simp [T8,MO,Th,and_assoc]
  have e:AX 4=5000:=by unfold AX;rfl
  exact ⟨fun h=>⟨by omega,(GI h).2.1.symm,(GI h).2.2.symm,(GI h).1⟩,fun h3=>⟨fun h=>by omega,fun h=>by omega,fun h=>⟨(DM hk (by omega)).1,(DM hk (by omega)).2,(DM hk (by omega)).1,(DM hk (by omega)).2⟩,
   fun h hf=>⟨by omega,by omega,(GJ h (by rw [e];exact hf)).2.1.symm,(GJ h (by rw [e];exact hf)).2.2.symm,(GJ h (by rw [e];exact hf)).1⟩,fun h=>⟨(Gm h3 (by rw [e];exact h)).2.1.symm,(Gm h3 (by rw [e];exact h)).2.2.symm,(Gm h3 (by rw [e];exact h)).1⟩⟩⟩
noncomputable def SZ4:Sums:=⟨(65,A_ _ T8)::SZ3.one,SZ3.two,SZ3.lo,SZ3.eqs,SZ3.its,SZ3.imm⟩
theorem SZ4_ok:SumsOK Tryz.prog SZ4:=(SZ3_ok.cons Tryz.func65 (by kernel_rfl) (by kernel_rfl) tJ)
@[irreducible]def qd (p:Pn):Bool:=J2 p 2&&(Le 1000 (Jt p 2)||Le (Ju p 2) (-1000))
def qc:Spec [.ptr Ok]:=⟨fun (x,_)=>sO x/\PnOK (EG x),fun (x,_)=>.sb (qd (EG x))⟩
set_option maxRecDepth 100000 in
theorem wL:FnSpec Tryz.prog 30 _ qc:=by
 refine FnSpec.of SZ4_ok mixed (U:=0) (I:=fun _=>[]) Tryz.func30 rfl (by kernel_rfl) rfl rfl (by decide +kernel) ?_
 rintro ⟨x,⟨⟩⟩ ⟨hp,hk⟩
 obtain ⟨p,rfl⟩:∃ p,x=aP p:=⟨_,pnC_iff.1 hp⟩
 have hk:PnOK p:=by have:PnOK (EG (aP p)):=hk;rwa [Ol] at this
 clear hp
 unfold A2
 conv=>arg 2;reduce
 simp [qc,T8,and_assoc]
 unfold qd Le
 exact ⟨hk,fun h1 h2=>⟨h1,h2⟩,rfl⟩
def cqV:Nat->Nat
 | 0=>0|1=>1|2=>2|3=>2|4=>3|_=>4
def pF (p:Pn):Nat->Bool
 | 0=>false
 | m+1=>pF p m || !(J2 p (cqV m))
theorem AA5 (p:Pn):pF p 0=false:=rfl
theorem R3 (p:Pn) (m:Nat):pF p (m+1)=(pF p m || !(J2 p (cqV m))):=rfl
attribute [irreducible] pF
@[irreducible]def Di (p:Pn) (k:Nat):Bool:=match k with
 | 0=>J2 p 0&&Le 4100000 (Jt p 0)
 | 1=>J2 p 1&&Le (Ju p 1) 3200000
 | 2=>J2 p 2&&Le 100000 (Jt p 2)
 | 3=>J2 p 2&&Le (Ju p 2) (-60000)
 | 4=>J2 p 3&&Le 320000 (Jt p 3)
 | 5=>J2 p 4&&Le (Ju p 4) 100000
 | _=>pF p 6
@[reducible]def AH4 (p:Pn) (i:Nat):List AV:=[.sb (Di p 0),(match Nat.ble 1 i with|true=>.sb (Di p 1)|false=>.lb false),(match Nat.ble 2 i with|true=>.sb (Di p 2)|false=>.lb false),(match Nat.ble 3 i with|true=>.sb (Di p 3)|false=>.lb false),(match Nat.ble 4 i with|true=>.sb (Di p 4)|false=>.lb false),(match Nat.ble 5 i with|true=>.sb (Di p 5)|false=>.lb false),.sb (pF p (i+1))]
noncomputable def SZ5:Sums:=⟨SZ4.one,(64,eZ Tryz.prog SZ4 0 Tryz.f64)::SZ4.two,SZ4.lo,SZ4.eqs,SZ4.its,SZ4.imm⟩
theorem SZ5_ok:SumsOK Tryz.prog SZ5:=SZ4_ok.addTwo Tryz.func64 (by kernel_rfl) (by kernel_rfl) (cB SZ4_ok mixed Tryz.func64 rfl (by kernel_rfl))
def pq:Spec [.ptr Ok]:=⟨fun (x,_)=>sO x/\PnOK (EG x),fun (x,_)=>.agg [.sb (Di (EG x) 0),.sb (Di (EG x) 1),.sb (Di (EG x) 2),.sb (Di (EG x) 3),.sb (Di (EG x) 4),.sb (Di (EG x) 5),.sb (Di (EG x) 6)]⟩
def AT8:Ad [.ptr Ok]->Cz:=fun (x,_)=>[
 (1048584,[],fun fr hp=>⟨Unit,fun _=>⟨J1 [.k 4,.t 3,.k 3,.t 32] fr,AM hp 1 (.cells 124 (AH4 (EG x) (AA (A4 fr 9)).toNat))⟩,Unit,fun _=>(),fun _=>True,fun _=>0⟩)]
set_option maxRecDepth 100000 in
set_option maxHeartbeats 4000000 in
theorem vt:FnSpec Tryz.prog 29 _ pq:=by
 refine FnSpec.of SZ5_ok mixed (U:=8) (I:=AT8) Tryz.func29 rfl (by kernel_rfl) rfl rfl (by decide +kernel) ?_
 rintro ⟨x,⟨⟩⟩ ⟨hp,hk⟩
 obtain ⟨p,rfl⟩:∃ p,x=aP p:=⟨_,pnC_iff.1 hp⟩
 have hk:PnOK p:=by have:PnOK (EG (aP p)):=hk;rwa [Ol] at this
 clear hp
 unfold A2
 conv=>arg 2;reduce
 simp [pq,T8,qy,qx,qw,qv,qu,qt,and_assoc]
 have e0:Di p 0=(J2 p 0&&Le 4100000 (Jt p 0)):=by unfold Di;rfl
 have e1:Di p 1=(J2 p 1&&Le (Ju p 1) 3200000):=by unfold Di;rfl
 have e2:Di p 2=(J2 p 2&&Le 100000 (Jt p 2)):=by unfold Di;rfl
 have e3:Di p 3=(J2 p 2&&Le (Ju p 2) (-60000)):=by unfold Di;rfl
 have e4:Di p 4=(J2 p 3&&Le 320000 (Jt p 3)):=by unfold Di;rfl
 have e5:Di p 5=(J2 p 4&&Le (Ju p 4) 100000):=by unfold Di;rfl
 have e6:Di p 6=pF p 6:=by unfold Di;rfl
 have n1:J2 p 0 = !pF p 1:=by rw [R3,AA5];simp [cqV]
 exact ⟨hk,e0.symm,n1,hk,e1.symm,(R3 p 1).symm,hk,e2.symm,(R3 p 2).symm,hk,e3.symm,(R3 p 3).symm,hk,e4.symm,(R3 p 4).symm,hk,e5.symm,(R3 p 5).symm,e6.symm⟩
noncomputable def SZ6:Sums:=⟨(30,A_ _ qc)::(29,A_ _ pq)::SZ5.one,SZ5.two,SZ5.lo,SZ5.eqs,SZ5.its,SZ5.imm⟩
theorem SZ6_ok:SumsOK Tryz.prog SZ6:=((SZ5_ok.cons Tryz.func29 (by kernel_rfl) (by kernel_rfl) vt).cons Tryz.func30 (by kernel_rfl) (by kernel_rfl) wL)
@[irreducible]def mP (p:Pn) (j:Nat):Bool:=match j with
 | 0=>!p.b0 && !p.h0
 | 1=>!p.b1 && !p.h1
 | _=>!p.b2 && !p.h2
def co (p:Pn) (j:Nat):Nat->Bool
 | 0=>mP p j
 | m+1=>co p j m||ID (CZ p j m) (De p m 1) (AX m)
theorem XU (p:Pn) (j:Nat):co p j 0=mP p j:=rfl
theorem GP (p:Pn) (j m:Nat):co p j (m+1)=(co p j m||ID (CZ p j m) (De p m 1) (AX m)):=rfl
attribute [irreducible] co
@[irreducible]def QD (p:Pn) (j:Nat):Bool:=if Et p<3 then mP p j else co p j 5
@[reducible]def AV0 (p:Pn) (q i:Nat):List AV:=[.sb (co p 0 (q+1)),(match Nat.ble 1 i with|true=>.sb (co p 1 (q+1))|false=>.sb (co p 1 q)),(match Nat.ble 2 i with|true=>.sb (co p 2 (q+1))|false=>.sb (co p 2 q))]
theorem PnOK.b {p:Pn} (h:PnOK p):(-4398046511104<=p.v00/\p.v00<=4398046511104)/\(-4398046511104<=p.v01/\p.v01<=4398046511104)/\(-4398046511104<=p.v02/\p.v02<=4398046511104)/\(-4398046511104<=p.v03/\p.v03<=4398046511104)/\(-4398046511104<=p.v04/\p.v04<=4398046511104) /\
  (-4398046511104<=p.v10/\p.v10<=4398046511104)/\(-4398046511104<=p.v11/\p.v11<=4398046511104)/\(-4398046511104<=p.v12/\p.v12<=4398046511104)/\(-4398046511104<=p.v13/\p.v13<=4398046511104)/\(-4398046511104<=p.v14/\p.v14<=4398046511104) /\
  (-4398046511104<=p.v20/\p.v20<=4398046511104)/\(-4398046511104<=p.v21/\p.v21<=4398046511104)/\(-4398046511104<=p.v22/\p.v22<=4398046511104)/\(-4398046511104<=p.v23/\p.v23<=4398046511104)/\(-4398046511104<=p.v24/\p.v24<=4398046511104):=by
 have a00:=h 0 0
 have a01:=h 0 1
 have a02:=h 0 2
 have a03:=h 0 3
 have a04:=h 0 4
 have a10:=h 1 0
 have a11:=h 1 1
 have a12:=h 1 2
 have a13:=h 1 3
 have a14:=h 1 4
 have a20:=h 2 0
 have a21:=h 2 1
 have a22:=h 2 2
 have a23:=h 2 3
 have a24:=h 2 4
 unfold CZ at *
 exact ⟨a00,a01,a02,a03,a04,a10,a11,a12,a13,a14,a20,a21,a22,a23,a24⟩
def rF:Spec [.ptr Ok]:=⟨fun (x,_)=>sO x/\PnOK (EG x),fun (x,_)=>.agg [.sb (QD (EG x) 0),.sb (QD (EG x) 1),.sb (QD (EG x) 2)]⟩
def AU7:Ad [.ptr Ok]->Cz:=fun (x,_)=>[
 (1048583,[],fun fr hp=>⟨Unit,fun _=>⟨J1 [.k 4,.t 72] fr,AM hp 1 (.cells 72 [.sb (co (EG x) 0 0),.sb (co (EG x) 1 0),.sb (co (EG x) 2 0)])⟩,Unit,fun _=>(),fun _=>True,fun _=>0⟩),
 (1048593,[],fun fr hp=>⟨Unit,fun _=>⟨J1 [.k 4,.t 1,.k 2,.t 24,.k 1,.t 9,.k 1,.t 34] fr,AM hp 1 (.cells 72 (AV0 (EG x) (AA (A4 fr 31)).toNat (AA (A4 fr 41)).toNat))⟩,Unit,fun _=>(),fun _=>True,fun _=>0⟩)]
set_option maxRecDepth 100000 in
set_option maxHeartbeats 4000000 in
theorem xJ:FnSpec Tryz.prog 32 _ rF:=by
 refine FnSpec.of SZ6_ok mixed (U:=8) (I:=AU7) Tryz.func32 rfl (by kernel_rfl) rfl rfl (by decide +kernel) ?_
 rintro ⟨x,⟨⟩⟩ ⟨hp,hk⟩
 obtain ⟨p,rfl⟩:∃ p,x=aP p:=⟨_,pnC_iff.1 hp⟩
 have hk:PnOK p:=by have:PnOK (EG (aP p)):=hk;rwa [Ol] at this
 clear hp
 unfold A2
 conv=>arg 2;reduce
 simp [rF,MO,Th,and_assoc]
 have hb:=hk.b
 repeat' first|apply And.intro|intro _
 all_goals first
  | (refine Eq.trans ?_ (GP _ _ _).symm;unfold CZ AX;rfl)
  | exact (DM hk (by omega)).1
  | exact (DM hk (by omega)).2
  | (rw [XU];unfold mP;rfl)
  | (exfalso;omega)
  | (rw [XU];unfold QD;rw [if_pos (by omega)])
  | (unfold QD;rw [if_neg (by omega)])
  | omega
noncomputable def SZ7:Sums:=⟨(32,A_ _ rF)::SZ6.one,SZ6.two,SZ6.lo,SZ6.eqs,SZ6.its,SZ6.imm⟩
theorem SZ7_ok:SumsOK Tryz.prog SZ7:=(SZ6_ok.cons Tryz.func32 (by kernel_rfl) (by kernel_rfl) xJ)
end
end Abs
end Go.Proofs.YtccgngldoinokaaGreat

namespace Go.Proofs.YtccgngldoinokaaGreat
namespace Abs
open Go Go.RowKit
noncomputable section
attribute [local irreducible] A2
@[irreducible]def ixB (a b c:Bool):Int:=if a=true then 0 else if b=true then 1 else if c=true then 2 else -1
@[irreducible]def clB (a b c:Bool):Bool:=a||b||c
def pg:Spec [.slice 1 [.bool],.bool]:=⟨fun ((n,_),(b:Bool),_)=>n=3/\b=true,fun ((_,el),_,_)=>.si .i64 (ixB (el 0).1 (el 1).1 (el 2).1)⟩
set_option maxRecDepth 100000 in
theorem vf:FnSpec Tryz.prog 66 _ pg:=by
 refine FnSpec.of SZ0_ok mixed (U:=5) (I:=fun _=>[]) Tryz.func66 rfl (by kernel_rfl) rfl rfl (by decide +kernel) ?_
 rintro ⟨⟨n,el⟩,(b:Bool),⟨⟩⟩ ⟨(hn:n=3),(hb:b=true)⟩
 subst hn hb
 obtain ⟨v,rfl⟩:∃ v:Nat->Bool,el=fun k=>(v k,()):=⟨fun k=>(el k).1,rfl⟩
 unfold A2
 conv=>arg 2;reduce
 simp [pg,and_assoc]
 unfold ixB
 cases v 0<;>cases v 1<;>cases v 2<;>simp
noncomputable def AV2:Sums:=⟨(66,A_ _ pg)::SZ0.one,SZ0.two,SZ0.lo,SZ0.eqs,SZ0.its,SZ0.imm⟩
theorem rW:SumsOK Tryz.prog AV2:=(SZ0_ok.cons Tryz.func66 (by kernel_rfl) (by kernel_rfl) vf)
def qe:Spec [.slice 1 [.bool],.bool]:=⟨fun ((n,_),(b:Bool),_)=>n=3/\b=true,fun ((_,el),_,_)=>.sb (clB (el 0).1 (el 1).1 (el 2).1)⟩
set_option maxRecDepth 100000 in
theorem wM:FnSpec Tryz.prog 31 _ qe:=by
 refine FnSpec.of rW mixed (U:=0) (I:=fun _=>[]) Tryz.func31 rfl (by kernel_rfl) rfl rfl (by decide +kernel) ?_
 rintro ⟨⟨n,el⟩,(b:Bool),⟨⟩⟩ ⟨(hn:n=3),(hb:b=true)⟩
 subst hn hb
 obtain ⟨v,rfl⟩:∃ v:Nat->Bool,el=fun k=>(v k,()):=⟨fun k=>(el k).1,rfl⟩
 unfold A2
 conv=>arg 2;reduce
 simp [qe,pg,and_assoc]
 unfold ixB clB
 cases v 0<;>cases v 1<;>cases v 2<;>simp
noncomputable def SZg0:Sums:=⟨(31,A_ _ qe)::(69,A_ _ QV)::(27,A_ _ jL)::SZ7.one,SZ7.two,SZ7.lo,SZ7.eqs,SZ7.its,SZ7.imm⟩
theorem rT:SumsOK Tryz.prog SZg0:=(((SZ7_ok.cons Tryz.func27 (by kernel_rfl) (by kernel_rfl) jK).cons Tryz.func69 (by kernel_rfl) (by kernel_rfl) jN).cons Tryz.func31 (by kernel_rfl) (by kernel_rfl) wM)
noncomputable def SZg1:Sums:=⟨SZg0.one,(34,F5 _ _ O4)::(36,F5 _ _ aU)::(37,F5 _ _ oO)::(38,F5 _ _ qn)::(39,F5 _ _ ol)::(40,F5 _ _ p8)::(41,F5 _ _ qY)::SZg0.two,SZg0.lo,SZg0.eqs,SZg0.its,SZg0.imm⟩
theorem SZg1_ok:SumsOK Tryz.prog SZg1:=SumsOK.addTwo (SumsOK.addTwo (SumsOK.addTwo (SumsOK.addTwo (SumsOK.addTwo (SumsOK.addTwo (SumsOK.addTwo rT Tryz.func41 (by kernel_rfl) (by kernel_rfl) (DS wK))
 Tryz.func40 (by kernel_rfl) (by kernel_rfl) (DS uU)) Tryz.func39 (by kernel_rfl) (by kernel_rfl) (DS uS)) Tryz.func38 (by kernel_rfl) (by kernel_rfl) (DS wQ))
 Tryz.func37 (by kernel_rfl) (by kernel_rfl) (DS uH)) Tryz.func36 (by kernel_rfl) (by kernel_rfl) (DS oZ)) Tryz.func34 (by kernel_rfl) (by kernel_rfl) (DS gk)
noncomputable def SZg:Sums:=⟨SZg1.one,SZg1.two,SZg1.lo,SZg1.eqs,SZg1.its,[122,129,74]⟩
theorem xZ:SumsOK Tryz.prog SZg:=SZg1_ok.setImm _
@[irreducible]def Uk (m:Mc) (s:Sg):Int:=CX m.a0 (QD (AF m s) 0)
@[irreducible]def Uj (m:Mc) (s:Sg):Int:=CX m.a1 (QD (AF m s) 1)
@[irreducible]def Ui (m:Mc) (s:Sg):Int:=CX m.a2 (QD (AF m s) 2)
@[irreducible]def FO (m:Mc) (s:Sg) (k:Nat):Int:=match k with
 | 0=>CX m.h0 (Di (AF m s) 0)
 | 1=>CX m.h1 (Di (AF m s) 1)
 | 2=>CX m.h2 (Di (AF m s) 2)
 | 3=>CX m.h3 (Di (AF m s) 3)
 | 4=>CX m.h4 (Di (AF m s) 4)
 | 5=>CX m.h5 (Di (AF m s) 5)
 | _=>CX m.h6 (Di (AF m s) 6)
@[irreducible]def mA (m:Mc) (s:Sg):Mc:=⟨m.g,m.ph,m.ca,m.b0||Mi m.g.d6 (Uk m s),m.b1||Mi m.g.d6 (Uj m s),m.b2||Mi m.g.d6 (Ui m s),FO m s 0,FO m s 1,FO m s 2,FO m s 3,FO m s 4,FO m s 5,FO m s 6,Uk m s,Uj m s,Ui m s,m.mi,m.ti,m.d0,m.d1,m.d2,m.fi⟩
@[irreducible]def EI (g:Gd) (k:Nat):Int:=match k with
 | 0=>g.d0|1=>g.d1|2=>g.d2|3=>g.d3|4=>g.d4|5=>g.d5|_=>g.d6
def HA (m:Mc) (s:Sg):Nat->Int
 | 0=>m.ca
 | n+1=>if EI m.g n<=FO m s n then GB (HA m s n) ((n:Int)+1) else HA m s n
theorem t7 (m:Mc) (s:Sg):HA m s 0=m.ca:=rfl
theorem lR (m:Mc) (s:Sg) (n:Nat):HA m s (n+1)=if EI m.g n<=FO m s n then GB (HA m s n) ((n:Int)+1) else HA m s n:=rfl
attribute [irreducible] HA
@[irreducible]def mK (m:Mc) (s:Sg) (n:Nat):Mc:=(mA m s).s_ca (HA m s n)
@[irreducible]def t8 (m:Mc) (s:Sg):Int:=if WP s.c0 s.c1 s.c2=true then GB (HA m s 7) 8 else HA m s 7
@[irreducible]def mW (m:Mc) (s:Sg):Mc:=(mA m s).s_ca (t8 m s)
@[irreducible]def t6 (m:Mc) (s:Sg):Int:=if WP s.w0 s.w1 s.w2=true then GB (t8 m s) 9 else t8 m s
@[irreducible]def mB (m:Mc) (s:Sg):Mc:=(mA m s).s_ca (t6 m s)
@[irreducible]def Gu (m:Mc) (s:Sg):Sn:=Dm s (Di (AF m s) 0) (Di (AF m s) 1) (Di (AF m s) 2) (Di (AF m s) 3) (Di (AF m s) 4) (Di (AF m s) 5) (Di (AF m s) 6) (qd (AF m s)) (clB s.k0 s.k1 s.k2)
@[irreducible]def mC (m:Mc) (s:Sg):Mc:=if m.ph=0 then Tk (mB m s) (Gu m s) else if m.ph=1 then Tf (mB m s) (Gu m s) else if m.ph=2 then Nc (mB m s) (Gu m s) else if m.ph=3 then QS (mB m s) (Gu m s) else if m.ph=4 then NZ (mB m s) (Gu m s) else mB m s
@[irreducible]def Az (m:Mc) (s:Sg):Mc:=((((mC m s).s_d0 (decide ((mC m s).ph=2))).s_d1 (decide ((mC m s).ph=1)||decide ((mC m s).ph=2))).s_d2 (decide ((mC m s).ph=1))).s_fi (decide ((mC m s).ph=5))
structure MsOK (m:Mc) (s:Sg):Prop where
 mc:McOK m
 lk : -1099511627776<=s.lk/\s.lk<=1099511627776 /\ -1099511627776<=s.pk/\s.pk<=1099511627776
 pn:PnOK (AF m s)
 ph:0<=m.ph/\m.ph<=5
 h0:0<=m.h0/\m.h0<=1000000
 h1:0<=m.h1/\m.h1<=1000000
 h2:0<=m.h2/\m.h2<=1000000
 h3:0<=m.h3/\m.h3<=1000000
 h4:0<=m.h4/\m.h4<=1000000
 h5:0<=m.h5/\m.h5<=1000000
 h6:0<=m.h6/\m.h6<=1000000
 a0:0<=m.a0/\m.a0<=1000000
 a1:0<=m.a1/\m.a1<=1000000
 a2:0<=m.a2/\m.a2<=1000000
def nI:SpecF mL [.own 0 0,.agg iI]:=⟨fun (x,_) (_,s,_)=>mJ x/\MsOK (G4 x) (LF s),fun (x,_) (_,s,_)=>.tup [.agg [.sb (Az (G4 x) (LF s)).d0,.sb (Az (G4 x) (LF s)).d1,.sb (Az (G4 x) (LF s)).d2,.sb (Az (G4 x) (LF s)).fi],.li .i64 0],fun (x,_) (_,s,_)=>Xb (Az (G4 x) (LF s))⟩
@[irreducible]def HG (m:Mc) (s:Sg):Mc:=⟨m.g,m.ph,m.ca,m.b0||Mi m.g.d6 (Uk m s),m.b1||Mi m.g.d6 (Uj m s),m.b2||Mi m.g.d6 (Ui m s),m.h0,m.h1,m.h2,m.h3,m.h4,m.h5,m.h6,Uk m s,Uj m s,Ui m s,m.mi,m.ti,m.d0,m.d1,m.d2,m.fi⟩
theorem UY (m:Mc) (s:Sg):Uk m s=CX m.a0 (QD (AF m s) 0):=by unfold Uk;rfl
theorem UX (m:Mc) (s:Sg):Uj m s=CX m.a1 (QD (AF m s) 1):=by unfold Uj;rfl
theorem UW (m:Mc) (s:Sg):Ui m s=CX m.a2 (QD (AF m s) 2):=by unfold Ui;rfl
theorem Wn (m:Mc) (s:Sg):FO m s 0=CX m.h0 (Di (AF m s) 0):=by unfold FO;rfl
theorem Wm (m:Mc) (s:Sg):FO m s 1=CX m.h1 (Di (AF m s) 1):=by unfold FO;rfl
theorem Wl (m:Mc) (s:Sg):FO m s 2=CX m.h2 (Di (AF m s) 2):=by unfold FO;rfl
theorem Wk (m:Mc) (s:Sg):FO m s 3=CX m.h3 (Di (AF m s) 3):=by unfold FO;rfl
theorem Wj (m:Mc) (s:Sg):FO m s 4=CX m.h4 (Di (AF m s) 4):=by unfold FO;rfl
theorem Wi (m:Mc) (s:Sg):FO m s 5=CX m.h5 (Di (AF m s) 5):=by unfold FO;rfl
theorem Wh (m:Mc) (s:Sg):FO m s 6=CX m.h6 (Di (AF m s) 6):=by unfold FO;rfl
theorem AF6 (m:Mc) (s:Sg):(HG m s).g=m.g:=by unfold HG;simp
theorem vB (m:Mc) (s:Sg):(HG m s).ph=m.ph:=by unfold HG;simp
theorem vO (m:Mc) (s:Sg):(HG m s).ca=m.ca:=by unfold HG;simp
theorem vR (m:Mc) (s:Sg):(HG m s).b0=(m.b0||Mi m.g.d6 (Uk m s)):=by unfold HG;simp
theorem vQ (m:Mc) (s:Sg):(HG m s).b1=(m.b1||Mi m.g.d6 (Uj m s)):=by unfold HG;simp
theorem vP (m:Mc) (s:Sg):(HG m s).b2=(m.b2||Mi m.g.d6 (Ui m s)):=by unfold HG;simp
theorem vJ (m:Mc) (s:Sg):(HG m s).h0=m.h0:=by unfold HG;simp
theorem vI (m:Mc) (s:Sg):(HG m s).h1=m.h1:=by unfold HG;simp
theorem vH (m:Mc) (s:Sg):(HG m s).h2=m.h2:=by unfold HG;simp
theorem vG (m:Mc) (s:Sg):(HG m s).h3=m.h3:=by unfold HG;simp
theorem vF (m:Mc) (s:Sg):(HG m s).h4=m.h4:=by unfold HG;simp
theorem vE (m:Mc) (s:Sg):(HG m s).h5=m.h5:=by unfold HG;simp
theorem vD (m:Mc) (s:Sg):(HG m s).h6=m.h6:=by unfold HG;simp
theorem vU (m:Mc) (s:Sg):(HG m s).a0=Uk m s:=by unfold HG;simp
theorem vT (m:Mc) (s:Sg):(HG m s).a1=Uj m s:=by unfold HG;simp
theorem vS (m:Mc) (s:Sg):(HG m s).a2=Ui m s:=by unfold HG;simp
theorem vC (m:Mc) (s:Sg):(HG m s).mi=m.mi:=by unfold HG;simp
theorem vA (m:Mc) (s:Sg):(HG m s).ti=m.ti:=by unfold HG;simp
theorem vN (m:Mc) (s:Sg):(HG m s).d0=m.d0:=by unfold HG;simp
theorem vM (m:Mc) (s:Sg):(HG m s).d1=m.d1:=by unfold HG;simp
theorem vL (m:Mc) (s:Sg):(HG m s).d2=m.d2:=by unfold HG;simp
theorem vK (m:Mc) (s:Sg):(HG m s).fi=m.fi:=by unfold HG;simp
theorem pS (m:Mc) (s:Sg):(mA m s).g=m.g:=by unfold mA;simp
theorem bJ (m:Mc) (s:Sg):(mA m s).ph=m.ph:=by unfold mA;simp
theorem AF5 (m:Mc) (s:Sg):(mA m s).ca=m.ca:=by unfold mA;simp
theorem SF (m:Mc) (s:Sg):(mA m s).b0=(m.b0||Mi m.g.d6 (Uk m s)):=by unfold mA;simp
theorem SE (m:Mc) (s:Sg):(mA m s).b1=(m.b1||Mi m.g.d6 (Uj m s)):=by unfold mA;simp
theorem SD (m:Mc) (s:Sg):(mA m s).b2=(m.b2||Mi m.g.d6 (Ui m s)):=by unfold mA;simp
theorem bR (m:Mc) (s:Sg):(mA m s).h0=FO m s 0:=by unfold mA;simp
theorem bQ (m:Mc) (s:Sg):(mA m s).h1=FO m s 1:=by unfold mA;simp
theorem bP (m:Mc) (s:Sg):(mA m s).h2=FO m s 2:=by unfold mA;simp
theorem bO (m:Mc) (s:Sg):(mA m s).h3=FO m s 3:=by unfold mA;simp
theorem bN (m:Mc) (s:Sg):(mA m s).h4=FO m s 4:=by unfold mA;simp
theorem bM (m:Mc) (s:Sg):(mA m s).h5=FO m s 5:=by unfold mA;simp
theorem bL (m:Mc) (s:Sg):(mA m s).h6=FO m s 6:=by unfold mA;simp
theorem bY (m:Mc) (s:Sg):(mA m s).a0=Uk m s:=by unfold mA;simp
theorem bX (m:Mc) (s:Sg):(mA m s).a1=Uj m s:=by unfold mA;simp
theorem bW (m:Mc) (s:Sg):(mA m s).a2=Ui m s:=by unfold mA;simp
theorem bK (m:Mc) (s:Sg):(mA m s).mi=m.mi:=by unfold mA;simp
theorem bI (m:Mc) (s:Sg):(mA m s).ti=m.ti:=by unfold mA;simp
theorem bV (m:Mc) (s:Sg):(mA m s).d0=m.d0:=by unfold mA;simp
theorem bU (m:Mc) (s:Sg):(mA m s).d1=m.d1:=by unfold mA;simp
theorem bT (m:Mc) (s:Sg):(mA m s).d2=m.d2:=by unfold mA;simp
theorem bS (m:Mc) (s:Sg):(mA m s).fi=m.fi:=by unfold mA;simp
theorem AT3 (m:Mc) (s:Sg) (n:Nat):(mK m s n).g=m.g:=by unfold mK;simp [pS]
theorem AC9 (m:Mc) (s:Sg) (n:Nat):(mK m s n).ph=m.ph:=by unfold mK;simp [bJ]
theorem AE2 (m:Mc) (s:Sg) (n:Nat):(mK m s n).ca=HA m s n:=by unfold mK;simp
theorem AE5 (m:Mc) (s:Sg) (n:Nat):(mK m s n).b0=(m.b0||Mi m.g.d6 (Uk m s)):=by unfold mK;simp [SF]
theorem AE4 (m:Mc) (s:Sg) (n:Nat):(mK m s n).b1=(m.b1||Mi m.g.d6 (Uj m s)):=by unfold mK;simp [SE]
theorem AE3 (m:Mc) (s:Sg) (n:Nat):(mK m s n).b2=(m.b2||Mi m.g.d6 (Ui m s)):=by unfold mK;simp [SD]
theorem AD7 (m:Mc) (s:Sg) (n:Nat):(mK m s n).h0=FO m s 0:=by unfold mK;simp [bR]
theorem AD6 (m:Mc) (s:Sg) (n:Nat):(mK m s n).h1=FO m s 1:=by unfold mK;simp [bQ]
theorem AD5 (m:Mc) (s:Sg) (n:Nat):(mK m s n).h2=FO m s 2:=by unfold mK;simp [bP]
theorem AD4 (m:Mc) (s:Sg) (n:Nat):(mK m s n).h3=FO m s 3:=by unfold mK;simp [bO]
theorem AD3 (m:Mc) (s:Sg) (n:Nat):(mK m s n).h4=FO m s 4:=by unfold mK;simp [bN]
theorem AD2 (m:Mc) (s:Sg) (n:Nat):(mK m s n).h5=FO m s 5:=by unfold mK;simp [bM]
theorem AD1 (m:Mc) (s:Sg) (n:Nat):(mK m s n).h6=FO m s 6:=by unfold mK;simp [bL]
theorem AE8 (m:Mc) (s:Sg) (n:Nat):(mK m s n).a0=Uk m s:=by unfold mK;simp [bY]
theorem AE7 (m:Mc) (s:Sg) (n:Nat):(mK m s n).a1=Uj m s:=by unfold mK;simp [bX]
theorem AE6 (m:Mc) (s:Sg) (n:Nat):(mK m s n).a2=Ui m s:=by unfold mK;simp [bW]
theorem AD0 (m:Mc) (s:Sg) (n:Nat):(mK m s n).mi=m.mi:=by unfold mK;simp [bK]
theorem AC8 (m:Mc) (s:Sg) (n:Nat):(mK m s n).ti=m.ti:=by unfold mK;simp [bI]
theorem AE1 (m:Mc) (s:Sg) (n:Nat):(mK m s n).d0=m.d0:=by unfold mK;simp [bV]
theorem AE0 (m:Mc) (s:Sg) (n:Nat):(mK m s n).d1=m.d1:=by unfold mK;simp [bU]
theorem AD9 (m:Mc) (s:Sg) (n:Nat):(mK m s n).d2=m.d2:=by unfold mK;simp [bT]
theorem AD8 (m:Mc) (s:Sg) (n:Nat):(mK m s n).fi=m.fi:=by unfold mK;simp [bS]
theorem v_ (m:Mc) (s:Sg):(mB m s).g=m.g:=by unfold mB;simp [pS]
theorem jT (m:Mc) (s:Sg):(mB m s).ph=m.ph:=by unfold mB;simp [bJ]
theorem jb (m:Mc) (s:Sg):(mB m s).ca=t6 m s:=by unfold mB;simp
theorem je (m:Mc) (s:Sg):(mB m s).b0=(m.b0||Mi m.g.d6 (Uk m s)):=by unfold mB;simp [SF]
theorem jd (m:Mc) (s:Sg):(mB m s).b1=(m.b1||Mi m.g.d6 (Uj m s)):=by unfold mB;simp [SE]
theorem jc (m:Mc) (s:Sg):(mB m s).b2=(m.b2||Mi m.g.d6 (Ui m s)):=by unfold mB;simp [SD]
theorem ja (m:Mc) (s:Sg):(mB m s).h0=FO m s 0:=by unfold mB;simp [bR]
theorem jZ (m:Mc) (s:Sg):(mB m s).h1=FO m s 1:=by unfold mB;simp [bQ]
theorem jY (m:Mc) (s:Sg):(mB m s).h2=FO m s 2:=by unfold mB;simp [bP]
theorem jX (m:Mc) (s:Sg):(mB m s).h3=FO m s 3:=by unfold mB;simp [bO]
theorem jW (m:Mc) (s:Sg):(mB m s).h4=FO m s 4:=by unfold mB;simp [bN]
theorem jV (m:Mc) (s:Sg):(mB m s).h5=FO m s 5:=by unfold mB;simp [bM]
theorem jU (m:Mc) (s:Sg):(mB m s).h6=FO m s 6:=by unfold mB;simp [bL]
theorem jh (m:Mc) (s:Sg):(mB m s).a0=Uk m s:=by unfold mB;simp [bY]
theorem jg (m:Mc) (s:Sg):(mB m s).a1=Uj m s:=by unfold mB;simp [bX]
theorem jf (m:Mc) (s:Sg):(mB m s).a2=Ui m s:=by unfold mB;simp [bW]
theorem PQ (m:Mc) (s:Sg):(mB m s).mi=m.mi:=by unfold mB;simp [bK]
theorem PP (m:Mc) (s:Sg):(mB m s).ti=m.ti:=by unfold mB;simp [bI]
theorem sq (m:Mc) (s:Sg):(mB m s).d0=m.d0:=by unfold mB;simp [bV]
theorem so (m:Mc) (s:Sg):(mB m s).d1=m.d1:=by unfold mB;simp [bU]
theorem sn (m:Mc) (s:Sg):(mB m s).d2=m.d2:=by unfold mB;simp [bT]
theorem sl (m:Mc) (s:Sg):(mB m s).fi=m.fi:=by unfold mB;simp [bS]
theorem AT2 (m:Mc) (s:Sg):(mW m s).g=m.g:=by unfold mW;simp [pS]
theorem AA8 (m:Mc) (s:Sg):(mW m s).ph=m.ph:=by unfold mW;simp [bJ]
theorem AC1 (m:Mc) (s:Sg):(mW m s).ca=t8 m s:=by unfold mW;simp
theorem AC4 (m:Mc) (s:Sg):(mW m s).b0=(m.b0||Mi m.g.d6 (Uk m s)):=by unfold mW;simp [SF]
theorem AC3 (m:Mc) (s:Sg):(mW m s).b1=(m.b1||Mi m.g.d6 (Uj m s)):=by unfold mW;simp [SE]
theorem AC2 (m:Mc) (s:Sg):(mW m s).b2=(m.b2||Mi m.g.d6 (Ui m s)):=by unfold mW;simp [SD]
theorem AB6 (m:Mc) (s:Sg):(mW m s).h0=FO m s 0:=by unfold mW;simp [bR]
theorem AB5 (m:Mc) (s:Sg):(mW m s).h1=FO m s 1:=by unfold mW;simp [bQ]
theorem AB4 (m:Mc) (s:Sg):(mW m s).h2=FO m s 2:=by unfold mW;simp [bP]
theorem AB3 (m:Mc) (s:Sg):(mW m s).h3=FO m s 3:=by unfold mW;simp [bO]
theorem AB2 (m:Mc) (s:Sg):(mW m s).h4=FO m s 4:=by unfold mW;simp [bN]
theorem AB1 (m:Mc) (s:Sg):(mW m s).h5=FO m s 5:=by unfold mW;simp [bM]
theorem AB0 (m:Mc) (s:Sg):(mW m s).h6=FO m s 6:=by unfold mW;simp [bL]
theorem AC7 (m:Mc) (s:Sg):(mW m s).a0=Uk m s:=by unfold mW;simp [bY]
theorem AC6 (m:Mc) (s:Sg):(mW m s).a1=Uj m s:=by unfold mW;simp [bX]
theorem AC5 (m:Mc) (s:Sg):(mW m s).a2=Ui m s:=by unfold mW;simp [bW]
theorem AA9 (m:Mc) (s:Sg):(mW m s).mi=m.mi:=by unfold mW;simp [bK]
theorem AA7 (m:Mc) (s:Sg):(mW m s).ti=m.ti:=by unfold mW;simp [bI]
theorem AC0 (m:Mc) (s:Sg):(mW m s).d0=m.d0:=by unfold mW;simp [bV]
theorem AB9 (m:Mc) (s:Sg):(mW m s).d1=m.d1:=by unfold mW;simp [bU]
theorem AB8 (m:Mc) (s:Sg):(mW m s).d2=m.d2:=by unfold mW;simp [bT]
theorem AB7 (m:Mc) (s:Sg):(mW m s).fi=m.fi:=by unfold mW;simp [bS]
theorem NR {m:Mc} {s:Sg} (n:Nat) (h:EI m.g n<=FO m s n):HA m s (n+1)=GB (HA m s n) ((n:Int)+1):=by rw [lR,if_pos h]
theorem Q5 {m:Mc} {s:Sg} (n:Nat) (h:FO m s n<EI m.g n):HA m s (n+1)=HA m s n:=by rw [lR,if_neg (by omega)]
theorem wk {m:Mc} {s:Sg} (h:m.g.d0<=CX m.h0 (Di (AF m s) 0)):GB (m.ca) 1=HA m s 1:=by
 rw [NR 0 (by unfold EI;rw [Wn];exact h)]
 rw [t7]
 rfl
theorem wr {m:Mc} {s:Sg} (h:CX m.h0 (Di (AF m s) 0)<m.g.d0):m.ca=HA m s 1:=by
 rw [Q5 0 (by unfold EI;rw [Wn];exact h)]
 rw [t7]
theorem wj {m:Mc} {s:Sg} (h:m.g.d1<=CX m.h1 (Di (AF m s) 1)):GB (HA m s 1) 2=HA m s 2:=by
 rw [NR 1 (by unfold EI;rw [Wm];exact h)]
 rfl
theorem wq {m:Mc} {s:Sg} (h:CX m.h1 (Di (AF m s) 1)<m.g.d1):HA m s 1=HA m s 2:=by
 rw [Q5 1 (by unfold EI;rw [Wm];exact h)]
theorem wi {m:Mc} {s:Sg} (h:m.g.d2<=CX m.h2 (Di (AF m s) 2)):GB (HA m s 2) 3=HA m s 3:=by
 rw [NR 2 (by unfold EI;rw [Wl];exact h)]
 rfl
theorem wp {m:Mc} {s:Sg} (h:CX m.h2 (Di (AF m s) 2)<m.g.d2):HA m s 2=HA m s 3:=by
 rw [Q5 2 (by unfold EI;rw [Wl];exact h)]
theorem wh {m:Mc} {s:Sg} (h:m.g.d3<=CX m.h3 (Di (AF m s) 3)):GB (HA m s 3) 4=HA m s 4:=by
 rw [NR 3 (by unfold EI;rw [Wk];exact h)]
 rfl
theorem wo {m:Mc} {s:Sg} (h:CX m.h3 (Di (AF m s) 3)<m.g.d3):HA m s 3=HA m s 4:=by
 rw [Q5 3 (by unfold EI;rw [Wk];exact h)]
theorem wg {m:Mc} {s:Sg} (h:m.g.d4<=CX m.h4 (Di (AF m s) 4)):GB (HA m s 4) 5=HA m s 5:=by
 rw [NR 4 (by unfold EI;rw [Wj];exact h)]
 rfl
theorem wn {m:Mc} {s:Sg} (h:CX m.h4 (Di (AF m s) 4)<m.g.d4):HA m s 4=HA m s 5:=by
 rw [Q5 4 (by unfold EI;rw [Wj];exact h)]
theorem we {m:Mc} {s:Sg} (h:m.g.d5<=CX m.h5 (Di (AF m s) 5)):GB (HA m s 5) 6=HA m s 6:=by
 rw [NR 5 (by unfold EI;rw [Wi];exact h)]
 rfl
theorem wm {m:Mc} {s:Sg} (h:CX m.h5 (Di (AF m s) 5)<m.g.d5):HA m s 5=HA m s 6:=by
 rw [Q5 5 (by unfold EI;rw [Wi];exact h)]
theorem wc {m:Mc} {s:Sg} (h:m.g.d6<=CX m.h6 (Di (AF m s) 6)):GB (HA m s 6) 7=HA m s 7:=by
 rw [NR 6 (by unfold EI;rw [Wh];exact h)]
 rfl
theorem wl {m:Mc} {s:Sg} (h:CX m.h6 (Di (AF m s) 6)<m.g.d6):HA m s 6=HA m s 7:=by
 rw [Q5 6 (by unfold EI;rw [Wh];exact h)]
theorem AF4 {m:Mc} {s:Sg} (h:m.ph=0):mC m s=Tk (mB m s) (Gu m s):=by unfold mC;rw [if_pos h]
theorem AF3 {m:Mc} {s:Sg} (h:m.ph=1):mC m s=Tf (mB m s) (Gu m s):=by unfold mC;rw [if_neg (by omega),if_pos h]
theorem AF2 {m:Mc} {s:Sg} (h:m.ph=2):mC m s=Nc (mB m s) (Gu m s):=by unfold mC;rw [if_neg (by omega),if_neg (by omega),if_pos h]
theorem AF1 {m:Mc} {s:Sg} (h:m.ph=3):mC m s=QS (mB m s) (Gu m s):=by unfold mC;rw [if_neg (by omega),if_neg (by omega),if_neg (by omega),if_pos h]
theorem AF0 {m:Mc} {s:Sg} (h:m.ph=4):mC m s=NZ (mB m s) (Gu m s):=by unfold mC;rw [if_neg (by omega),if_neg (by omega),if_neg (by omega),if_neg (by omega),if_pos h]
theorem AE9 {m:Mc} {s:Sg} (h:m.ph=5):mC m s=mB m s:=by unfold mC;rw [if_neg (by omega),if_neg (by omega),if_neg (by omega),if_neg (by omega),if_neg (by omega)]
theorem TR (m:Mc) (s:Sg):Gu m s=Dm s (Di (AF m s) 0) (Di (AF m s) 1) (Di (AF m s) 2) (Di (AF m s) 3) (Di (AF m s) 4) (Di (AF m s) 5) (Di (AF m s) 6) (qd (AF m s)) (clB s.k0 s.k1 s.k2):=by unfold Gu;rfl
def Vj {β:Type}:Nat->(Nat->β)->β
 | 0,k=>k 0
 | n+1,k=>Vj n fun m=>k (m+1)
@[reducible]def yW (m:Mc):Blk:=.cells 103 (Na m)
@[reducible]def nH (m:Mc) (s:Sg):Cz:=[
 (1048584,[],fun fr hp=>⟨Unit,fun _=>⟨J1 [.k 6,.s (.xp (zj (AF m s))),.s (.xp (zO (Gu m s))),.t 45,.s (.agg [.sb (QD (AF m s) 0),.sb (QD (AF m s) 1),.sb (QD (AF m s) 2)]),.s (.li .i64 0),.t 152] fr,hp⟩,Unit,fun _=>(),fun _=>True,fun _=>0⟩),
 (1048589,[],fun fr hp=>⟨Unit,fun _=>⟨J1 [.k 8,.t 199] fr,AM hp 0 (yW (HG m s))⟩,Unit,fun _=>(),fun _=>True,fun _=>0⟩),
 (1048594,[],fun fr hp=>⟨Unit,fun _=>⟨J1 [.k 8,.t 199] fr,AM hp 0 (yW (mA m s))⟩,Unit,fun _=>(),fun _=>True,fun _=>0⟩),
 (1048599,[],fun fr hp=>⟨Unit,fun _=>Vj (AA (A4 fr 126)).toNat fun n=>⟨J1 [.k 8,.t 117,.k 2,.t 80] fr,AM hp 0 (yW (mK m s (n+1)))⟩,Unit,fun _=>(),fun _=>True,fun _=>0⟩),
 (1048602,[],fun fr hp=>⟨Unit,fun _=>⟨J1 [.k 8,.t 199] fr,AM hp 0 (yW (mW m s))⟩,Unit,fun _=>(),fun _=>True,fun _=>0⟩),
 (1048604,[],fun fr hp=>⟨Unit,fun _=>⟨J1 [.k 8,.t 199] fr,AM hp 0 (yW (mB m s))⟩,Unit,fun _=>(),fun _=>True,fun _=>0⟩),
 (4194337,[],fun _ _=>Gp),(4194339,[],fun _ _=>Gp),
 (1048606,[],fun fr hp=>⟨Unit,fun _=>⟨J1 [.k 8,.t 199] fr,AM hp 0 (yW (mC m s))⟩,Unit,fun _=>(),fun _=>True,fun _=>0⟩)]
def zN:L0 mL->Ad [.own 0 0,.agg iI]->Cz:=fun (x,_) (_,s,_)=>nH (G4 x) (LF s)
end
end Abs
end Go.Proofs.YtccgngldoinokaaGreat

namespace Go.Proofs.YtccgngldoinokaaGreat
namespace Abs
open Go Go.RowKit
noncomputable section
theorem AT0 (a b:Int):([a,b].mergeSort fun x y=>decide (x<=y))=if a<=b then [a,b] else [b,a]:=by
 simp [List.mergeSort,List.MergeSort.Internal.splitInTwo,List.merge]
theorem AS9 (a b c:Int):([a,b,c].mergeSort fun x y=>decide (x<=y))=if a<=b then (if b<=c then [a,b,c] else if a<=c then [a,c,b] else [c,a,b]) else (if a<=c then [b,a,c] else if b<=c then [b,c,a] else [c,b,a]):=by
 simp [List.mergeSort,List.MergeSort.Internal.splitInTwo,List.merge]
 by_cases h1:a<=b<;>simp [h1,List.merge]<;>by_cases h2:a<=c<;>by_cases h3:b<=c<;>simp [h2,h3]<;>omega
theorem za (v:Nat->Int):(List.range 2).map v=[v 0,v 1]:=rfl
theorem zZ (v:Nat->Int):(List.range 3).map v=[v 0,v 1,v 2]:=rfl
theorem nL {v:Nat->Int} {lo hi:Int} (h:(lo<=v 0/\v 0<=hi/\lo<=v 1/\v 1<=hi)\/(lo<=v 0/\v 0<=hi/\lo<=v 2/\v 2<=hi)\/(lo<=v 1/\v 1<=hi/\lo<=v 2/\v 2<=hi)):lo<=Hr 3 v 1/\Hr 3 v 1<=hi:=by
 unfold Hr
 rw [zZ,AS9]
 by_cases h1:v 0<=v 1<;>by_cases h2:v 0<=v 2<;>by_cases h3:v 1<=v 2<;>simp [h1,h2,h3]<;>omega
theorem nK (v:Nat->Int):(Hr 2 v 0=v 0/\Hr 2 v 1=v 1/\v 0<=v 1)\/(Hr 2 v 0=v 1/\Hr 2 v 1=v 0/\v 1<=v 0):=by
 unfold Hr
 rw [za,AT0]
 by_cases h1:v 0<=v 1<;>simp [h1]<;>omega
def T5 (p:Pn) (q:Nat) (lo hi:Int):Prop :=
 (XZ p=true/\XY p=true/\lo<=CZ p 0 q/\CZ p 0 q<=hi/\lo<=CZ p 1 q/\CZ p 1 q<=hi)\/(XZ p=true/\XX p=true/\lo<=CZ p 0 q/\CZ p 0 q<=hi/\lo<=CZ p 2 q/\CZ p 2 q<=hi)\/(XY p=true/\XX p=true/\lo<=CZ p 1 q/\CZ p 1 q<=hi/\lo<=CZ p 2 q/\CZ p 2 q<=hi)
theorem J8 {p:Pn} {q:Nat} {lo hi:Int} (h:T5 p q lo hi) (hs:hi-lo<=AX q):J2 p q=true/\lo<=Ju p q/\Ju p q<=hi/\lo<=Jt p q/\Jt p q<=hi/\(Et p=3->lo<=De p q 1/\De p q 1<=hi)/\2<=Et p:=by
 have eV:∀ k,De p q k=Hr (Et p) (fun j=>(JC p q).getD j 0) k:=fun k=>by unfold De;rfl
 have eN:=MQ p q
 have two:Et p=2->(lo<=De p q 0/\De p q 0<=hi/\lo<=De p q 1/\De p q 1<=hi/\De p q 0<=De p q 1)->J2 p q=true/\lo<=Ju p q/\Ju p q<=hi/\lo<=Jt p q/\Jt p q<=hi/\(Et p=3->lo<=De p q 1/\De p q 1<=hi)/\2<=Et p:=fun h2 hv=>by
  have hf:ID (De p q 0) (De p q 1) (AX q)=false:=by
   cases hb:ID (De p q 0) (De p q 1) (AX q) with
   | false=>rfl
   | true=>have:=faB_iff.1 hb;omega
  obtain ⟨a,b,c⟩:=GJ (p:=p) (q:=q) (by omega) hf
  rw [a,b,c]
  exact ⟨rfl,hv.1,hv.2.1,hv.2.2.1,hv.2.2.2.1,fun h=>by omega,by omega⟩
 have three:Et p=3->(lo<=De p q 1/\De p q 1<=hi)->J2 p q=true/\lo<=Ju p q/\Ju p q<=hi/\lo<=Jt p q/\Jt p q<=hi/\(Et p=3->lo<=De p q 1/\De p q 1<=hi)/\2<=Et p:=fun h3 hv=>by
  obtain ⟨a,b,c⟩:=GI (p:=p) (q:=q) (by omega)
  rw [a,b,c]
  exact ⟨rfl,hv.1,hv.2,hv.1,hv.2,fun _=>hv,by omega⟩
 have pair:∀ a b,JC p q=[a,b]->(lo<=a/\a<=hi/\lo<=b/\b<=hi)->J2 p q=true/\lo<=Ju p q/\Ju p q<=hi/\lo<=Jt p q/\Jt p q<=hi/\(Et p=3->lo<=De p q 1/\De p q 1<=hi)/\2<=Et p:=fun a b hl hv=>by
  have h2:Et p=2:=by rw [eN,hl];rfl
  have s0:=eV 0
  have s1:=eV 1
  rw [h2,hl] at s0 s1
  have:=nK (fun j=>[a,b].getD j 0)
  simp only [List.getD_cons_zero,List.getD_cons_succ] at this
  exact two h2 (by rw [s0,s1];omega)
 have trip:∀ a b c,JC p q=[a,b,c]->((lo<=a/\a<=hi/\lo<=b/\b<=hi)\/(lo<=a/\a<=hi/\lo<=c/\c<=hi)\/(lo<=b/\b<=hi/\lo<=c/\c<=hi))->J2 p q=true/\lo<=Ju p q/\Ju p q<=hi/\lo<=Jt p q/\Jt p q<=hi/\(Et p=3->lo<=De p q 1/\De p q 1<=hi)/\2<=Et p:=fun a b c hl hv=>by
  have h3:Et p=3:=by rw [eN,hl];rfl
  have s1:=eV 1
  rw [h3,hl] at s1
  have:=nL (v:=fun j=>[a,b,c].getD j 0) (lo:=lo) (hi:=hi) hv
  exact three h3 (by rw [s1];exact this)
 rcases h with ⟨a,b,hv⟩|⟨a,b,hv⟩|⟨a,b,hv⟩
 ·cases c:XX p with
  | true=>exact trip (CZ p 0 q) (CZ p 1 q) (CZ p 2 q) (by unfold JC;rw [a,b,c];rfl) (.inl hv)
  | false=>exact pair (CZ p 0 q) (CZ p 1 q) (by unfold JC;rw [a,b,c];rfl) hv
 ·cases c:XY p with
  | true=>exact trip (CZ p 0 q) (CZ p 1 q) (CZ p 2 q) (by unfold JC;rw [a,b,c];rfl) (.inr (.inl hv))
  | false=>exact pair (CZ p 0 q) (CZ p 2 q) (by unfold JC;rw [a,b,c];rfl) hv
 ·cases c:XZ p with
  | true=>exact trip (CZ p 0 q) (CZ p 1 q) (CZ p 2 q) (by unfold JC;rw [a,b,c];rfl) (.inr (.inr hv))
  | false=>exact pair (CZ p 1 q) (CZ p 2 q) (by unfold JC;rw [a,b,c];rfl) hv
end
end Abs
end Go.Proofs.YtccgngldoinokaaGreat

namespace Go.Proofs.YtccgngldoinokaaGreat
namespace Abs
open Go Go.RowKit
noncomputable section
attribute [local irreducible] A2
structure TrOK (t:Tru):Prop where
 x0 : -1099511627776<=t.x0/\t.x0<=1099511627776
 l0 : -1099511627776<=t.l0/\t.l0<=1099511627776
 x1 : -1099511627776<=t.x1/\t.x1<=1099511627776
 l1 : -1099511627776<=t.l1/\t.l1<=1099511627776
 x2 : -1099511627776<=t.x2/\t.x2<=1099511627776
 l2 : -1099511627776<=t.l2/\t.l2<=1099511627776
 x3 : -1099511627776<=t.x3/\t.x3<=1099511627776
 l3 : -1099511627776<=t.l3/\t.l3<=1099511627776
 x4 : -1099511627776<=t.x4/\t.x4<=1099511627776
 l4 : -1099511627776<=t.l4/\t.l4<=1099511627776
 e00 : -549755813888<=t.e00/\t.e00<=549755813888
 e01 : -549755813888<=t.e01/\t.e01<=549755813888
 e02 : -549755813888<=t.e02/\t.e02<=549755813888
 e03 : -549755813888<=t.e03/\t.e03<=549755813888
 e04 : -549755813888<=t.e04/\t.e04<=549755813888
 e10 : -549755813888<=t.e10/\t.e10<=549755813888
 e11 : -549755813888<=t.e11/\t.e11<=549755813888
 e12 : -549755813888<=t.e12/\t.e12<=549755813888
 e13 : -549755813888<=t.e13/\t.e13<=549755813888
 e14 : -549755813888<=t.e14/\t.e14<=549755813888
 e20 : -549755813888<=t.e20/\t.e20<=549755813888
 e21 : -549755813888<=t.e21/\t.e21<=549755813888
 e22 : -549755813888<=t.e22/\t.e22<=549755813888
 e23 : -549755813888<=t.e23/\t.e23<=549755813888
 e24 : -549755813888<=t.e24/\t.e24<=549755813888
 lk : -1099511627776<=t.lk/\t.lk<=1099511627776
 pk : -1099511627776<=t.pk/\t.pk<=1099511627776
def oM:Spec [.agg V2]:=⟨fun (x,_)=>TrOK (Hm x),fun _=>.sb true⟩
set_option maxRecDepth 100000 in
set_option maxHeartbeats 4000000 in
theorem uG:FnSpec Tryz.prog 26 _ oM:=by
 refine FnSpec.of SZp0_ok mixed (U:=7) (I:=fun _=>[]) Tryz.func26 rfl (by kernel_rfl) rfl rfl (by decide +kernel) ?_
 rintro ⟨x,⟨⟩⟩ hk
 obtain ⟨t,rfl⟩:∃ t,x=Zb t:=⟨_,gl x⟩
 have hk:TrOK t:=by have:TrOK (Hm (Zb t)):=hk;rwa [O6] at this
 unfold A2
 conv=>arg 2;reduce
 simp [oM,Va,and_assoc]
 obtain ⟨x0,l0,x1,l1,x2,l2,x3,l3,x4,l4,e00,e01,e02,e03,e04,e10,e11,e12,e13,e14,e20,e21,e22,e23,e24,lk,pk⟩:=hk
 repeat' first|apply And.intro|intro _
 all_goals first
  | exact qB_iff.2 (by assumption)
  | omega
noncomputable def SZi0:Sums:=⟨(26,A_ _ oM)::SZp0.one,SZp0.two,SZp0.lo,SZp0.eqs,SZp0.its,SZp0.imm⟩
theorem SZi0_ok:SumsOK Tryz.prog SZi0:=(SZp0_ok.cons Tryz.func26 (by kernel_rfl) (by kernel_rfl) uG)
noncomputable def SZi:Sums:=⟨SZi0.one,SZi0.two,SZi0.lo,SZi0.eqs,SZi0.its,[66]⟩
theorem xY:SumsOK Tryz.prog SZi:=SZi0_ok.setImm _
@[irreducible]def A1 (p:Pla) (t:Tru):Sg:=⟨!p.mu0,(if p.mu0=true then 0 else if p.li0=true then t.l0 else t.x0+t.e00),(if p.mu0=true then 0 else if p.li0=true then t.l1 else t.x1+t.e01),(if p.mu0=true then 0 else if p.li0=true then t.l2 else t.x2+t.e02),(if p.mu0=true then 0 else if p.li0=true then t.l3 else t.x3+t.e03),(if p.mu0=true then 0 else if p.li0=true then t.l4 else t.x4+t.e04),!p.mu1,(if p.mu1=true then 0 else if p.li1=true then t.l0 else t.x0+t.e10),(if p.mu1=true then 0 else if p.li1=true then t.l1 else t.x1+t.e11),(if p.mu1=true then 0 else if p.li1=true then t.l2 else t.x2+t.e12),(if p.mu1=true then 0 else if p.li1=true then t.l3 else t.x3+t.e13),(if p.mu1=true then 0 else if p.li1=true then t.l4 else t.x4+t.e14),!p.mu2,(if p.mu2=true then 0 else if p.li2=true then t.l0 else t.x0+t.e20),(if p.mu2=true then 0 else if p.li2=true then t.l1 else t.x1+t.e21),(if p.mu2=true then 0 else if p.li2=true then t.l2 else t.x2+t.e22),(if p.mu2=true then 0 else if p.li2=true then t.l3 else t.x3+t.e23),(if p.mu2=true then 0 else if p.li2=true then t.l4 else t.x4+t.e24),(if p.wn0=0 then t.c else p.wb0),(if p.wn1=0 then t.c else p.wb1),(if p.wn2=0 then t.c else p.wb2),(if p.wn0=0 then t.w else p.wb0),(if p.wn1=0 then t.w else p.wb1),(if p.wn2=0 then t.w else p.wb2),(if p.kn0=0 then p.sh0 else p.kb0),(if p.kn1=0 then p.sh1 else p.kb1),(if p.kn2=0 then p.sh2 else p.kb2),t.lk,t.pk,t.wt,t.rs⟩
theorem TN (p:Pla) (t:Tru):(A1 p t).h0 = !p.mu0:=by unfold A1;simp only [Sg.h0_mk]
theorem OO (p:Pla) (t:Tru):(A1 p t).v00=(if p.mu0=true then 0 else if p.li0=true then t.l0 else t.x0+t.e00):=by unfold A1;simp only [Sg.v00_mk]
theorem ON (p:Pla) (t:Tru):(A1 p t).v01=(if p.mu0=true then 0 else if p.li0=true then t.l1 else t.x1+t.e01):=by unfold A1;simp only [Sg.v01_mk]
theorem OM (p:Pla) (t:Tru):(A1 p t).v02=(if p.mu0=true then 0 else if p.li0=true then t.l2 else t.x2+t.e02):=by unfold A1;simp only [Sg.v02_mk]
theorem OL (p:Pla) (t:Tru):(A1 p t).v03=(if p.mu0=true then 0 else if p.li0=true then t.l3 else t.x3+t.e03):=by unfold A1;simp only [Sg.v03_mk]
theorem OJ (p:Pla) (t:Tru):(A1 p t).v04=(if p.mu0=true then 0 else if p.li0=true then t.l4 else t.x4+t.e04):=by unfold A1;simp only [Sg.v04_mk]
theorem TM (p:Pla) (t:Tru):(A1 p t).h1 = !p.mu1:=by unfold A1;simp only [Sg.h1_mk]
theorem OI (p:Pla) (t:Tru):(A1 p t).v10=(if p.mu1=true then 0 else if p.li1=true then t.l0 else t.x0+t.e10):=by unfold A1;simp only [Sg.v10_mk]
theorem OH (p:Pla) (t:Tru):(A1 p t).v11=(if p.mu1=true then 0 else if p.li1=true then t.l1 else t.x1+t.e11):=by unfold A1;simp only [Sg.v11_mk]
theorem OG (p:Pla) (t:Tru):(A1 p t).v12=(if p.mu1=true then 0 else if p.li1=true then t.l2 else t.x2+t.e12):=by unfold A1;simp only [Sg.v12_mk]
theorem OF (p:Pla) (t:Tru):(A1 p t).v13=(if p.mu1=true then 0 else if p.li1=true then t.l3 else t.x3+t.e13):=by unfold A1;simp only [Sg.v13_mk]
theorem OE (p:Pla) (t:Tru):(A1 p t).v14=(if p.mu1=true then 0 else if p.li1=true then t.l4 else t.x4+t.e14):=by unfold A1;simp only [Sg.v14_mk]
theorem TL (p:Pla) (t:Tru):(A1 p t).h2 = !p.mu2:=by unfold A1;simp only [Sg.h2_mk]
theorem OD (p:Pla) (t:Tru):(A1 p t).v20=(if p.mu2=true then 0 else if p.li2=true then t.l0 else t.x0+t.e20):=by unfold A1;simp only [Sg.v20_mk]
theorem OC (p:Pla) (t:Tru):(A1 p t).v21=(if p.mu2=true then 0 else if p.li2=true then t.l1 else t.x1+t.e21):=by unfold A1;simp only [Sg.v21_mk]
theorem OA (p:Pla) (t:Tru):(A1 p t).v22=(if p.mu2=true then 0 else if p.li2=true then t.l2 else t.x2+t.e22):=by unfold A1;simp only [Sg.v22_mk]
theorem O_ (p:Pla) (t:Tru):(A1 p t).v23=(if p.mu2=true then 0 else if p.li2=true then t.l3 else t.x3+t.e23):=by unfold A1;simp only [Sg.v23_mk]
theorem O9 (p:Pla) (t:Tru):(A1 p t).v24=(if p.mu2=true then 0 else if p.li2=true then t.l4 else t.x4+t.e24):=by unfold A1;simp only [Sg.v24_mk]
theorem o7 (p:Pla) (t:Tru):(A1 p t).c0=(if p.wn0=0 then t.c else p.wb0):=by unfold A1;simp only [Sg.c0_mk]
theorem o6 (p:Pla) (t:Tru):(A1 p t).c1=(if p.wn1=0 then t.c else p.wb1):=by unfold A1;simp only [Sg.c1_mk]
theorem o5 (p:Pla) (t:Tru):(A1 p t).c2=(if p.wn2=0 then t.c else p.wb2):=by unfold A1;simp only [Sg.c2_mk]
theorem nq (p:Pla) (t:Tru):(A1 p t).w0=(if p.wn0=0 then t.w else p.wb0):=by unfold A1;simp only [Sg.w0_mk]
theorem nk (p:Pla) (t:Tru):(A1 p t).w1=(if p.wn1=0 then t.w else p.wb1):=by unfold A1;simp only [Sg.w1_mk]
theorem nj (p:Pla) (t:Tru):(A1 p t).w2=(if p.wn2=0 then t.w else p.wb2):=by unfold A1;simp only [Sg.w2_mk]
theorem nz (p:Pla) (t:Tru):(A1 p t).k0=(if p.kn0=0 then p.sh0 else p.kb0):=by unfold A1;simp only [Sg.k0_mk]
theorem nv (p:Pla) (t:Tru):(A1 p t).k1=(if p.kn1=0 then p.sh1 else p.kb1):=by unfold A1;simp only [Sg.k1_mk]
theorem nu (p:Pla) (t:Tru):(A1 p t).k2=(if p.kn2=0 then p.sh2 else p.kb2):=by unfold A1;simp only [Sg.k2_mk]
theorem Zo (p:Pla) (t:Tru):(A1 p t).lk=t.lk:=by unfold A1;simp only [Sg.lk_mk]
theorem Zn (p:Pla) (t:Tru):(A1 p t).pk=t.pk:=by unfold A1;simp only [Sg.pk_mk]
theorem nc (p:Pla) (t:Tru):(A1 p t).wt=t.wt:=by unfold A1;simp only [Sg.wt_mk]
theorem nt (p:Pla) (t:Tru):(A1 p t).rs=t.rs:=by unfold A1;simp only [Sg.rs_mk]
@[irreducible]def Xa (p:Pla) (t:Tru) (j u:Nat):Int:=match j,u with
 | 0,0=>(if p.li0=true then t.l0 else t.x0+t.e00)
 | 0,1=>(if p.li0=true then t.l1 else t.x1+t.e01)
 | 0,2=>(if p.li0=true then t.l2 else t.x2+t.e02)
 | 0,3=>(if p.li0=true then t.l3 else t.x3+t.e03)
 | 0,4=>(if p.li0=true then t.l4 else t.x4+t.e04)
 | 1,0=>(if p.li1=true then t.l0 else t.x0+t.e10)
 | 1,1=>(if p.li1=true then t.l1 else t.x1+t.e11)
 | 1,2=>(if p.li1=true then t.l2 else t.x2+t.e12)
 | 1,3=>(if p.li1=true then t.l3 else t.x3+t.e13)
 | 1,4=>(if p.li1=true then t.l4 else t.x4+t.e14)
 | 2,0=>(if p.li2=true then t.l0 else t.x0+t.e20)
 | 2,1=>(if p.li2=true then t.l1 else t.x1+t.e21)
 | 2,2=>(if p.li2=true then t.l2 else t.x2+t.e22)
 | 2,3=>(if p.li2=true then t.l3 else t.x3+t.e23)
 | 2,4=>(if p.li2=true then t.l4 else t.x4+t.e24)
 | _,_=>0
@[reducible]def AR2 (p:Pla) (t:Tru) (i:Nat):List AV:=[.sb (A1 p t).h0,.si .i64 (A1 p t).v00,.si .i64 (A1 p t).v01,.si .i64 (A1 p t).v02,.si .i64 (A1 p t).v03,.si .i64 (A1 p t).v04,(match Nat.ble 1 i with|true=>.sb (A1 p t).h1|false=>.lb false),(match Nat.ble 1 i with|true=>.si .i64 (A1 p t).v10|false=>.li .i64 0),(match Nat.ble 1 i with|true=>.si .i64 (A1 p t).v11|false=>.li .i64 0),(match Nat.ble 1 i with|true=>.si .i64 (A1 p t).v12|false=>.li .i64 0),(match Nat.ble 1 i with|true=>.si .i64 (A1 p t).v13|false=>.li .i64 0),(match Nat.ble 1 i with|true=>.si .i64 (A1 p t).v14|false=>.li .i64 0),(match Nat.ble 2 i with|true=>.sb (A1 p t).h2|false=>.lb false),(match Nat.ble 2 i with|true=>.si .i64 (A1 p t).v20|false=>.li .i64 0),(match Nat.ble 2 i with|true=>.si .i64 (A1 p t).v21|false=>.li .i64 0),(match Nat.ble 2 i with|true=>.si .i64 (A1 p t).v22|false=>.li .i64 0),(match Nat.ble 2 i with|true=>.si .i64 (A1 p t).v23|false=>.li .i64 0),(match Nat.ble 2 i with|true=>.si .i64 (A1 p t).v24|false=>.li .i64 0),.sb (A1 p t).c0,(match Nat.ble 1 i with|true=>.sb (A1 p t).c1|false=>.lb false),(match Nat.ble 2 i with|true=>.sb (A1 p t).c2|false=>.lb false),.sb (A1 p t).w0,(match Nat.ble 1 i with|true=>.sb (A1 p t).w1|false=>.lb false),(match Nat.ble 2 i with|true=>.sb (A1 p t).w2|false=>.lb false),.sb (A1 p t).k0,(match Nat.ble 1 i with|true=>.sb (A1 p t).k1|false=>.sb p.sh1),(match Nat.ble 2 i with|true=>.sb (A1 p t).k2|false=>.sb p.sh2),.si .i64 t.lk,.si .i64 t.pk,.sb t.wt,.sb t.rs]
@[reducible]def AR3 (p:Pla) (t:Tru) (i q:Nat):List AV:=[(match Nat.beq i 0 with|true=>.lb true|false=>(match Nat.ble 0 i with|true=>.sb (A1 p t).h0|false=>.lb false)),(match Nat.beq i 0 with|true=>(match Nat.ble 0 q with|true=>.si .i64 (Xa p t 0 0)|false=>.si .i64 t.l0)|false=>(match Nat.ble 0 i with|true=>.si .i64 (A1 p t).v00|false=>.li .i64 0)),(match Nat.beq i 0 with|true=>(match Nat.ble 1 q with|true=>.si .i64 (Xa p t 0 1)|false=>.si .i64 t.l1)|false=>(match Nat.ble 0 i with|true=>.si .i64 (A1 p t).v01|false=>.li .i64 0)),(match Nat.beq i 0 with|true=>(match Nat.ble 2 q with|true=>.si .i64 (Xa p t 0 2)|false=>.si .i64 t.l2)|false=>(match Nat.ble 0 i with|true=>.si .i64 (A1 p t).v02|false=>.li .i64 0)),(match Nat.beq i 0 with|true=>(match Nat.ble 3 q with|true=>.si .i64 (Xa p t 0 3)|false=>.si .i64 t.l3)|false=>(match Nat.ble 0 i with|true=>.si .i64 (A1 p t).v03|false=>.li .i64 0)),(match Nat.beq i 0 with|true=>(match Nat.ble 4 q with|true=>.si .i64 (Xa p t 0 4)|false=>.si .i64 t.l4)|false=>(match Nat.ble 0 i with|true=>.si .i64 (A1 p t).v04|false=>.li .i64 0)),(match Nat.beq i 1 with|true=>.lb true|false=>(match Nat.ble 1 i with|true=>.sb (A1 p t).h1|false=>.lb false)),(match Nat.beq i 1 with|true=>(match Nat.ble 0 q with|true=>.si .i64 (Xa p t 1 0)|false=>.si .i64 t.l0)|false=>(match Nat.ble 1 i with|true=>.si .i64 (A1 p t).v10|false=>.li .i64 0)),(match Nat.beq i 1 with|true=>(match Nat.ble 1 q with|true=>.si .i64 (Xa p t 1 1)|false=>.si .i64 t.l1)|false=>(match Nat.ble 1 i with|true=>.si .i64 (A1 p t).v11|false=>.li .i64 0)),(match Nat.beq i 1 with|true=>(match Nat.ble 2 q with|true=>.si .i64 (Xa p t 1 2)|false=>.si .i64 t.l2)|false=>(match Nat.ble 1 i with|true=>.si .i64 (A1 p t).v12|false=>.li .i64 0)),(match Nat.beq i 1 with|true=>(match Nat.ble 3 q with|true=>.si .i64 (Xa p t 1 3)|false=>.si .i64 t.l3)|false=>(match Nat.ble 1 i with|true=>.si .i64 (A1 p t).v13|false=>.li .i64 0)),(match Nat.beq i 1 with|true=>(match Nat.ble 4 q with|true=>.si .i64 (Xa p t 1 4)|false=>.si .i64 t.l4)|false=>(match Nat.ble 1 i with|true=>.si .i64 (A1 p t).v14|false=>.li .i64 0)),(match Nat.beq i 2 with|true=>.lb true|false=>(match Nat.ble 2 i with|true=>.sb (A1 p t).h2|false=>.lb false)),(match Nat.beq i 2 with|true=>(match Nat.ble 0 q with|true=>.si .i64 (Xa p t 2 0)|false=>.si .i64 t.l0)|false=>(match Nat.ble 2 i with|true=>.si .i64 (A1 p t).v20|false=>.li .i64 0)),(match Nat.beq i 2 with|true=>(match Nat.ble 1 q with|true=>.si .i64 (Xa p t 2 1)|false=>.si .i64 t.l1)|false=>(match Nat.ble 2 i with|true=>.si .i64 (A1 p t).v21|false=>.li .i64 0)),(match Nat.beq i 2 with|true=>(match Nat.ble 2 q with|true=>.si .i64 (Xa p t 2 2)|false=>.si .i64 t.l2)|false=>(match Nat.ble 2 i with|true=>.si .i64 (A1 p t).v22|false=>.li .i64 0)),(match Nat.beq i 2 with|true=>(match Nat.ble 3 q with|true=>.si .i64 (Xa p t 2 3)|false=>.si .i64 t.l3)|false=>(match Nat.ble 2 i with|true=>.si .i64 (A1 p t).v23|false=>.li .i64 0)),(match Nat.beq i 2 with|true=>(match Nat.ble 4 q with|true=>.si .i64 (Xa p t 2 4)|false=>.si .i64 t.l4)|false=>(match Nat.ble 2 i with|true=>.si .i64 (A1 p t).v24|false=>.li .i64 0)),.sb (A1 p t).c0,(match Nat.ble 1 i with|true=>.sb (A1 p t).c1|false=>.lb false),(match Nat.ble 2 i with|true=>.sb (A1 p t).c2|false=>.lb false),.sb (A1 p t).w0,(match Nat.ble 1 i with|true=>.sb (A1 p t).w1|false=>.lb false),(match Nat.ble 2 i with|true=>.sb (A1 p t).w2|false=>.lb false),.sb (A1 p t).k0,(match Nat.ble 1 i with|true=>.sb (A1 p t).k1|false=>.sb p.sh1),(match Nat.ble 2 i with|true=>.sb (A1 p t).k2|false=>.sb p.sh2),.si .i64 t.lk,.si .i64 t.pk,.sb t.wt,.sb t.rs]
def shoF:SpecF plB [.own 0 0,.agg V2]:=⟨fun (x,_) (_,t,_)=>zl x/\(HZ x).md=true/\TrOK (Hm t),fun (x,_) (_,t,_)=>.tup [.agg (iL (A1 (HZ x) (Hm t))),.li .i64 0],fun (x,_) _=>NH (HZ x)⟩
@[reducible]def o8 (p:Pla) (t:Tru):Cz:=[
 (4194313,[],fun _ _=>Gp),(4194316,[],fun _ _=>Gp),(4194322,[],fun _ _=>Gp),
 (1048600,[],fun fr hp=>⟨Unit,fun _=>Vj (AA (A4 fr 34)).toNat fun i=>Vj (AA (A4 fr 101)).toNat fun q=>⟨J1 [.k 8,.t 2,.k 1,.t 23,.k 1,.t 66,.k 1,.t 29] fr,AM hp 2 (.cells 74 (AR3 p t i q))⟩,Unit,fun _=>(),fun _=>True,fun _=>0⟩),
 (1048601,[],fun fr hp=>⟨Unit,fun _=>Vj (AA (A4 fr 34)).toNat fun i=>⟨J1 [.k 7,.t 27,.k 1,.t 96] fr,AM hp 2 (.cells 74 (AR2 p t i))⟩,Unit,fun _=>(),fun _=>True,fun _=>0⟩)]
def zR:L0 plB->Ad [.own 0 0,.agg V2]->Cz:=fun (x,_) (_,t,_)=>o8 (HZ x) (Hm t)
set_option maxRecDepth 100000 in
set_option maxHeartbeats 8000000 in
theorem u7:FnSpecF Tryz.prog 11 _ _ shoF:=by
 refine FnSpecF.of xY mixed (U:=6) (I:=zR) Tryz.func11 rfl (by kernel_rfl) rfl (by decide +kernel) ?_
 rintro ⟨x,⟨⟩⟩ ⟨⟨⟩,t,⟨⟩⟩ ⟨hp,hm,hk⟩
 obtain ⟨p,rfl⟩:∃ p,x=QJ p:=⟨_,plC_iff.1 hp⟩
 obtain ⟨t,rfl⟩:∃ z,t=Zb z:=⟨_,gl t⟩
 have hm:p.md=true:=by have:(HZ (QJ p)).md=true:=hm;rwa [Ia] at this
 have hk:TrOK t:=by have:TrOK (Hm (Zb t)):=hk;rwa [O6] at this
 clear hp
 have eI:zR (QJ p,PUnit.unit) (PUnit.unit,Zb t,PUnit.unit)=o8 p t:=by
  show o8 (HZ (QJ p)) (Hm (Zb t))=o8 p t
  rw [Ia,O6]
 have eA:shoF.after (QJ p,PUnit.unit) (PUnit.unit,Zb t,PUnit.unit)=NH p:=by
  show NH (HZ (QJ p))=_
  rw [Ia]
 have eR:shoF.res (QJ p,PUnit.unit) (PUnit.unit,Zb t,PUnit.unit)=.tup [.agg (iL (A1 p t)),.li .i64 0]:=by
  show AV.tup [.agg (iL (A1 (HZ (QJ p)) (Hm (Zb t)))),.li .i64 0]=_
  rw [Ia,O6]
 rw [eI,eA,eR]
 unfold A2
 conv=>arg 2;reduce
 simp [NH,Ha,iL,oM,Hv,hm,Dh,Ed,A3,AP,AB,Ar,and_assoc]
 have z1:∀ n,(Xd n=true)=(n=0):=fun n=>propext zerB_iff
 have z0:∀ n,(Xd n=false)=(¬ n=0):=fun n=>by rw [<- z1];simp
 simp only [z0,z1]
 refine ⟨hk,?_⟩
 obtain ⟨x0,l0,x1,l1,x2,l2,x3,l3,x4,l4,e00,e01,e02,e03,e04,e10,e11,e12,e13,e14,e20,e21,e22,e23,e24,lk,pk⟩:=hk
 repeat' first|apply And.intro|intro _
 all_goals first
  | omega
  | (simp [TN,OO,ON,OM,OL,OJ,TM,OI,OH,OG,OF,OE,TL,OD,OC,OA,O_,O9,o7,o6,o5,nq,nk,nj,nz,nv,nu,Zo,Zn,nc,nt,Xa, *];done)
end
end Abs
end Go.Proofs.YtccgngldoinokaaGreat

namespace Go.Proofs.YtccgngldoinokaaGreat
namespace Abs
open Go Go.RowKit
noncomputable section
structure ErOK (t:Tru):Prop where
 e00 : -5000<=t.e00/\t.e00<=5000
 e01 : -5000<=t.e01/\t.e01<=5000
 e02 : -500<=t.e02/\t.e02<=500
 e03 : -1000<=t.e03/\t.e03<=1000
 e04 : -2500<=t.e04/\t.e04<=2500
 e10 : -5000<=t.e10/\t.e10<=5000
 e11 : -5000<=t.e11/\t.e11<=5000
 e12 : -500<=t.e12/\t.e12<=500
 e13 : -1000<=t.e13/\t.e13<=1000
 e14 : -2500<=t.e14/\t.e14<=2500
 e20 : -5000<=t.e20/\t.e20<=5000
 e21 : -5000<=t.e21/\t.e21<=5000
 e22 : -500<=t.e22/\t.e22<=500
 e23 : -1000<=t.e23/\t.e23<=1000
 e24 : -2500<=t.e24/\t.e24<=2500
def J5 (p:Pla):Nat->Prop
 | 0=>p.mu0=false/\p.li0=false
 | 1=>p.mu1=false/\p.li1=false
 | _=>p.mu2=false/\p.li2=false
def GX (p:Pla):Prop:=(J5 p 0/\J5 p 1)\/(J5 p 0/\J5 p 2)\/(J5 p 1/\J5 p 2)
def DK (p:Pla) (m:Mc):Prop:=(J5 p 0->m.b0=false)/\(J5 p 1->m.b1=false)/\(J5 p 2->m.b2=false)
variable {p:Pla} {t:Tru} {m:Mc}
theorem QY (h:J5 p 0) (hb:m.b0=false):XZ (AF m (A1 p t))=true:=by
 have h:p.mu0=false/\p.li0=false:=h
 unfold XZ
 rw [iy,j5,TN,h.1,hb]
 rfl
theorem kX (h:J5 p 0):CZ (AF m (A1 p t)) 0 0=t.x0+t.e00:=by
 have h:p.mu0=false/\p.li0=false:=h
 unfold CZ
 rw [aO,OO,h.1,h.2]
 rfl
theorem kW (h:J5 p 0):CZ (AF m (A1 p t)) 0 1=t.x1+t.e01:=by
 have h:p.mu0=false/\p.li0=false:=h
 unfold CZ
 rw [aN,ON,h.1,h.2]
 rfl
theorem kU (h:J5 p 0):CZ (AF m (A1 p t)) 0 2=t.x2+t.e02:=by
 have h:p.mu0=false/\p.li0=false:=h
 unfold CZ
 rw [aM,OM,h.1,h.2]
 rfl
theorem kS (h:J5 p 0):CZ (AF m (A1 p t)) 0 3=t.x3+t.e03:=by
 have h:p.mu0=false/\p.li0=false:=h
 unfold CZ
 rw [aL,OL,h.1,h.2]
 rfl
theorem kR (h:J5 p 0):CZ (AF m (A1 p t)) 0 4=t.x4+t.e04:=by
 have h:p.mu0=false/\p.li0=false:=h
 unfold CZ
 rw [aK,OJ,h.1,h.2]
 rfl
theorem QX (h:J5 p 1) (hb:m.b1=false):XY (AF m (A1 p t))=true:=by
 have h:p.mu1=false/\p.li1=false:=h
 unfold XY
 rw [iw,j4,TM,h.1,hb]
 rfl
theorem kQ (h:J5 p 1):CZ (AF m (A1 p t)) 1 0=t.x0+t.e10:=by
 have h:p.mu1=false/\p.li1=false:=h
 unfold CZ
 rw [aJ,OI,h.1,h.2]
 rfl
theorem kP (h:J5 p 1):CZ (AF m (A1 p t)) 1 1=t.x1+t.e11:=by
 have h:p.mu1=false/\p.li1=false:=h
 unfold CZ
 rw [aI,OH,h.1,h.2]
 rfl
theorem kO (h:J5 p 1):CZ (AF m (A1 p t)) 1 2=t.x2+t.e12:=by
 have h:p.mu1=false/\p.li1=false:=h
 unfold CZ
 rw [aH,OG,h.1,h.2]
 rfl
theorem kN (h:J5 p 1):CZ (AF m (A1 p t)) 1 3=t.x3+t.e13:=by
 have h:p.mu1=false/\p.li1=false:=h
 unfold CZ
 rw [aG,OF,h.1,h.2]
 rfl
theorem kM (h:J5 p 1):CZ (AF m (A1 p t)) 1 4=t.x4+t.e14:=by
 have h:p.mu1=false/\p.li1=false:=h
 unfold CZ
 rw [aF,OE,h.1,h.2]
 rfl
theorem QW (h:J5 p 2) (hb:m.b2=false):XX (AF m (A1 p t))=true:=by
 have h:p.mu2=false/\p.li2=false:=h
 unfold XX
 rw [iv,j0,TL,h.1,hb]
 rfl
theorem kL (h:J5 p 2):CZ (AF m (A1 p t)) 2 0=t.x0+t.e20:=by
 have h:p.mu2=false/\p.li2=false:=h
 unfold CZ
 rw [aD,OD,h.1,h.2]
 rfl
theorem kK (h:J5 p 2):CZ (AF m (A1 p t)) 2 1=t.x1+t.e21:=by
 have h:p.mu2=false/\p.li2=false:=h
 unfold CZ
 rw [aC,OC,h.1,h.2]
 rfl
theorem kJ (h:J5 p 2):CZ (AF m (A1 p t)) 2 2=t.x2+t.e22:=by
 have h:p.mu2=false/\p.li2=false:=h
 unfold CZ
 rw [aB,OA,h.1,h.2]
 rfl
theorem kI (h:J5 p 2):CZ (AF m (A1 p t)) 2 3=t.x3+t.e23:=by
 have h:p.mu2=false/\p.li2=false:=h
 unfold CZ
 rw [aA,O_,h.1,h.2]
 rfl
theorem kH (h:J5 p 2):CZ (AF m (A1 p t)) 2 4=t.x4+t.e24:=by
 have h:p.mu2=false/\p.li2=false:=h
 unfold CZ
 rw [a_,O9,h.1,h.2]
 rfl
theorem zC (hc:GX p) (hm:DK p m) (he:ErOK t):T5 (AF m (A1 p t)) 0 (t.x0-5000) (t.x0+5000):=by
 have e0:=he.e00
 have e1:=he.e10
 have e2:=he.e20
 rcases hc with ⟨a,b⟩|⟨a,b⟩|⟨a,b⟩
 ·have u:=kX (m:=m) (t:=t) a
  have v:=kQ (m:=m) (t:=t) b
  exact .inl ⟨QY a (hm.1 a),QX b (hm.2.1 b),by omega,by omega,by omega,by omega⟩
 ·have u:=kX (m:=m) (t:=t) a
  have v:=kL (m:=m) (t:=t) b
  exact .inr (.inl ⟨QY a (hm.1 a),QW b (hm.2.2 b),by omega,by omega,by omega,by omega⟩)
 ·have u:=kQ (m:=m) (t:=t) a
  have v:=kL (m:=m) (t:=t) b
  exact .inr (.inr ⟨QX a (hm.2.1 a),QW b (hm.2.2 b),by omega,by omega,by omega,by omega⟩)
theorem Xh (hc:GX p) (hm:DK p m) (he:ErOK t):J2 (AF m (A1 p t)) 0=true/\t.x0-5000<=Ju (AF m (A1 p t)) 0/\Ju (AF m (A1 p t)) 0<=t.x0+5000/\t.x0-5000<=Jt (AF m (A1 p t)) 0/\Jt (AF m (A1 p t)) 0<=t.x0+5000/\(Et (AF m (A1 p t))=3->t.x0-5000<=De (AF m (A1 p t)) 0 1/\De (AF m (A1 p t)) 0 1<=t.x0+5000)/\2<=Et (AF m (A1 p t)) :=
 J8 (zC hc hm he) (by unfold AX;simp only;omega)
theorem zB (hc:GX p) (hm:DK p m) (he:ErOK t):T5 (AF m (A1 p t)) 1 (t.x1-5000) (t.x1+5000):=by
 have e0:=he.e01
 have e1:=he.e11
 have e2:=he.e21
 rcases hc with ⟨a,b⟩|⟨a,b⟩|⟨a,b⟩
 ·have u:=kW (m:=m) (t:=t) a
  have v:=kP (m:=m) (t:=t) b
  exact .inl ⟨QY a (hm.1 a),QX b (hm.2.1 b),by omega,by omega,by omega,by omega⟩
 ·have u:=kW (m:=m) (t:=t) a
  have v:=kK (m:=m) (t:=t) b
  exact .inr (.inl ⟨QY a (hm.1 a),QW b (hm.2.2 b),by omega,by omega,by omega,by omega⟩)
 ·have u:=kP (m:=m) (t:=t) a
  have v:=kK (m:=m) (t:=t) b
  exact .inr (.inr ⟨QX a (hm.2.1 a),QW b (hm.2.2 b),by omega,by omega,by omega,by omega⟩)
theorem mZ (hc:GX p) (hm:DK p m) (he:ErOK t):J2 (AF m (A1 p t)) 1=true/\t.x1-5000<=Ju (AF m (A1 p t)) 1/\Ju (AF m (A1 p t)) 1<=t.x1+5000/\t.x1-5000<=Jt (AF m (A1 p t)) 1/\Jt (AF m (A1 p t)) 1<=t.x1+5000/\(Et (AF m (A1 p t))=3->t.x1-5000<=De (AF m (A1 p t)) 1 1/\De (AF m (A1 p t)) 1 1<=t.x1+5000)/\2<=Et (AF m (A1 p t)) :=
 J8 (zB hc hm he) (by unfold AX;simp only;omega)
theorem zA (hc:GX p) (hm:DK p m) (he:ErOK t):T5 (AF m (A1 p t)) 2 (t.x2-500) (t.x2+500):=by
 have e0:=he.e02
 have e1:=he.e12
 have e2:=he.e22
 rcases hc with ⟨a,b⟩|⟨a,b⟩|⟨a,b⟩
 ·have u:=kU (m:=m) (t:=t) a
  have v:=kO (m:=m) (t:=t) b
  exact .inl ⟨QY a (hm.1 a),QX b (hm.2.1 b),by omega,by omega,by omega,by omega⟩
 ·have u:=kU (m:=m) (t:=t) a
  have v:=kJ (m:=m) (t:=t) b
  exact .inr (.inl ⟨QY a (hm.1 a),QW b (hm.2.2 b),by omega,by omega,by omega,by omega⟩)
 ·have u:=kO (m:=m) (t:=t) a
  have v:=kJ (m:=m) (t:=t) b
  exact .inr (.inr ⟨QX a (hm.2.1 a),QW b (hm.2.2 b),by omega,by omega,by omega,by omega⟩)
theorem gB (hc:GX p) (hm:DK p m) (he:ErOK t):J2 (AF m (A1 p t)) 2=true/\t.x2-500<=Ju (AF m (A1 p t)) 2/\Ju (AF m (A1 p t)) 2<=t.x2+500/\t.x2-500<=Jt (AF m (A1 p t)) 2/\Jt (AF m (A1 p t)) 2<=t.x2+500/\(Et (AF m (A1 p t))=3->t.x2-500<=De (AF m (A1 p t)) 2 1/\De (AF m (A1 p t)) 2 1<=t.x2+500)/\2<=Et (AF m (A1 p t)) :=
 J8 (zA hc hm he) (by unfold AX;simp only;omega)
theorem z_ (hc:GX p) (hm:DK p m) (he:ErOK t):T5 (AF m (A1 p t)) 3 (t.x3-1000) (t.x3+1000):=by
 have e0:=he.e03
 have e1:=he.e13
 have e2:=he.e23
 rcases hc with ⟨a,b⟩|⟨a,b⟩|⟨a,b⟩
 ·have u:=kS (m:=m) (t:=t) a
  have v:=kN (m:=m) (t:=t) b
  exact .inl ⟨QY a (hm.1 a),QX b (hm.2.1 b),by omega,by omega,by omega,by omega⟩
 ·have u:=kS (m:=m) (t:=t) a
  have v:=kI (m:=m) (t:=t) b
  exact .inr (.inl ⟨QY a (hm.1 a),QW b (hm.2.2 b),by omega,by omega,by omega,by omega⟩)
 ·have u:=kN (m:=m) (t:=t) a
  have v:=kI (m:=m) (t:=t) b
  exact .inr (.inr ⟨QX a (hm.2.1 a),QW b (hm.2.2 b),by omega,by omega,by omega,by omega⟩)
theorem mY (hc:GX p) (hm:DK p m) (he:ErOK t):J2 (AF m (A1 p t)) 3=true/\t.x3-1000<=Ju (AF m (A1 p t)) 3/\Ju (AF m (A1 p t)) 3<=t.x3+1000/\t.x3-1000<=Jt (AF m (A1 p t)) 3/\Jt (AF m (A1 p t)) 3<=t.x3+1000/\(Et (AF m (A1 p t))=3->t.x3-1000<=De (AF m (A1 p t)) 3 1/\De (AF m (A1 p t)) 3 1<=t.x3+1000)/\2<=Et (AF m (A1 p t)) :=
 J8 (z_ hc hm he) (by unfold AX;simp only;omega)
theorem yz (hc:GX p) (hm:DK p m) (he:ErOK t):T5 (AF m (A1 p t)) 4 (t.x4-2500) (t.x4+2500):=by
 have e0:=he.e04
 have e1:=he.e14
 have e2:=he.e24
 rcases hc with ⟨a,b⟩|⟨a,b⟩|⟨a,b⟩
 ·have u:=kR (m:=m) (t:=t) a
  have v:=kM (m:=m) (t:=t) b
  exact .inl ⟨QY a (hm.1 a),QX b (hm.2.1 b),by omega,by omega,by omega,by omega⟩
 ·have u:=kR (m:=m) (t:=t) a
  have v:=kH (m:=m) (t:=t) b
  exact .inr (.inl ⟨QY a (hm.1 a),QW b (hm.2.2 b),by omega,by omega,by omega,by omega⟩)
 ·have u:=kM (m:=m) (t:=t) a
  have v:=kH (m:=m) (t:=t) b
  exact .inr (.inr ⟨QX a (hm.2.1 a),QW b (hm.2.2 b),by omega,by omega,by omega,by omega⟩)
theorem mX (hc:GX p) (hm:DK p m) (he:ErOK t):J2 (AF m (A1 p t)) 4=true/\t.x4-2500<=Ju (AF m (A1 p t)) 4/\Ju (AF m (A1 p t)) 4<=t.x4+2500/\t.x4-2500<=Jt (AF m (A1 p t)) 4/\Jt (AF m (A1 p t)) 4<=t.x4+2500/\(Et (AF m (A1 p t))=3->t.x4-2500<=De (AF m (A1 p t)) 4 1/\De (AF m (A1 p t)) 4 1<=t.x4+2500)/\2<=Et (AF m (A1 p t)) :=
 J8 (yz hc hm he) (by unfold AX;simp only;omega)
theorem AA4 (hc:GX p) (hm:DK p m) (he:ErOK t) (h:FY t 0=true):Di (AF m (A1 p t)) 0=true:=by
 obtain ⟨a,b1,b2,b3,b4,_,_⟩:=Xh hc hm he
 unfold FY at h
 simp only [decide_eq_true_eq] at h
 unfold Di
 simp only [a,Bool.true_and]
 exact ltB_iff.2 (by omega)
theorem AA3 (hc:GX p) (hm:DK p m) (he:ErOK t) (h:FY t 1=true):Di (AF m (A1 p t)) 1=true:=by
 obtain ⟨a,b1,b2,b3,b4,_,_⟩:=mZ hc hm he
 unfold FY at h
 simp only [decide_eq_true_eq] at h
 unfold Di
 simp only [a,Bool.true_and]
 exact ltB_iff.2 (by omega)
theorem AA2 (hc:GX p) (hm:DK p m) (he:ErOK t) (h:FY t 2=true):Di (AF m (A1 p t)) 2=true:=by
 obtain ⟨a,b1,b2,b3,b4,_,_⟩:=gB hc hm he
 unfold FY at h
 simp only [decide_eq_true_eq] at h
 unfold Di
 simp only [a,Bool.true_and]
 exact ltB_iff.2 (by omega)
theorem AA1 (hc:GX p) (hm:DK p m) (he:ErOK t) (h:FY t 3=true):Di (AF m (A1 p t)) 3=true:=by
 obtain ⟨a,b1,b2,b3,b4,_,_⟩:=gB hc hm he
 unfold FY at h
 simp only [decide_eq_true_eq] at h
 unfold Di
 simp only [a,Bool.true_and]
 exact ltB_iff.2 (by omega)
theorem AA0 (hc:GX p) (hm:DK p m) (he:ErOK t) (h:FY t 4=true):Di (AF m (A1 p t)) 4=true:=by
 obtain ⟨a,b1,b2,b3,b4,_,_⟩:=mY hc hm he
 unfold FY at h
 simp only [decide_eq_true_eq] at h
 unfold Di
 simp only [a,Bool.true_and]
 exact ltB_iff.2 (by omega)
theorem zy (hc:GX p) (hm:DK p m) (he:ErOK t) (h:FY t 5=true):Di (AF m (A1 p t)) 5=true:=by
 obtain ⟨a,b1,b2,b3,b4,_,_⟩:=mX hc hm he
 unfold FY at h
 simp only [decide_eq_true_eq] at h
 unfold Di
 simp only [a,Bool.true_and]
 exact ltB_iff.2 (by omega)
theorem AJ4 (hc:GX p) (hm:DK p m) (he:ErOK t) (hg:J5 p 0):QD (AF m (A1 p t)) 0=false:=by
 have hh:p.mu0=false/\p.li0=false:=hg
 have a0:mP (AF m (A1 p t)) 0=false:=by
  unfold mP
  simp only [iy,j5,TN,hh.1]
  simp
 have f0:Et (AF m (A1 p t))=3->ID (CZ (AF m (A1 p t)) 0 0) (De (AF m (A1 p t)) 0 1) (AX 0)=false:=fun h3=>by
  have v:=(Xh (m:=m) hc hm he).2.2.2.2.2.1 h3
  have w:=kX (m:=m) (t:=t) hg
  have e:=he.e00
  have s:AX 0=10000:=by unfold AX;rfl
  cases hb:ID (CZ (AF m (A1 p t)) 0 0) (De (AF m (A1 p t)) 0 1) (AX 0) with
  | false=>rfl
  | true=>have:=faB_iff.1 hb;omega
 have f1:Et (AF m (A1 p t))=3->ID (CZ (AF m (A1 p t)) 0 1) (De (AF m (A1 p t)) 1 1) (AX 1)=false:=fun h3=>by
  have v:=(mZ (m:=m) hc hm he).2.2.2.2.2.1 h3
  have w:=kW (m:=m) (t:=t) hg
  have e:=he.e01
  have s:AX 1=10000:=by unfold AX;rfl
  cases hb:ID (CZ (AF m (A1 p t)) 0 1) (De (AF m (A1 p t)) 1 1) (AX 1) with
  | false=>rfl
  | true=>have:=faB_iff.1 hb;omega
 have f2:Et (AF m (A1 p t))=3->ID (CZ (AF m (A1 p t)) 0 2) (De (AF m (A1 p t)) 2 1) (AX 2)=false:=fun h3=>by
  have v:=(gB (m:=m) hc hm he).2.2.2.2.2.1 h3
  have w:=kU (m:=m) (t:=t) hg
  have e:=he.e02
  have s:AX 2=1000:=by unfold AX;rfl
  cases hb:ID (CZ (AF m (A1 p t)) 0 2) (De (AF m (A1 p t)) 2 1) (AX 2) with
  | false=>rfl
  | true=>have:=faB_iff.1 hb;omega
 have f3:Et (AF m (A1 p t))=3->ID (CZ (AF m (A1 p t)) 0 3) (De (AF m (A1 p t)) 3 1) (AX 3)=false:=fun h3=>by
  have v:=(mY (m:=m) hc hm he).2.2.2.2.2.1 h3
  have w:=kS (m:=m) (t:=t) hg
  have e:=he.e03
  have s:AX 3=2000:=by unfold AX;rfl
  cases hb:ID (CZ (AF m (A1 p t)) 0 3) (De (AF m (A1 p t)) 3 1) (AX 3) with
  | false=>rfl
  | true=>have:=faB_iff.1 hb;omega
 have f4:Et (AF m (A1 p t))=3->ID (CZ (AF m (A1 p t)) 0 4) (De (AF m (A1 p t)) 4 1) (AX 4)=false:=fun h3=>by
  have v:=(mX (m:=m) hc hm he).2.2.2.2.2.1 h3
  have w:=kR (m:=m) (t:=t) hg
  have e:=he.e04
  have s:AX 4=5000:=by unfold AX;rfl
  cases hb:ID (CZ (AF m (A1 p t)) 0 4) (De (AF m (A1 p t)) 4 1) (AX 4) with
  | false=>rfl
  | true=>have:=faB_iff.1 hb;omega
 have h2:=(Xh (m:=m) hc hm he).2.2.2.2.2.2
 unfold QD
 split
 ·exact a0
 ·have hle:Et (AF m (A1 p t))<=3:=by
   rw [MQ _ 0]
   unfold JC
   cases XZ (AF m (A1 p t))<;>cases XY (AF m (A1 p t))<;>cases XX (AF m (A1 p t))<;>simp
  have h3:Et (AF m (A1 p t))=3:=by omega
  rw [GP,GP,GP,GP,GP,XU,a0,f0 h3,f1 h3,f2 h3,f3 h3,f4 h3]
  rfl
theorem AJ3 (hc:GX p) (hm:DK p m) (he:ErOK t) (hg:J5 p 1):QD (AF m (A1 p t)) 1=false:=by
 have hh:p.mu1=false/\p.li1=false:=hg
 have a0:mP (AF m (A1 p t)) 1=false:=by
  unfold mP
  simp only [iw,j4,TM,hh.1]
  simp
 have f0:Et (AF m (A1 p t))=3->ID (CZ (AF m (A1 p t)) 1 0) (De (AF m (A1 p t)) 0 1) (AX 0)=false:=fun h3=>by
  have v:=(Xh (m:=m) hc hm he).2.2.2.2.2.1 h3
  have w:=kQ (m:=m) (t:=t) hg
  have e:=he.e10
  have s:AX 0=10000:=by unfold AX;rfl
  cases hb:ID (CZ (AF m (A1 p t)) 1 0) (De (AF m (A1 p t)) 0 1) (AX 0) with
  | false=>rfl
  | true=>have:=faB_iff.1 hb;omega
 have f1:Et (AF m (A1 p t))=3->ID (CZ (AF m (A1 p t)) 1 1) (De (AF m (A1 p t)) 1 1) (AX 1)=false:=fun h3=>by
  have v:=(mZ (m:=m) hc hm he).2.2.2.2.2.1 h3
  have w:=kP (m:=m) (t:=t) hg
  have e:=he.e11
  have s:AX 1=10000:=by unfold AX;rfl
  cases hb:ID (CZ (AF m (A1 p t)) 1 1) (De (AF m (A1 p t)) 1 1) (AX 1) with
  | false=>rfl
  | true=>have:=faB_iff.1 hb;omega
 have f2:Et (AF m (A1 p t))=3->ID (CZ (AF m (A1 p t)) 1 2) (De (AF m (A1 p t)) 2 1) (AX 2)=false:=fun h3=>by
  have v:=(gB (m:=m) hc hm he).2.2.2.2.2.1 h3
  have w:=kO (m:=m) (t:=t) hg
  have e:=he.e12
  have s:AX 2=1000:=by unfold AX;rfl
  cases hb:ID (CZ (AF m (A1 p t)) 1 2) (De (AF m (A1 p t)) 2 1) (AX 2) with
  | false=>rfl
  | true=>have:=faB_iff.1 hb;omega
 have f3:Et (AF m (A1 p t))=3->ID (CZ (AF m (A1 p t)) 1 3) (De (AF m (A1 p t)) 3 1) (AX 3)=false:=fun h3=>by
  have v:=(mY (m:=m) hc hm he).2.2.2.2.2.1 h3
  have w:=kN (m:=m) (t:=t) hg
  have e:=he.e13
  have s:AX 3=2000:=by unfold AX;rfl
  cases hb:ID (CZ (AF m (A1 p t)) 1 3) (De (AF m (A1 p t)) 3 1) (AX 3) with
  | false=>rfl
  | true=>have:=faB_iff.1 hb;omega
 have f4:Et (AF m (A1 p t))=3->ID (CZ (AF m (A1 p t)) 1 4) (De (AF m (A1 p t)) 4 1) (AX 4)=false:=fun h3=>by
  have v:=(mX (m:=m) hc hm he).2.2.2.2.2.1 h3
  have w:=kM (m:=m) (t:=t) hg
  have e:=he.e14
  have s:AX 4=5000:=by unfold AX;rfl
  cases hb:ID (CZ (AF m (A1 p t)) 1 4) (De (AF m (A1 p t)) 4 1) (AX 4) with
  | false=>rfl
  | true=>have:=faB_iff.1 hb;omega
 have h2:=(Xh (m:=m) hc hm he).2.2.2.2.2.2
 unfold QD
 split
 ·exact a0
 ·have hle:Et (AF m (A1 p t))<=3:=by
   rw [MQ _ 0]
   unfold JC
   cases XZ (AF m (A1 p t))<;>cases XY (AF m (A1 p t))<;>cases XX (AF m (A1 p t))<;>simp
  have h3:Et (AF m (A1 p t))=3:=by omega
  rw [GP,GP,GP,GP,GP,XU,a0,f0 h3,f1 h3,f2 h3,f3 h3,f4 h3]
  rfl
theorem AJ2 (hc:GX p) (hm:DK p m) (he:ErOK t) (hg:J5 p 2):QD (AF m (A1 p t)) 2=false:=by
 have hh:p.mu2=false/\p.li2=false:=hg
 have a0:mP (AF m (A1 p t)) 2=false:=by
  unfold mP
  simp only [iv,j0,TL,hh.1]
  simp
 have f0:Et (AF m (A1 p t))=3->ID (CZ (AF m (A1 p t)) 2 0) (De (AF m (A1 p t)) 0 1) (AX 0)=false:=fun h3=>by
  have v:=(Xh (m:=m) hc hm he).2.2.2.2.2.1 h3
  have w:=kL (m:=m) (t:=t) hg
  have e:=he.e20
  have s:AX 0=10000:=by unfold AX;rfl
  cases hb:ID (CZ (AF m (A1 p t)) 2 0) (De (AF m (A1 p t)) 0 1) (AX 0) with
  | false=>rfl
  | true=>have:=faB_iff.1 hb;omega
 have f1:Et (AF m (A1 p t))=3->ID (CZ (AF m (A1 p t)) 2 1) (De (AF m (A1 p t)) 1 1) (AX 1)=false:=fun h3=>by
  have v:=(mZ (m:=m) hc hm he).2.2.2.2.2.1 h3
  have w:=kK (m:=m) (t:=t) hg
  have e:=he.e21
  have s:AX 1=10000:=by unfold AX;rfl
  cases hb:ID (CZ (AF m (A1 p t)) 2 1) (De (AF m (A1 p t)) 1 1) (AX 1) with
  | false=>rfl
  | true=>have:=faB_iff.1 hb;omega
 have f2:Et (AF m (A1 p t))=3->ID (CZ (AF m (A1 p t)) 2 2) (De (AF m (A1 p t)) 2 1) (AX 2)=false:=fun h3=>by
  have v:=(gB (m:=m) hc hm he).2.2.2.2.2.1 h3
  have w:=kJ (m:=m) (t:=t) hg
  have e:=he.e22
  have s:AX 2=1000:=by unfold AX;rfl
  cases hb:ID (CZ (AF m (A1 p t)) 2 2) (De (AF m (A1 p t)) 2 1) (AX 2) with
  | false=>rfl
  | true=>have:=faB_iff.1 hb;omega
 have f3:Et (AF m (A1 p t))=3->ID (CZ (AF m (A1 p t)) 2 3) (De (AF m (A1 p t)) 3 1) (AX 3)=false:=fun h3=>by
  have v:=(mY (m:=m) hc hm he).2.2.2.2.2.1 h3
  have w:=kI (m:=m) (t:=t) hg
  have e:=he.e23
  have s:AX 3=2000:=by unfold AX;rfl
  cases hb:ID (CZ (AF m (A1 p t)) 2 3) (De (AF m (A1 p t)) 3 1) (AX 3) with
  | false=>rfl
  | true=>have:=faB_iff.1 hb;omega
 have f4:Et (AF m (A1 p t))=3->ID (CZ (AF m (A1 p t)) 2 4) (De (AF m (A1 p t)) 4 1) (AX 4)=false:=fun h3=>by
  have v:=(mX (m:=m) hc hm he).2.2.2.2.2.1 h3
  have w:=kH (m:=m) (t:=t) hg
  have e:=he.e24
  have s:AX 4=5000:=by unfold AX;rfl
  cases hb:ID (CZ (AF m (A1 p t)) 2 4) (De (AF m (A1 p t)) 4 1) (AX 4) with
  | false=>rfl
  | true=>have:=faB_iff.1 hb;omega
 have h2:=(Xh (m:=m) hc hm he).2.2.2.2.2.2
 unfold QD
 split
 ·exact a0
 ·have hle:Et (AF m (A1 p t))<=3:=by
   rw [MQ _ 0]
   unfold JC
   cases XZ (AF m (A1 p t))<;>cases XY (AF m (A1 p t))<;>cases XX (AF m (A1 p t))<;>simp
  have h3:Et (AF m (A1 p t))=3:=by omega
  rw [GP,GP,GP,GP,GP,XU,a0,f0 h3,f1 h3,f2 h3,f3 h3,f4 h3]
  rfl
theorem eF (hg:GdOK m.g) (hc:GX p) (hm:DK p m) (he:ErOK t):DK p (mA m (A1 p t)):=by
 have d:=hg.d6
 have m0:J5 p 0->(mA m (A1 p t)).b0=false:=fun h=>by
  have h1:=AJ4 (m:=m) hc hm he h
  rw [SF,hm.1 h,UY,h1,Yz]
  simp
  omega
 have m1:J5 p 1->(mA m (A1 p t)).b1=false:=fun h=>by
  have h1:=AJ3 (m:=m) hc hm he h
  rw [SE,hm.2.1 h,UX,h1,Yz]
  simp
  omega
 have m2:J5 p 2->(mA m (A1 p t)).b2=false:=fun h=>by
  have h1:=AJ2 (m:=m) hc hm he h
  rw [SD,hm.2.2 h,UW,h1,Yz]
  simp
  omega
 exact ⟨m0,m1,m2⟩
end
end Abs
end Go.Proofs.YtccgngldoinokaaGreat

namespace Go.Proofs.YtccgngldoinokaaGreat
namespace Abs
open Go Go.RowKit
noncomputable section
structure Same (m m':Mc):Prop where
 g:m'.g=m.g
 b0:m'.b0=m.b0
 b1:m'.b1=m.b1
 b2:m'.b2=m.b2
 a0:m'.a0=m.a0
 a1:m'.a1=m.a1
 a2:m'.a2=m.a2
structure SameH (m m':Mc):Prop where
 h0:m'.h0=m.h0
 h1:m'.h1=m.h1
 h2:m'.h2=m.h2
 h3:m'.h3=m.h3
 h4:m'.h4=m.h4
 h5:m'.h5=m.h5
 h6:m'.h6=m.h6
structure ZeroH (m':Mc):Prop where
 h0:m'.h0=0
 h1:m'.h1=0
 h2:m'.h2=0
 h3:m'.h3=0
 h4:m'.h4=0
 h5:m'.h5=0
 h6:m'.h6=0
structure NextC (m m':Mc):Prop where
 p0:0<=m'.ph
 p1:m'.ph<=5
 t0:0<=m'.ti
 t1:m'.ti<=m.ti+1
 m0:0<=m'.mi
 m1:m'.mi<=m.mi+1
def Js (m':Mc):Prop:=m'.ph≠1/\m'.ph≠2
theorem LA {ca c:Int} (h:ca≠0):GB ca c=ca:=by unfold GB;rw [if_neg h]
theorem mz {ca c:Int} (h:c≠0):GB ca c≠0:=by unfold GB;split<;>assumption
theorem KC {n:Int} {b:Bool} (h:0<=n):0<=CX n b/\CX n b<=n+1:=by unfold CX;split<;>omega
variable {m:Mc} {s:Sn}
theorem oY (h:McOK m) (hp:m.ph=0):Same m (Tk m s)/\SameH m (Tk m s)/\NextC m (Tk m s)/\(m.ca≠0->Js (Tk m s)):=by
 have t0:=h.t0
 have m0:=h.m0
 unfold Tk
 split
 ·refine ⟨⟨by simp,by simp,by simp,by simp,by simp,by simp,by simp⟩,⟨by simp,by simp,by simp,by simp,by simp,by simp,by simp⟩,⟨by simp,by simp,by simp,by simp;omega,by simp;omega,by simp;omega⟩,fun _=>?_⟩
  unfold Js
  simp
 ·rename_i hc
  refine ⟨?_,?_,?_,fun h=>absurd h hc⟩
  ·repeat' split
   all_goals exact ⟨by simp,by simp,by simp,by simp,by simp,by simp,by simp⟩
  ·repeat' split
   all_goals exact ⟨by simp,by simp,by simp,by simp,by simp,by simp,by simp⟩
  ·repeat' split
   all_goals exact ⟨by (try simp)<;>omega,by (try simp)<;>omega,by (try simp)<;>omega,by (try simp)<;>omega,by (try simp)<;>omega,by (try simp)<;>omega⟩
theorem oN (h:McOK m) (hp:m.ph=1):Same m (Tf m s)/\SameH m (Tf m s)/\NextC m (Tf m s)/\(m.ca≠0->Js (Tf m s)):=by
 have t0:=h.t0
 have m0:=h.m0
 unfold Tf
 refine ⟨?_,?_,?_,fun hc=>?_⟩
 ·repeat' split
  all_goals exact ⟨by simp,by simp,by simp,by simp,by simp,by simp,by simp⟩
 ·repeat' split
  all_goals exact ⟨by simp,by simp,by simp,by simp,by simp,by simp,by simp⟩
 ·repeat' split
  all_goals exact ⟨by (try simp)<;>omega,by (try simp)<;>omega,by (try simp)<;>omega,by (try simp)<;>omega,by (try simp)<;>omega,by (try simp)<;>omega⟩
 ·rw [if_pos (Or.inl hc)]
  unfold Js
  simp
theorem qm (h:McOK m) (hp:m.ph=2):Same m (Nc m s)/\SameH m (Nc m s)/\NextC m (Nc m s)/\(m.ca≠0->Js (Nc m s)):=by
 have t0:=h.t0
 have m0:=h.m0
 have c:=KC (b:=(!s.k0 || !s.k1)) m0
 unfold Nc
 refine ⟨?_,?_,?_,fun hc=>?_⟩
 ·repeat' split
  all_goals exact ⟨by simp,by simp,by simp,by simp,by simp,by simp,by simp⟩
 ·repeat' split
  all_goals exact ⟨by simp,by simp,by simp,by simp,by simp,by simp,by simp⟩
 ·repeat' split
  all_goals exact ⟨by (try simp)<;>omega,by (try simp)<;>omega,by (try simp)<;>omega,by (try simp)<;>omega,by (try simp)<;>omega,by (try simp)<;>omega⟩
 ·have hn:UQ m s≠0:=by
   unfold UQ
   split
   ·rw [LA hc];exact hc
   ·exact hc
  rw [if_pos (Or.inl hn)]
  unfold Js
  simp
theorem oe (h:McOK m) (hp:m.ph=3):Same m (QS m s)/\SameH m (QS m s)/\NextC m (QS m s)/\(m.ca≠0->Js (QS m s)):=by
 have t0:=h.t0
 have m0:=h.m0
 unfold QS
 refine ⟨?_,?_,?_,fun hc=>?_⟩
 ·repeat' split
  all_goals exact ⟨by simp,by simp,by simp,by simp,by simp,by simp,by simp⟩
 ·repeat' split
  all_goals exact ⟨by simp,by simp,by simp,by simp,by simp,by simp,by simp⟩
 ·repeat' split
  all_goals exact ⟨by (try simp)<;>omega,by (try simp)<;>omega,by (try simp)<;>omega,by (try simp)<;>omega,by (try simp)<;>omega,by (try simp)<;>omega⟩
 ·have hn:dm m s≠0:=by
   unfold dm
   split
   ·rw [LA hc];exact hc
   ·exact hc
  unfold Js
  split
  ·simp [hp]
  ·split
   ·simp
   ·first|(rw [if_pos hn];simp)|simp
theorem ox (h:McOK m) (hp:m.ph=4):Same m (NZ m s)/\(SameH m (NZ m s)\/(XV s=true/\ZeroH (NZ m s)))/\NextC m (NZ m s)/\(XV s=false->Js (NZ m s)):=by
 have t0:=h.t0
 have m0:=h.m0
 have c:=KC (b:=s.cu) t0
 unfold NZ
 refine ⟨?_,?_,?_,fun hc=>?_⟩
 ·repeat' split
  all_goals exact ⟨by simp [HJ],by simp [HJ],by simp [HJ],by simp [HJ],by simp [HJ],by simp [HJ],by simp [HJ]⟩
 ·split
  ·exact .inl ⟨by simp,by simp,by simp,by simp,by simp,by simp,by simp⟩
  ·split
   ·rename_i hr
    refine .inr ⟨?_,⟨by simp [HJ],by simp [HJ],by simp [HJ],by simp [HJ],by simp [HJ],by simp [HJ],by simp [HJ]⟩⟩
    unfold YO at hr
    simp only [Bool.and_eq_true] at hr
    exact hr.1.1.1.2
   ·exact .inl ⟨by simp,by simp,by simp,by simp,by simp,by simp,by simp⟩
 ·repeat' split
  all_goals exact ⟨by (try simp [HJ])<;>omega,by (try simp [HJ])<;>omega,by (try simp [HJ])<;>omega,by (try simp [HJ])<;>omega,by (try simp [HJ])<;>omega,by (try simp [HJ])<;>omega⟩
 ·have hr:YO m s=false:=by unfold YO;simp [hc]
  unfold Js
  rw [hr]
  split
  ·simp
  ·simp [hp]
end
end Abs
end Go.Proofs.YtccgngldoinokaaGreat

namespace Go.Proofs.YtccgngldoinokaaGreat
namespace Abs
open Go Go.RowKit
noncomputable section
variable {m:Mc} {s:Sg}
theorem U7 (h:McOK (mB m s)) (hp:0<=m.ph/\m.ph<=5):Same (mB m s) (mC m s)/\(SameH (mB m s) (mC m s)\/(XV (Gu m s)=true/\ZeroH (mC m s)))/\NextC (mB m s) (mC m s)/\(t6 m s≠0->XV (Gu m s)=false->Js (mC m s)):=by
 have eca:(mB m s).ca=t6 m s:=jb m s
 have eph:(mB m s).ph=m.ph:=jT m s
 rcases (show m.ph=0\/m.ph=1\/m.ph=2\/m.ph=3\/m.ph=4\/m.ph=5 by omega) with e|e|e|e|e|e
 ·obtain ⟨a,b,c,d⟩:=oY (s:=Gu m s) h (by omega)
  rw [AF4 e]
  exact ⟨a,.inl b,c,fun hc _=>d (by rw [eca];exact hc)⟩
 ·obtain ⟨a,b,c,d⟩:=oN (s:=Gu m s) h (by omega)
  rw [AF3 e]
  exact ⟨a,.inl b,c,fun hc _=>d (by rw [eca];exact hc)⟩
 ·obtain ⟨a,b,c,d⟩:=qm (s:=Gu m s) h (by omega)
  rw [AF2 e]
  exact ⟨a,.inl b,c,fun hc _=>d (by rw [eca];exact hc)⟩
 ·obtain ⟨a,b,c,d⟩:=oe (s:=Gu m s) h (by omega)
  rw [AF1 e]
  exact ⟨a,.inl b,c,fun hc _=>d (by rw [eca];exact hc)⟩
 ·obtain ⟨a,b,c,d⟩:=ox (s:=Gu m s) h (by omega)
  rw [AF0 e]
  exact ⟨a,b,c,fun _ hf=>d hf⟩
 ·rw [AE9 e]
  have t0:=h.t0
  have m0:=h.m0
  exact ⟨⟨rfl,rfl,rfl,rfl,rfl,rfl,rfl⟩,.inl ⟨rfl,rfl,rfl,rfl,rfl,rfl,rfl⟩,⟨by omega,by omega,t0,by omega,m0,by omega⟩,fun _ _=>⟨by omega,by omega⟩⟩
theorem wb {n:Nat} (h:HA m s n≠0):HA m s (n+1)≠0:=by
 rw [lR]
 split
 ·rw [LA h];exact h
 ·exact h
theorem lS {n:Nat} (h:HA m s n≠0):∀ k,HA m s (n+k)≠0
 | 0=>h
 | k+1=>wb (lS h k)
theorem qz {n:Nat} (h:EI m.g n<=FO m s n):HA m s (n+1)≠0:=by
 rw [NR n h]
 exact mz (by omega)
theorem wa {n:Nat} (hn:n<7) (h:EI m.g n<=FO m s n):t6 m s≠0:=by
 have h7:HA m s 7≠0:=by
  have:=lS (qz h) (6-n)
  rwa [show n+1+(6-n)=7 by omega] at this
 have hc:t8 m s≠0:=by
  unfold t8
  split
  ·rw [LA h7];exact h7
  ·exact h7
 unfold t6
 split
 ·rw [LA hc];exact hc
 ·exact hc
theorem rP {k:Nat} (hk:k<7) (h:Di (AF m s) k=true):XV (Gu m s)=false:=by
 unfold XV
 rw [TR]
 simp only [u5,u4,u3,tx,tw,tv,tu]
 rcases (show k=0\/k=1\/k=2\/k=3\/k=4\/k=5\/k=6 by omega) with rfl|rfl|rfl|rfl|rfl|rfl|rfl<;>rw [h]<;>simp
def Ns (m:Mc) (k:Nat):Int:=match k with
 | 0=>m.h0|1=>m.h1|2=>m.h2|3=>m.h3|4=>m.h4|5=>m.h5|_=>m.h6
theorem kE (k:Nat) (hk:k<7):FO m s k=CX (Ns m k) (Di (AF m s) k):=by
 rcases (show k=0\/k=1\/k=2\/k=3\/k=4\/k=5\/k=6 by omega) with rfl|rfl|rfl|rfl|rfl|rfl|rfl
 ·exact Wn m s
 ·exact Wm m s
 ·exact Wl m s
 ·exact Wk m s
 ·exact Wj m s
 ·exact Wi m s
 ·exact Wh m s
theorem sj (k:Nat) (hk:k<7):Ns (mB m s) k=FO m s k:=by
 rcases (show k=0\/k=1\/k=2\/k=3\/k=4\/k=5\/k=6 by omega) with rfl|rfl|rfl|rfl|rfl|rfl|rfl
 ·exact ja m s
 ·exact jZ m s
 ·exact jY m s
 ·exact jX m s
 ·exact jW m s
 ·exact jV m s
 ·exact jU m s
theorem Zp {m m':Mc} (h:SameH m m') (k:Nat):Ns m' k=Ns m k:=by
 unfold Ns
 split<;>first|exact h.h0|exact h.h1|exact h.h2|exact h.h3|exact h.h4|exact h.h5|exact h.h6
theorem mQ {m':Mc} (h:ZeroH m') (k:Nat):Ns m' k=0:=by
 unfold Ns
 split<;>first|exact h.h0|exact h.h1|exact h.h2|exact h.h3|exact h.h4|exact h.h5|exact h.h6
theorem gx (k:Nat):Ns (Az m s) k=Ns (mC m s) k:=by
 unfold Ns
 split<;>simp [Az]
structure CtOK (m:Mc) (n:Int):Prop where
 p0:0<=m.ph
 p1:m.ph<=5
 t0:0<=m.ti
 t1:m.ti<=n
 m0:0<=m.mi
 m1:m.mi<=n
 h:∀ k,k<7->0<=Ns m k/\Ns m k<=n
 a0:0<=m.a0/\m.a0<=n
 a1:0<=m.a1/\m.a1<=n
 a2:0<=m.a2/\m.a2<=n
theorem bH {n:Int} (h:CtOK m n) (hn:n<=1000):McOK (mB m s):=⟨by rw [PP];exact h.t0,by have:=h.t1;rw [PP];omega,by rw [PQ];exact h.m0,by have:=h.m1;rw [PQ];omega⟩
theorem AJ0 {n:Int} (h:CtOK m n):(0<=Uk m s/\Uk m s<=n+1)/\(0<=Uj m s/\Uj m s<=n+1)/\(0<=Ui m s/\Ui m s<=n+1):=by
 rw [UY,UX,UW]
 have c0:=KC (b:=QD (AF m s) 0) h.a0.1
 have c1:=KC (b:=QD (AF m s) 1) h.a1.1
 have c2:=KC (b:=QD (AF m s) 2) h.a2.1
 have:=h.a0.2
 have:=h.a1.2
 have:=h.a2.2
 omega
theorem qf {n:Int} (h:CtOK m n) (hn:0<=n/\n<=1000):CtOK (Az m s) (n+1):=by
 obtain ⟨sm,sh,nx,_⟩:=U7 (s:=s) (bH h hn.2) ⟨h.p0,h.p1⟩
 have aw:=AJ0 (s:=s) h
 have e1:=PP m s
 have e2:=PQ m s
 have h1:=h.t1
 have h2:=h.m1
 refine ⟨?_,?_,?_,?_,?_,?_,fun k hk=>?_,?_,?_,?_⟩
 ·have:=nx.p0;simpa [Az] using this
 ·have:=nx.p1;simpa [Az] using this
 ·have:=nx.t0;simpa [Az] using this
 ·have:=nx.t1;simp [Az];omega
 ·have:=nx.m0;simpa [Az] using this
 ·have:=nx.m1;simp [Az];omega
 ·rw [gx]
  rcases sh with sh|⟨_,sh⟩
  ·rw [Zp sh,sj k hk,kE k hk]
   have:=h.h k hk
   have c:=KC (b:=Di (AF m s) k) this.1
   omega
  ·rw [mQ sh];omega
 ·have e:(Az m s).a0=(mC m s).a0:=by simp [Az]
  rw [e,sm.a0,jh];exact aw.1
 ·have e:(Az m s).a1=(mC m s).a1:=by simp [Az]
  rw [e,sm.a1,jg];exact aw.2.1
 ·have e:(Az m s).a2=(mC m s).a2:=by simp [Az]
  rw [e,sm.a2,jf];exact aw.2.2
theorem ef {n:Int} (h:CtOK m n) (hn:n<=1000) {k:Nat} (hk:k<7) (hh:Di (AF m s) k=true):Ns (Az m s) k=Ns m k+1/\(EI m.g k<=Ns m k+1->(Az m s).d0=false/\(Az m s).d1=false/\(Az m s).d2=false):=by
 obtain ⟨_,sh,_,nd⟩:=U7 (s:=s) (bH h hn) ⟨h.p0,h.p1⟩
 have af:=rP hk hh
 have el:FO m s k=Ns m k+1:=by rw [kE k hk,hh,wP]
 refine ⟨?_,fun hd=>?_⟩
 ·rw [gx]
  rcases sh with sh|⟨sf,_⟩
  ·rw [Zp sh,sj k hk,el]
  ·rw [af] at sf;cases sf
 ·have hc:=wa hk (by rw [el];exact hd)
  obtain ⟨n1,n2⟩:=nd hc af
  simp [Az,n1,n2]
theorem sC (h:CtOK m 1000):(Az m s).g=m.g:=by
 obtain ⟨sm,_,_,_⟩:=U7 (s:=s) (bH h (by omega)) ⟨h.p0,h.p1⟩
 have e:(Az m s).g=(mC m s).g:=by simp [Az]
 rw [e,sm.g,v_]
theorem zM (h:CtOK m 1000):(Az m s).b0=(mA m s).b0/\(Az m s).b1=(mA m s).b1/\(Az m s).b2=(mA m s).b2:=by
 obtain ⟨sm,_,_,_⟩:=U7 (s:=s) (bH h (by omega)) ⟨h.p0,h.p1⟩
 have e0:(Az m s).b0=(mC m s).b0:=by simp [Az]
 have e1:(Az m s).b1=(mC m s).b1:=by simp [Az]
 have e2:(Az m s).b2=(mC m s).b2:=by simp [Az]
 rw [e0,e1,e2,sm.b0,sm.b1,sm.b2,je,jd,jc,SF,SE,SD]
 exact ⟨rfl,rfl,rfl⟩
theorem CtOK.up {n k:Int} (h:CtOK m n) (hk:n<=k):CtOK m k:=⟨h.p0,h.p1,h.t0,Int.le_trans h.t1 hk,h.m0,Int.le_trans h.m1 hk,fun j hj=>⟨(h.h j hj).1,Int.le_trans (h.h j hj).2 hk⟩,⟨h.a0.1,Int.le_trans h.a0.2 hk⟩,⟨h.a1.1,Int.le_trans h.a1.2 hk⟩,⟨h.a2.1,Int.le_trans h.a2.2 hk⟩⟩
end
end Abs
end Go.Proofs.YtccgngldoinokaaGreat

namespace Go.Proofs.YtccgngldoinokaaGreat
namespace Abs
open Go Go.RowKit
noncomputable section
def yT (p:Pla) (i:Int):Bool:=if i=0 then p.r000 else if i=1 then p.r010 else if i=2 then p.r020 else if i=3 then p.r030 else p.r040
def yS (p:Pla) (i:Int):Bool:=if i=0 then p.r001 else if i=1 then p.r011 else if i=2 then p.r021 else if i=3 then p.r031 else p.r041
def yR (p:Pla) (i:Int):Bool:=if i=0 then p.r002 else if i=1 then p.r012 else if i=2 then p.r022 else if i=3 then p.r032 else p.r042
def rgF (p:Pla) (i:Int):Prop:=yT p i=false/\yS p i=false/\yR p i=false
def bk (p:Pla) (j:Int):Int:=if j<=p.ix then p.ix-j else p.ix+(p.lg+1)-j
def QG (p:Pla) (n:Int):Prop:=∀ j,1<=j->j<=p.lg+1->j<=n->rgF p (bk p j)
variable {p:Pla} {d0 d1 d2 f:Bool}
theorem sL {i:Int} (h:0<=i/\i<=4):yT (A5 p d0 d1 d2 f) i=if p.ix=i then d0 else yT p i:=by
 unfold yT
 rw [BG,BD,BA,B8,B5]
 rcases (show i=0\/i=1\/i=2\/i=3\/i=4 by omega) with rfl|rfl|rfl|rfl|rfl<;>simp
theorem sK {i:Int} (h:0<=i/\i<=4):yS (A5 p d0 d1 d2 f) i=if p.ix=i then d1 else yS p i:=by
 unfold yS
 rw [BF,BC,B_,B7,B4]
 rcases (show i=0\/i=1\/i=2\/i=3\/i=4 by omega) with rfl|rfl|rfl|rfl|rfl<;>simp
theorem sJ {i:Int} (h:0<=i/\i<=4):yR (A5 p d0 d1 d2 f) i=if p.ix=i then d2 else yR p i:=by
 unfold yR
 rw [BE,BB,B9,B6,B3]
 rcases (show i=0\/i=1\/i=2\/i=3\/i=4 by omega) with rfl|rfl|rfl|rfl|rfl<;>simp
theorem ou (h:0<=Fd p/\Fd p<=4):Ie p d0=yT (A5 p d0 d1 d2 f) (Fd p):=by
 rw [sL h]
 unfold Ie yT
 rcases (show Fd p=0\/Fd p=1\/Fd p=2\/Fd p=3\/Fd p=4 by omega) with e|e|e|e|e<;>rw [e]<;>simp
theorem oq (h:0<=Fd p/\Fd p<=4):Ic p d1=yS (A5 p d0 d1 d2 f) (Fd p):=by
 rw [sK h]
 unfold Ic yS
 rcases (show Fd p=0\/Fd p=1\/Fd p=2\/Fd p=3\/Fd p=4 by omega) with e|e|e|e|e<;>rw [e]<;>simp
theorem om (h:0<=Fd p/\Fd p<=4):Ib p d2=yR (A5 p d0 d1 d2 f) (Fd p):=by
 rw [sJ h]
 unfold Ib yR
 rcases (show Fd p=0\/Fd p=1\/Fd p=2\/Fd p=3\/Fd p=4 by omega) with e|e|e|e|e<;>rw [e]<;>simp
theorem jv (h:PlOK p):0<=Fd p/\Fd p<=p.lg:=by
 have l0:=h.l0
 have i0:=h.i0
 have i1:=h.i1
 unfold Fd
 split<;>omega
theorem oP (h:PlOK p):PlOK (A5 p d0 d1 d2 f):=by
 have e:=jv h
 refine ⟨?_,?_,?_,?_⟩
 ·rw [B1];exact h.l0
 ·rw [B1];exact h.l1
 ·rw [Cr];exact e.1
 ·rw [Cr,B1];exact e.2
theorem Qu {n:Int} (h:PlOK p) (hr:QG p n):QG (A5 p false false false f) (n+1):=by
 intro j j1 j2 j3
 rw [B1] at j2
 have l0:=h.l0
 have l1:=h.l1
 have i0:=h.i0
 have i1:=h.i1
 have eb:bk (A5 p false false false f) j=if j=1 then p.ix else bk p (j-1):=by
  unfold bk
  rw [Cr,B1]
  unfold Fd
  repeat' split
  all_goals omega
 have hb:0<=bk (A5 p false false false f) j/\bk (A5 p false false false f) j<=4:=by
  rw [eb]
  unfold bk
  repeat' split
  all_goals omega
 have key:p.ix=bk (A5 p false false false f) j\/rgF p (bk (A5 p false false false f) j):=by
  rw [eb]
  split
  ·exact .inl rfl
  ·exact .inr (hr (j-1) (by omega) (by omega) (by omega))
 unfold rgF
 rw [sL hb,sK hb,sJ hb]
 rcases key with e|⟨e0,e1,e2⟩
 ·simp [e]
 ·simp [e0,e1,e2]
def rd (p:Pla):Prop:=(p.we0=false/\p.we1=false)\/(p.we0=false/\p.we2=false)\/(p.we1=false/\p.we2=false)
theorem dl {n:Int} (h:PlOK p) (hw:rd p) (hr:QG p n) (hn:p.lg<=n):HP (A5 p false false false f)=false:=by
 have l0:=h.l0
 have l1:=h.l1
 have ie:=jv h
 have hr':=Qu (f:=f) h hr
 have hb:=hr' (p.lg+1) (by omega) (by rw [B1];omega) (by omega)
 have eb:bk (A5 p false false false f) (p.lg+1)=Fd p:=by
  unfold bk
  rw [Cr,B1]
  split<;>omega
 rw [eb] at hb
 obtain ⟨b0,b1,b2⟩:=hb
 have o0:=ou (p:=p) (d0:=false) (d1:=false) (d2:=false) (f:=f) ⟨ie.1,by omega⟩
 have o1:=oq (p:=p) (d0:=false) (d1:=false) (d2:=false) (f:=f) ⟨ie.1,by omega⟩
 have o2:=om (p:=p) (d0:=false) (d1:=false) (d2:=false) (f:=f) ⟨ie.1,by omega⟩
 rw [b0] at o0
 rw [b1] at o1
 rw [b2] at o2
 unfold HP
 rw [Cj,Ci,Ch,o0,o1,o2]
 rcases hw with ⟨a,b⟩|⟨a,b⟩|⟨a,b⟩<;>simp [a,b]
end
end Abs
end Go.Proofs.YtccgngldoinokaaGreat

namespace Go.Proofs.YtccgngldoinokaaGreat
namespace Abs
open Go Go.RowKit
noncomputable section
structure GInv (k n:Int) (m:Mc) (p:Pla) (r:Nat->Int):Prop where
 g:GdOK m.g
 ct:CtOK m n
 mrk:DK p m
 fc:GX p
 fw:rd p
 pl:PlOK p
 lg:p.lg=k
 md:p.md=true
 rn:∀ c,c<6->0<=r c/\r c<=Ns m c
 ring:∀ c,c<6->QG p (r c-EI m.g c+1)
 path:∀ c,c<6->EI m.g c+k<=r c->HP p=false
 cur:∀ c,c=2\/c=3->r c<=EI m.g c+k
@[irreducible]def Hu (t:Tru) (r:Nat->Int) (c:Nat):Int:=if FY t c=true then r c+1 else 0
variable {k n:Int} {m:Mc} {p:Pla} {r:Nat->Int} {t:Tru}
theorem Q0 (h:GdOK m.g) (c:Nat):1<=EI m.g c/\EI m.g c<=5:=by
 unfold EI
 split<;>first|exact h.d0|exact h.d1|exact h.d2|exact h.d3|exact h.d4|exact h.d5|exact h.d6
theorem pC (hc:GX p) (hm:DK p m) (he:ErOK t) {c:Nat} (h6:c<6) (h:FY t c=true):Di (AF m (A1 p t)) c=true:=by
 rcases (show c=0\/c=1\/c=2\/c=3\/c=4\/c=5 by omega) with rfl|rfl|rfl|rfl|rfl|rfl
 ·exact AA4 hc hm he h
 ·exact AA3 hc hm he h
 ·exact AA2 hc hm he h
 ·exact AA1 hc hm he h
 ·exact AA0 hc hm he h
 ·exact zy hc hm he h
theorem cN {d0 d1 d2 f:Bool} (j:Nat):J5 (A5 p d0 d1 d2 f) j↔J5 p j:=by
 unfold J5
 split
 ·rw [Cm,Cp]
 ·rw [Cl,Co]
 ·rw [Ck,Cn]
theorem iX {N:Int} (h:N<=0):QG p N:=fun j j1 _ j3=>by omega
theorem vz (h:GInv k n m p r) (hn:0<=n/\n<=900) (he:ErOK t) (hx:HP p=false->t.x2=0) :
  GInv k (n+1) (Az m (A1 p t)) (A5 p (Az m (A1 p t)).d0 (Az m (A1 p t)).d1 (Az m (A1 p t)).d2 (Az m (A1 p t)).fi) (Hu t r):=by
 have hct:CtOK m 1000:=h.ct.up (by omega)
 have eg:=sC (s:=A1 p t) hct
 have ct':=qf (s:=A1 p t) h.ct ⟨hn.1,by omega⟩
 have hk0:=h.pl.l0
 have lg:=h.lg
 have held:∀ c,c<6->FY t c=true->Ns (Az m (A1 p t)) c=Ns m c+1/\(EI m.g c<=Ns m c+1->(Az m (A1 p t)).d0=false/\(Az m (A1 p t)).d1=false/\(Az m (A1 p t)).d2=false):=fun c h6 hb =>
  ef h.ct (by omega) (by omega) (pC h.fc h.mrk he h6 hb)
 have over:∀ c,c<6->EI m.g c<=Hu t r c->Hu t r c=r c+1/\(Az m (A1 p t)).d0=false/\(Az m (A1 p t)).d1=false/\(Az m (A1 p t)).d2=false:=fun c h6 hd=>by
  have hd0:=Q0 h.g c
  cases hb:FY t c with
  | false =>
    have e:Hu t r c=0:=by unfold Hu;rw [hb];rfl
    omega
  | true =>
    have e:Hu t r c=r c+1:=by unfold Hu;rw [if_pos hb]
    have hr:=h.rn c h6
    exact ⟨e,(held c h6 hb).2 (by omega)⟩
 refine ⟨by rw [eg];exact h.g,ct',?_,?_,?_,oP h.pl,by rw [B1];exact lg,by rw [Dp];exact h.md,fun c h6=>?_,fun c h6=>?_,fun c h6 hc=>?_,fun c h6=>?_⟩
 ·have mk:=eF h.g h.fc h.mrk he
  obtain ⟨b0,b1,b2⟩:=zM (s:=A1 p t) hct
  exact ⟨fun hg=>by rw [b0];exact mk.1 ((cN 0).1 hg),fun hg=>by rw [b1];exact mk.2.1 ((cN 1).1 hg),fun hg=>by rw [b2];exact mk.2.2 ((cN 2).1 hg)⟩
 ·have hc:=h.fc
  unfold GX at hc ⊢
  simp only [cN]
  exact hc
 ·have hw:=h.fw
  unfold rd at hw ⊢
  rw [Cg,Cf,Ce]
  exact hw
 ·have hr:=h.rn c h6
  have hh:=ct'.h c (by omega)
  cases hb:FY t c with
  | false =>
    have e:Hu t r c=0:=by unfold Hu;rw [hb];rfl
    omega
  | true =>
    have e:Hu t r c=r c+1:=by unfold Hu;rw [if_pos hb]
    have:=(held c h6 hb).1
    omega
 ·rw [eg]
  by_cases hd:EI m.g c<=Hu t r c
  ·obtain ⟨e,d0,d1,d2⟩:=over c h6 hd
   rw [d0,d1,d2,e,show r c+1-EI m.g c+1=(r c-EI m.g c+1)+1 by omega]
   exact Qu h.pl (h.ring c h6)
  ·exact iX (by omega)
 ·rw [eg] at hc
  obtain ⟨e,d0,d1,d2⟩:=over c h6 (by omega)
  rw [d0,d1,d2]
  exact dl h.pl h.fw (h.ring c h6) (by omega)
 ·rw [eg]
  have hd:=Q0 h.g c
  cases hb:FY t c with
  | false =>
    have e:Hu t r c=0:=by unfold Hu;rw [hb];rfl
    omega
  | true =>
    have e:Hu t r c=r c+1:=by unfold Hu;rw [if_pos hb]
    have hp:HP p=true:=by
     cases hp:HP p with
     | true=>rfl
     | false =>
       have h0:=hx hp
       unfold FY at hb
       rcases h6 with rfl|rfl
       ·simp only [decide_eq_true_eq] at hb;omega
       ·simp only [decide_eq_true_eq] at hb;omega
    have hlt:¬ EI m.g c+k<=r c:=fun hge=>by
     have:=h.path c (by omega) hge
     rw [this] at hp
     cases hp
    omega
theorem qF (h:GInv k n m p r) {c:Nat} (h6:c<6):¬(EI m.g c+k<=r c/\HP p=true)/\((c=2\/c=3)->r c<=EI m.g c+k) :=
 ⟨fun ⟨h1,h2⟩=>(by have:=h.path c h6 h1;rw [this] at h2;cases h2),h.cur c⟩
theorem qX (g:Gd) (c:Nat) (h6:c<6):UK g ((c:Int)+1)=EI g c:=by
 rcases (show c=0\/c=1\/c=2\/c=3\/c=4\/c=5 by omega) with rfl|rfl|rfl|rfl|rfl|rfl<;>unfold UK EI<;>simp
theorem w5 {g:Gd} (hg:GdOK g) {lag K A:Int} {b:Bool} {N:Nat} (hl:0<=lag/\lag<=4):GInv lag 0 (CU g) (A7 lag N K A b) (fun _=>0):=by
 have eg:(CU g).g=g:=YU g
 have hh:∀ c,Ns (CU g) c=0:=fun c=>by
  unfold Ns
  split
  ·exact am g
  ·exact al g
  ·exact ak g
  ·exact aj g
  ·exact ai g
  ·exact ah g
  ·exact ae g
 refine ⟨by rw [eg];exact hg,⟨?_,?_,?_,?_,?_,?_,fun c _=>by rw [hh];omega,?_,?_,?_⟩,?_,?_,?_,?_,K0 _ _ _ _ _,Tw _ _ _ _ _,fun c _=>by rw [hh];omega,fun c h6=>?_,fun c h6 hc=>?_,fun c h6=>?_⟩
 ·rw [Ty];omega
 ·rw [Ty];omega
 ·rw [Tx];omega
 ·rw [Tx];omega
 ·rw [Tz];omega
 ·rw [Tz];omega
 ·rw [ax];omega
 ·rw [au];omega
 ·rw [ar];omega
 ·exact ⟨fun _=>aq g,fun _=>ap g,fun _=>ao g⟩
 ·unfold GX J5
  simp only [P9,P8,P7,PB,PA,P_,decide_eq_false_iff_not]
  omega
 ·unfold rd
  simp only [P6,P5,P4,decide_eq_false_iff_not]
  omega
 ·refine ⟨?_,?_,?_,?_⟩
  ·rw [K0];exact hl.1
  ·rw [K0];exact hl.2
  ·rw [Nk];omega
  ·rw [Nk,K0];exact hl.1
 ·have:=Q0 (m:=CU g) (by rw [eg];exact hg) c
  exact iX (by omega)
 ·have:=Q0 (m:=CU g) (by rw [eg];exact hg) c
  omega
 ·have:=Q0 (m:=CU g) (by rw [eg];exact hg) c
  omega
end
end Abs
end Go.Proofs.YtccgngldoinokaaGreat

namespace Go.Proofs.YtccgngldoinokaaGreat
namespace Abs
open Go Go.RowKit
noncomputable section
structure Pul where
 y0:Int
 y1:Int
 y2:Int
 y3:Int
 y4:Int
 y5:Int
 y6:Int
 y7:Int
 y8:Int
 y9:Int
 y10:Int
 y11:Int
 y12:Int
 y13:Int
 y14:Int
 y15:Int
 y16:Int
 y17:Int
 y18:Int
 y19:Int
 y20:Int
 y21:Int
@[irreducible]def Pul.d (z:Pul):Int:=z.y0
@[irreducible]def Pul.e00 (z:Pul):Int:=z.y1
@[irreducible]def Pul.e01 (z:Pul):Int:=z.y2
@[irreducible]def Pul.e02 (z:Pul):Int:=z.y3
@[irreducible]def Pul.e03 (z:Pul):Int:=z.y4
@[irreducible]def Pul.e04 (z:Pul):Int:=z.y5
@[irreducible]def Pul.e10 (z:Pul):Int:=z.y6
@[irreducible]def Pul.e11 (z:Pul):Int:=z.y7
@[irreducible]def Pul.e12 (z:Pul):Int:=z.y8
@[irreducible]def Pul.e13 (z:Pul):Int:=z.y9
@[irreducible]def Pul.e14 (z:Pul):Int:=z.y10
@[irreducible]def Pul.e20 (z:Pul):Int:=z.y11
@[irreducible]def Pul.e21 (z:Pul):Int:=z.y12
@[irreducible]def Pul.e22 (z:Pul):Int:=z.y13
@[irreducible]def Pul.e23 (z:Pul):Int:=z.y14
@[irreducible]def Pul.e24 (z:Pul):Int:=z.y15
@[irreducible]def Pul.l0 (z:Pul):Int:=z.y16
@[irreducible]def Pul.l1 (z:Pul):Int:=z.y17
@[irreducible]def Pul.l2 (z:Pul):Int:=z.y18
@[irreducible]def Pul.l3 (z:Pul):Int:=z.y19
@[irreducible]def Pul.l4 (z:Pul):Int:=z.y20
@[irreducible]def Pul.f (z:Pul):Int:=z.y21
section
variable (x0 x1 x2 x3 x4 x5 x6 x7 x8 x9 x10 x11 x12 x13 x14 x15 x16 x17 x18 x19 x20 x21:Int)
@[simp]theorem Pul.d_mk:(Pul.mk x0 x1 x2 x3 x4 x5 x6 x7 x8 x9 x10 x11 x12 x13 x14 x15 x16 x17 x18 x19 x20 x21).d=x0:=by unfold Pul.d;rfl
@[simp]theorem Pul.e00_mk:(Pul.mk x0 x1 x2 x3 x4 x5 x6 x7 x8 x9 x10 x11 x12 x13 x14 x15 x16 x17 x18 x19 x20 x21).e00=x1:=by unfold Pul.e00;rfl
@[simp]theorem Pul.e01_mk:(Pul.mk x0 x1 x2 x3 x4 x5 x6 x7 x8 x9 x10 x11 x12 x13 x14 x15 x16 x17 x18 x19 x20 x21).e01=x2:=by unfold Pul.e01;rfl
@[simp]theorem Pul.e02_mk:(Pul.mk x0 x1 x2 x3 x4 x5 x6 x7 x8 x9 x10 x11 x12 x13 x14 x15 x16 x17 x18 x19 x20 x21).e02=x3:=by unfold Pul.e02;rfl
@[simp]theorem Pul.e03_mk:(Pul.mk x0 x1 x2 x3 x4 x5 x6 x7 x8 x9 x10 x11 x12 x13 x14 x15 x16 x17 x18 x19 x20 x21).e03=x4:=by unfold Pul.e03;rfl
@[simp]theorem Pul.e04_mk:(Pul.mk x0 x1 x2 x3 x4 x5 x6 x7 x8 x9 x10 x11 x12 x13 x14 x15 x16 x17 x18 x19 x20 x21).e04=x5:=by unfold Pul.e04;rfl
@[simp]theorem Pul.e10_mk:(Pul.mk x0 x1 x2 x3 x4 x5 x6 x7 x8 x9 x10 x11 x12 x13 x14 x15 x16 x17 x18 x19 x20 x21).e10=x6:=by unfold Pul.e10;rfl
@[simp]theorem Pul.e11_mk:(Pul.mk x0 x1 x2 x3 x4 x5 x6 x7 x8 x9 x10 x11 x12 x13 x14 x15 x16 x17 x18 x19 x20 x21).e11=x7:=by unfold Pul.e11;rfl
@[simp]theorem Pul.e12_mk:(Pul.mk x0 x1 x2 x3 x4 x5 x6 x7 x8 x9 x10 x11 x12 x13 x14 x15 x16 x17 x18 x19 x20 x21).e12=x8:=by unfold Pul.e12;rfl
@[simp]theorem Pul.e13_mk:(Pul.mk x0 x1 x2 x3 x4 x5 x6 x7 x8 x9 x10 x11 x12 x13 x14 x15 x16 x17 x18 x19 x20 x21).e13=x9:=by unfold Pul.e13;rfl
@[simp]theorem Pul.e14_mk:(Pul.mk x0 x1 x2 x3 x4 x5 x6 x7 x8 x9 x10 x11 x12 x13 x14 x15 x16 x17 x18 x19 x20 x21).e14=x10:=by unfold Pul.e14;rfl
@[simp]theorem Pul.e20_mk:(Pul.mk x0 x1 x2 x3 x4 x5 x6 x7 x8 x9 x10 x11 x12 x13 x14 x15 x16 x17 x18 x19 x20 x21).e20=x11:=by unfold Pul.e20;rfl
@[simp]theorem Pul.e21_mk:(Pul.mk x0 x1 x2 x3 x4 x5 x6 x7 x8 x9 x10 x11 x12 x13 x14 x15 x16 x17 x18 x19 x20 x21).e21=x12:=by unfold Pul.e21;rfl
@[simp]theorem Pul.e22_mk:(Pul.mk x0 x1 x2 x3 x4 x5 x6 x7 x8 x9 x10 x11 x12 x13 x14 x15 x16 x17 x18 x19 x20 x21).e22=x13:=by unfold Pul.e22;rfl
@[simp]theorem Pul.e23_mk:(Pul.mk x0 x1 x2 x3 x4 x5 x6 x7 x8 x9 x10 x11 x12 x13 x14 x15 x16 x17 x18 x19 x20 x21).e23=x14:=by unfold Pul.e23;rfl
@[simp]theorem Pul.e24_mk:(Pul.mk x0 x1 x2 x3 x4 x5 x6 x7 x8 x9 x10 x11 x12 x13 x14 x15 x16 x17 x18 x19 x20 x21).e24=x15:=by unfold Pul.e24;rfl
@[simp]theorem Pul.l0_mk:(Pul.mk x0 x1 x2 x3 x4 x5 x6 x7 x8 x9 x10 x11 x12 x13 x14 x15 x16 x17 x18 x19 x20 x21).l0=x16:=by unfold Pul.l0;rfl
@[simp]theorem Pul.l1_mk:(Pul.mk x0 x1 x2 x3 x4 x5 x6 x7 x8 x9 x10 x11 x12 x13 x14 x15 x16 x17 x18 x19 x20 x21).l1=x17:=by unfold Pul.l1;rfl
@[simp]theorem Pul.l2_mk:(Pul.mk x0 x1 x2 x3 x4 x5 x6 x7 x8 x9 x10 x11 x12 x13 x14 x15 x16 x17 x18 x19 x20 x21).l2=x18:=by unfold Pul.l2;rfl
@[simp]theorem Pul.l3_mk:(Pul.mk x0 x1 x2 x3 x4 x5 x6 x7 x8 x9 x10 x11 x12 x13 x14 x15 x16 x17 x18 x19 x20 x21).l3=x19:=by unfold Pul.l3;rfl
@[simp]theorem Pul.l4_mk:(Pul.mk x0 x1 x2 x3 x4 x5 x6 x7 x8 x9 x10 x11 x12 x13 x14 x15 x16 x17 x18 x19 x20 x21).l4=x20:=by unfold Pul.l4;rfl
@[simp]theorem Pul.f_mk:(Pul.mk x0 x1 x2 x3 x4 x5 x6 x7 x8 x9 x10 x11 x12 x13 x14 x15 x16 x17 x18 x19 x20 x21).f=x21:=by unfold Pul.f;rfl
end
@[simp]theorem Pul.eta (z:Pul):Pul.mk z.d z.e00 z.e01 z.e02 z.e03 z.e04 z.e10 z.e11 z.e12 z.e13 z.e14 z.e20 z.e21 z.e22 z.e23 z.e24 z.l0 z.l1 z.l2 z.l3 z.l4 z.f=z:=by unfold Pul.d Pul.e00 Pul.e01 Pul.e02 Pul.e03 Pul.e04 Pul.e10 Pul.e11 Pul.e12 Pul.e13 Pul.e14 Pul.e20 Pul.e21 Pul.e22 Pul.e23 Pul.e24 Pul.l0 Pul.l1 Pul.l2 Pul.l3 Pul.l4 Pul.f;rfl
abbrev yK:=Int × Int × Int × Int × Int × Int × Int × Int × Int × Int × Int × Int × Int × Int × Int × Int × Int × Int × Int × Int × Int × Int × Unit
@[irreducible]def NX (z:yK):Pul :=
 let (x0,x1,x2,x3,x4,x5,x6,x7,x8,x9,x10,x11,x12,x13,x14,x15,x16,x17,x18,x19,x20,x21,_):=z
 ⟨x0,x1,x2,x3,x4,x5,x6,x7,x8,x9,x10,x11,x12,x13,x14,x15,x16,x17,x18,x19,x20,x21⟩
@[reducible]def Zz (z:Pul):yK:=(z.d,z.e00,z.e01,z.e02,z.e03,z.e04,z.e10,z.e11,z.e12,z.e13,z.e14,z.e20,z.e21,z.e22,z.e23,z.e24,z.l0,z.l1,z.l2,z.l3,z.l4,z.f,())
@[reducible]def Oi:List Sh:=[.int .i16,.int .i8,.int .i8,.int .i8,.int .i8,.int .i8,.int .i8,.int .i8,.int .i8,.int .i8,.int .i8,.int .i8,.int .i8,.int .i8,.int .i8,.int .i8,.int .i32,.int .i32,.int .i32,.int .i32,.int .i32,.int .u8]
theorem Te (z:Pul):NX (Zz z)=z:=by unfold NX Zz Pul.d Pul.e00 Pul.e01 Pul.e02 Pul.e03 Pul.e04 Pul.e10 Pul.e11 Pul.e12 Pul.e13 Pul.e14 Pul.e20 Pul.e21 Pul.e22 Pul.e23 Pul.e24 Pul.l0 Pul.l1 Pul.l2 Pul.l3 Pul.l4 Pul.f;rfl
@[simp]theorem AM8 (z:Pul):NX (z.d,z.e00,z.e01,z.e02,z.e03,z.e04,z.e10,z.e11,z.e12,z.e13,z.e14,z.e20,z.e21,z.e22,z.e23,z.e24,z.l0,z.l1,z.l2,z.l3,z.l4,z.f,())=z:=Te z
theorem sN (t:yK):t=Zz (NX t):=by unfold NX Zz;simp
end
end Abs
end Go.Proofs.YtccgngldoinokaaGreat

namespace Go.Proofs.YtccgngldoinokaaGreat
namespace Abs
open Go Go.RowKit
@[irreducible]def QI (x:Int):Int:=if x<0 then -1 else if 0<x then 1 else 0
theorem oC (x:Int):x*QI x=CP x:=by unfold QI CP;split<;>(try split)<;>omega
theorem iH (x:Int):QI x = -1\/QI x=0\/QI x=1:=by unfold QI;split<;>(try split)<;>simp
def Zm:Spec [.int .i64]:=⟨fun _=>True,fun (x,_)=>.si .i64 (QI x)⟩
set_option maxRecDepth 100000 in
theorem nZ:FnSpec Tryz.prog 141 _ Zm:=by
 refine FnSpec.of SQ3_ok mixed (U:=0) (I:=fun _=>[]) Tryz.func141 rfl (by kernel_rfl) rfl rfl (by decide +kernel) ?_
 rintro ⟨(x:Int),⟨⟩⟩ -
 unfold A2
 conv=>arg 2;reduce
 simp [Zm,QI]
 repeat' (first|refine And.intro ?_ ?_|intro _)
 all_goals (try omega)
noncomputable def SX0:Sums:=⟨(141,A_ _ Zm)::SQ3.one,SQ3.two,SQ3.lo,SQ3.eqs,SQ3.its,SQ3.imm⟩
theorem SX0_ok:SumsOK Tryz.prog SX0:=(SQ3_ok.cons Tryz.func141 (by kernel_rfl) (by kernel_rfl) nZ)
@[irreducible]def qD (x n d:Int) (k:Nat):Int:=FP x n k / d
@[irreducible]def rD (x n d:Int) (k:Nat):Int:=FP x n k % d
theorem kA (n:Int):bits .and .i64 n 1=n % 2:=by
 have h1:(BitVec.ofInt 64 1).toNat=2 ^ 1-1:=by decide
 have key:(BitVec.ofInt 64 n &&& BitVec.ofInt 64 1).toNat=(n % ((2 ^ 64:Nat):Int)).toNat % 2 ^ 1:=by
  rw [BitVec.toNat_and,BitVec.toNat_ofInt,h1,Nat.and_two_pow_sub_one_eq_mod]
 show IntKind.i64.wrap ((BitVec.ofInt 64 n &&& BitVec.ofInt 64 1).toNat:Nat)=n % 2
 rw [key,IntKind.wrap_i64]
 omega
theorem xD {n:Int} (i:Nat) (hn:0<=n):KL .and .i64 (pi n (i:Int)) 1=Mx n i:=by
 unfold KL pi Mx
 rw [kA,Int.fdiv_eq_ediv_of_nonneg _ (Int.pow_nonneg (by decide))]
theorem kz {x n d:Int} {i:Nat} (hx:0<=x) (hn:0<=n) (hd:1<=d):0<=qD x n d (i+1)/\0<=rD x n d (i+1)/\rD x n d (i+1)<d /\
  2*qD x n d (i+1)+Mx n i*(x / d)+(2*rD x n d (i+1)+Mx n i*(x % d)) / d=qD x n d i/\(2*rD x n d (i+1)+Mx n i*(x % d)) % d=rD x n d i:=by
 have hT:=Qg (x:=x) (n:=n) (i:=(i:Int)) (by omega)
 have e1:(i:Int)+1=((i+1:Nat):Int):=by omega
 rw [e1] at hT
 have hn0:=N8 (i:=((i+1:Nat):Int)) hx hn
 have hd0:d≠0:=by omega
 have hq1:=Int.emod_add_mul_ediv (FP x n ((i+1:Nat):Int)) d
 have hq2:=Int.emod_nonneg (FP x n ((i+1:Nat):Int)) hd0
 have hq3:=Int.emod_lt_of_pos (FP x n ((i+1:Nat):Int)) (show 0<d by omega)
 have hq4:0<=FP x n ((i+1:Nat):Int) / d:=Int.ediv_nonneg hn0 (by omega)
 have hx1:=Int.emod_add_mul_ediv x d
 have u1:FP x n ((i+1:Nat):Int) / d=qD x n d (i+1):=by unfold qD;rfl
 have u2:FP x n ((i+1:Nat):Int) % d=rD x n d (i+1):=by unfold rD;rfl
 rw [u1,u2] at hq1
 rw [u2] at hq2 hq3
 rw [u1] at hq4
 refine ⟨hq4,hq2,hq3,?_⟩
 have e2:qD x n d i=FP x n i / d:=by unfold qD;rfl
 have e3:rD x n d i=FP x n i % d:=by unfold rD;rfl
 rw [e2,e3]
 clear u1 u2 e2 e3
 generalize qD x n d (i+1)=q at *
 generalize rD x n d (i+1)=r at *
 generalize hxd:x / d=q1 at *
 generalize hxm:x % d=r1 at *
 have e4:FP x n i=(2*r+Mx n i*r1)+d*(2*q+Mx n i*q1):=by
  rw [hT,<- hq1]
  rcases UU n i with h|h<;>rw [h]
  ·simp only [Int.zero_mul,Int.add_zero]
   rw [Int.mul_add,Int.mul_left_comm]
  ·simp only [Int.one_mul]
   rw [<- hx1,Int.mul_add,Int.mul_add,Int.mul_left_comm]
   omega
 rw [e4,Int.add_mul_ediv_left _ _ hd0,Int.add_mul_emod_self_left]
 exact ⟨by omega,rfl⟩
theorem uD {x n d:Int} (h0:0<=n) (h1:n<17592186044416):qD x n d 44=0/\rD x n d 44=0:=by
 unfold qD rD
 rw [show ((44:Nat):Int)=44 from rfl,gn h0 h1];simp
theorem oK {x n d:Int} (hd:1<=d) (h:qD x n d 0<=288230376151711744):qD x n d 0=T6 x n d/\rD x n d 0=fZ x n d:=by
 have hd0:d≠0:=by omega
 have hq1:=Int.emod_add_mul_ediv (FP x n ((0:Nat):Int)) d
 have hq2:=Int.emod_nonneg (FP x n ((0:Nat):Int)) hd0
 have hq3:=Int.emod_lt_of_pos (FP x n ((0:Nat):Int)) (show 0<d by omega)
 rw [Int.mul_comm] at hq1
 unfold qD at h ⊢
 unfold rD
 have:=mT (x:=x) (n:=n) (d:=d) (q:=FP x n ((0:Nat):Int) / d) (r:=FP x n ((0:Nat):Int) % d) (by rw [Int.add_comm];exact hq1) hq2 hq3 h
 exact ⟨this.1.symm,this.2.symm⟩
def qS:Spec [.int .i64,.int .i64,.int .i64]:=⟨fun (x,n,d,_)=>0<=x/\x<=4398046511104/\0<=n/\n<=4398046511104/\1<=d/\d<=4398046511104,fun (x,n,d,_)=>.tup [.si .i64 (T6 x n d),.si .i64 (fZ x n d)]⟩
noncomputable def AU5:Ad [.int .i64,.int .i64,.int .i64]->Cz:=fun ((x:Int),(n:Int),(d:Int),_)=>[
 (6,[],fun fr hp=>⟨Nat,fun g=>⟨J1 [.k 10,.s (.si .i64 (qD x n d (Hb 44 g))),.s (.si .i64 (rD x n d (Hb 44 g))),.t 1,.k 12,.s (.si .i64 (Em g)),.t 31] fr,hp⟩,Nat × Int × Int × Int,fun g=>(g,x,n,d),fun (g,x,n,d)=>g<=44/\qD x n d (44-g)<=288230376151711744,fun g=>Hb 44 g⟩)]
set_option maxRecDepth 100000 in
theorem wH:FnSpec Tryz.prog 140 _ qS:=by
 refine FnSpec.of SX0_ok mixed (U:=0) (I:=AU5) Tryz.func140 rfl (by kernel_rfl) rfl rfl (by decide +kernel) ?_
 rintro ⟨(x:Int),(n:Int),(d:Int),⟨⟩⟩ ⟨(h1:0<=x),(h2:x<=4398046511104),(h3:0<=n),(h4:n<=4398046511104),(h5:1<=d),(h6:d<=4398046511104)⟩
 unfold A2
 conv=>arg 2;reduce
 simp [qS,and_assoc]
 have hd0:d≠0:=by omega
 have hx4:0<=x / d:=Int.ediv_nonneg h1 (by omega)
 have hx5:x / d<=x:=Int.ediv_le_self _ h1
 have hx2:=Int.emod_nonneg x hd0
 have hx3:=Int.emod_lt_of_pos x (show 0<d by omega)
 rw [Int.tdiv_eq_ediv_of_nonneg h1,Int.tmod_eq_emod_of_nonneg h1]
 refine ⟨fun h=>?_,fun hx hn=>⟨hd0,by omega,by omega,hd0,⟨0,?_⟩,fun g hg hq=>⟨fun hlt=>?_,fun hge=>?_⟩⟩⟩
 ·unfold T6 fZ
  have e:x*n=0:=by rcases h with h|h<;>simp [h]
  rw [e];simp
 ·have:=uD (x:=x) (d:=d) h3 (show n<17592186044416 by omega)
  exact ⟨this.1.symm,this.2.symm,rfl,by omega,by rw [this.1];decide⟩
 ·obtain ⟨i,hgi,hi43⟩:∃ i:Nat,g=43-i/\i<=43:=⟨43-g,by omega,by omega⟩
  subst hgi
  have eA:44-(43-i)=i+1:=by omega
  have eB:43-(((43-i:Nat):Nat):Int)=(i:Int):=by omega
  rw [eA] at hq
  rw [eA,eB,xD i h3]
  obtain ⟨s1,s2,s3,s4,s5⟩:=kz (i:=i) h1 h3 h5
  have tail:∀ v w:Int,v=qD x n d i->w=rD x n d i->(288230376151711744<v->1152921504606846976=T6 x n d/\0=fZ x n d) /\
    (v<=288230376151711744 -> -9223372036854775808<=(((43-i:Nat):Nat):Int)+1/\(((43-i:Nat):Nat):Int)+1<=9223372036854775807/\∃ g_1:Nat,v=qD x n d (44-g_1)/\w=rD x n d (44-g_1)/\(((43-i:Nat):Nat):Int)+1=(g_1:Int)/\g_1<=44/\qD x n d (44-g_1)<=288230376151711744/\44-g_1<i+1):=by
   intro v w hv hw
   refine ⟨fun hfar=>?_,fun hnear=>⟨by omega,by omega,44-i,?_⟩⟩
   ·have:=tI (x:=x) (n:=n) (d:=d) (k:=i) h1 h3 (by omega) (by rw [hv] at hfar;unfold qD at hfar;exact hfar)
    exact ⟨this.1.symm,this.2.symm⟩
   ·rw [show 44-(44-i)=i by omega]
    exact ⟨hv,hw,by omega,by omega,by omega,by omega⟩
  have dv:∀ a:Int,0<=a->a<3*d->0<=a / d/\a / d<=2:=fun a ha hb=>by
   refine ⟨Int.ediv_nonneg ha (by omega),?_⟩
   have:=Int.ediv_lt_of_lt_mul (a:=a) (b:=3) (c:=d) (by omega) hb
   omega
  refine ⟨by omega,by omega,by omega,by omega,by omega,by omega,by omega,by simp [IntKind.bits];omega,fun hb=>?_,fun hb=>?_⟩
  ·rw [hb,Int.one_mul,Int.one_mul] at s4
   rw [hb,Int.one_mul] at s5
   have d1:=dv (2*rD x n d (i+1)+x % d) (by omega) (by omega)
   rw [Int.tdiv_eq_ediv_of_nonneg (by omega),Int.tmod_eq_emod_of_nonneg (by omega)]
   exact ⟨by omega,by omega,by omega,by omega,hd0,by omega,by omega,by omega,by omega,hd0,tail _ _ s4 s5⟩
  ·have hb0:Mx n i=0:=by rcases UU n i with h|h;exact h;exact absurd h hb
   rw [hb0,Int.zero_mul,Int.zero_mul,Int.add_zero,Int.add_zero] at s4
   rw [hb0,Int.zero_mul,Int.add_zero] at s5
   have d1:=dv (2*rD x n d (i+1)) (by omega) (by omega)
   rw [Int.tdiv_eq_ediv_of_nonneg (by omega),Int.tmod_eq_emod_of_nonneg (by omega)]
   exact ⟨hd0,by omega,by omega,by omega,by omega,hd0,tail _ _ s4 s5⟩
 ·obtain rfl:g=44:=by omega
  exact oK h5 hq
noncomputable def SX1:Sums:=⟨(140,A_ _ qS)::SX0.one,SX0.two,SX0.lo,SX0.eqs,SX0.its,SX0.imm⟩
theorem SX1_ok:SumsOK Tryz.prog SX1:=(SX0_ok.cons Tryz.func140 (by kernel_rfl) (by kernel_rfl) wH)
@[irreducible]def fE (x n d:Int):Int:=if 0<=QI x*QI n*QI d then T6 (CP x) (CP n) (CP d) else -(if 0<fZ (CP x) (CP n) (CP d) then T6 (CP x) (CP n) (CP d)+1 else T6 (CP x) (CP n) (CP d))
def dnS:Spec [.int .i64,.int .i64,.int .i64]:=⟨fun ((x:Int),(n:Int),(d:Int),_)=>-4398046511104<=x/\x<=4398046511104 /\ -4398046511104<=n/\n<=4398046511104/\1<=CP d /\ -4398046511104<=d/\d<=4398046511104,fun ((x:Int),(n:Int),(d:Int),_)=>.si .i64 (fE x n d)⟩
set_option maxRecDepth 100000 in
theorem AI1:FnSpec Tryz.prog 137 _ dnS:=by
 refine FnSpec.of SX1_ok mixed (U:=0) (I:=fun _=>[]) Tryz.func137 rfl (by kernel_rfl) rfl rfl (by decide +kernel) ?_
 rintro ⟨(x:Int),(n:Int),(d:Int),⟨⟩⟩ ⟨(h1 : -4398046511104<=x),(h2:x<=4398046511104),(h3 : -4398046511104<=n),(h4:n<=4398046511104),(h5:1<=CP d),(h6 : -4398046511104<=d),(h7:d<=4398046511104)⟩
 unfold A2
 conv=>arg 2;reduce
 simp [dnS,Zm,qS,oC,and_assoc]
 have a1:=ZJ (x:=x) (m:=4398046511104) (by omega) (by omega)
 have a2:=ZJ (x:=n) (m:=4398046511104) (by omega) (by omega)
 have a3:=ZJ (x:=d) (m:=4398046511104) (by omega) (by omega)
 have hb:=ri (x:=CP x) (n:=CP n) (d:=CP d) a1.1 a2.1 (by omega)
 have s1:∀ x n:Int,(x = -1\/x=0\/x=1)->(n = -1\/n=0\/n=1)->x*n = -1\/x*n=0\/x*n=1:=by
  rintro x n (rfl|rfl|rfl) (rfl|rfl|rfl)<;>decide
 have s2:=s1 _ _ (iH x) (iH n)
 have s3:=s1 _ _ s2 (iH d)
 refine ⟨by omega,by omega,by omega,by omega,by omega,by omega,a1.1,a1.2,a2.1,a2.2,h5,a3.2,by omega,by omega,by omega,by omega,fun h=>by unfold fE;rw [if_pos h],fun h=>⟨fun hr=>⟨by omega,by omega,by omega,by omega,by unfold fE;rw [if_neg (by omega),if_pos hr]⟩,fun hr=>⟨by omega,by omega,by unfold fE;rw [if_neg (by omega),if_neg (by omega)]⟩⟩⟩
theorem cV {x n d:Int} (hn:0<=n) (hd:0<d) (h:CP x*n / d<=288230376151711744):fE x n d=x*n / d:=by
 rw [<- qU hn hd h]
 unfold fE dnV
 have e1:decide (n<0)=false:=by simp;omega
 have e2:decide (d<0)=false:=by simp;omega
 have e3:QI d=1:=by unfold QI;rw [if_neg (by omega),if_pos hd]
 rw [e1,e2,e3,Int.mul_one]
 by_cases hx:x<0
 ·have e4:QI x = -1:=by unfold QI;rw [if_pos hx]
  rw [e4]
  by_cases hn0:n=0
  ·subst hn0
   have e5:CP 0=0:=by unfold CP;rfl
   simp [hx,e5,T6,fZ,QI]
  ·have e5:QI n=1:=by unfold QI;rw [if_neg (by omega),if_pos (by omega)]
   rw [e5]
   simp [hx]
 ·have e4:0<=QI x*QI n:=by
   refine Int.mul_nonneg ?_ ?_
   ·unfold QI;rw [if_neg hx];split<;>omega
   ·unfold QI;rw [if_neg (by omega)];split<;>omega
  rw [if_pos e4]
  simp [hx]
noncomputable def SX2:Sums:=⟨(137,A_ _ dnS)::SX1.one,SX1.two,SX1.lo,SX1.eqs,SX1.its,SX1.imm⟩
theorem SX2_ok:SumsOK Tryz.prog SX2:=(SX1_ok.cons Tryz.func137 (by kernel_rfl) (by kernel_rfl) AI1)
@[irreducible]def tR (x n d:Int):Int:=-(fE (-x) n d)
def upS:Spec [.int .i64,.int .i64,.int .i64]:=⟨fun ((x:Int),(n:Int),(d:Int),_)=>-4398046511104<=x/\x<=4398046511104/\0<=n/\n<=4398046511104/\1<=d/\d<=4398046511104,fun ((x:Int),(n:Int),(d:Int),_)=>.si .i64 (tR x n d)⟩
theorem l7 {x n d:Int} (h5:1<=CP d) : -1152921504606846977<=fE x n d/\fE x n d<=1152921504606846976:=by
 have a1:0<=CP x:=by unfold CP;split<;>omega
 have a2:0<=CP n:=by unfold CP;split<;>omega
 have hb:=ri (x:=CP x) (n:=CP n) (d:=CP d) a1 a2 (by omega)
 unfold fE
 split
 ·omega
 ·split<;>omega
set_option maxRecDepth 100000 in
theorem yy:FnSpec Tryz.prog 138 _ upS:=by
 refine FnSpec.of SX2_ok mixed (U:=0) (I:=fun _=>[]) Tryz.func138 rfl (by kernel_rfl) rfl rfl (by decide +kernel) ?_
 rintro ⟨(x:Int),(n:Int),(d:Int),⟨⟩⟩ ⟨(h1 : -4398046511104<=x),(h2:x<=4398046511104),(h3:0<=n),(h4:n<=4398046511104),(h5:1<=d),(h6:d<=4398046511104)⟩
 unfold A2
 conv=>arg 2;reduce
 simp [upS,dnS,and_assoc]
 have hd:1<=CP d:=by rw [HD (by omega)];exact h5
 have:=l7 (x:=-x) (n:=n) hd
 refine ⟨by omega,by omega,by omega,by omega,by omega,by omega,hd,by omega,by omega,by omega,by omega,?_⟩
 unfold tR;rfl
noncomputable def SX3:Sums:=⟨(138,A_ _ upS)::SX2.one,SX2.two,SX2.lo,SX2.eqs,SX2.its,SX2.imm⟩
theorem SX3_ok:SumsOK Tryz.prog SX3:=(SX2_ok.cons Tryz.func138 (by kernel_rfl) (by kernel_rfl) yy)
def Td:Spec [.int .i64,.int .i64,.int .i64]:=⟨fun ((x:Int),(n:Int),(d:Int),_)=>-4398046511104<=x/\x<=4398046511104/\0<=n/\n<=4398046511104/\1<=d/\d<=4398046511104,fun ((x:Int),(n:Int),(d:Int),_)=>.agg [.si .i64 (fE x n d),.si .i64 (tR x n d)]⟩
set_option maxRecDepth 100000 in
theorem ii:FnSpec Tryz.prog 127 _ Td:=by
 refine FnSpec.of SX3_ok mixed (U:=0) (I:=fun _=>[]) Tryz.func127 rfl (by kernel_rfl) rfl rfl (by decide +kernel) ?_
 rintro ⟨(x:Int),(n:Int),(d:Int),⟨⟩⟩ ⟨(h1 : -4398046511104<=x),(h2:x<=4398046511104),(h3:0<=n),(h4:n<=4398046511104),(h5:1<=d),(h6:d<=4398046511104)⟩
 unfold A2
 conv=>arg 2;reduce
 simp [Td,dnS,upS,and_assoc]
 have hd:1<=CP d:=by rw [HD (by omega)];exact h5
 exact ⟨by omega,by omega,by omega,by omega,hd,by omega,by omega,by omega,by omega,by omega,by omega,by omega,by omega⟩
noncomputable def SX4:Sums:=⟨(127,A_ _ Td)::SX3.one,SX3.two,SX3.lo,SX3.eqs,SX3.its,SX3.imm⟩
theorem SX4_ok:SumsOK Tryz.prog SX4:=(SX3_ok.cons Tryz.func127 (by kernel_rfl) (by kernel_rfl) ii)
def LO:Spec [M4]:=⟨fun _=>True,fun ((x,y,_),_)=>.fn (.func 130) [] [.xp [enc F7 x,enc F7 y]]⟩
set_option maxRecDepth 100000 in
theorem dg:FnSpec Tryz.prog 114 _ LO:=by
 refine FnSpec.of SX4_ok mixed (U:=0) (I:=fun _=>[]) Tryz.func114 rfl (by kernel_rfl) rfl rfl (by decide +kernel) ?_
 rintro ⟨c,⟨⟩⟩ -
 obtain ⟨c,rfl⟩:=Mu c
 unfold A2
 conv=>arg 2;reduce
 simp [LO,enc,Ab,ownIn,ownIn.ownInL,kj,A3,AP,AB,AO,Ar]
noncomputable def SX5:Sums:=⟨(114,A_ _ LO)::SX4.one,SX4.two,SX4.lo,SX4.eqs,SX4.its,SX4.imm⟩
theorem SX5_ok:SumsOK Tryz.prog SX5:=(SX4_ok.cons Tryz.func114 (by kernel_rfl) (by kernel_rfl) dg)
def tW:Nat->List AV->List AV
 | 0,l=>l
 | n+1,l=>.top::tW n l
def oQ:SpecI [.ptr II]:=⟨fun ((x,y,_),_)=>1<=x.1/\x.1<=y.1/\x.1<=1000/\∀ k,k<x.1->HH (x.2 k).1=true/\HH (y.2 k).1=true,fun ((x,_,_),_)=>Hb x.1 1,
 fun ((x,y,_),_) i=>[.si .i64 (Em i),.agg [.si .i64 (x.2 i).1,.si .i64 (y.2 i).1,.si .i64 (UC (x.2 (Ii i 1)).1 (x.2 i).1),.si .i64 (UC (y.2 (Ii i 1)).1 (y.2 i).1)]]⟩
def AS0 (Y:Value) (x:Ad [.ptr II]) (g:Nat):List AV:=.v Y::.xp (Ab II x.1)::tW 5 (.si .i64 (Em (Hb x.1.1.1 1))::.si .i64 (Em g)::tW 42 [])
set_option maxRecDepth 100000 in
set_option maxHeartbeats 2000000 in
theorem uN:IterOK Tryz.prog 130 (e_ [.ptr II] oQ):=by
 refine IterOK.of SX5_ok mixed rfl Tryz.func130 rfl rfl (by decide +kernel) rfl (by decide) (dat:=fun x g=>(g,x.1.1.1)) (q:=fun z:Nat × Nat=>z.1+1<=z.2) (fr:=AS0) (fun Y x g t ht=>?_) ?_
 ·have:t=0\/t=1:=by simp at ht;omega
  rcases this with rfl|rfl<;>rfl
 rintro Y ⟨⟨⟨n,x⟩,⟨m,y⟩,⟨⟩⟩,⟨⟩⟩ ⟨(h1:1<=n),(h2:n<=m),(h3:n<=1000),(h4:∀ k,k<n->HH (x k).1=true/\HH (y k).1=true)⟩
 obtain ⟨u,rfl⟩:∃ u:Nat->Int,x=fun k=>(u k,()):=⟨fun k=>(x k).1,rfl⟩
 obtain ⟨v,rfl⟩:∃ v:Nat->Int,y=fun k=>(v k,()):=⟨fun k=>(y k).1,rfl⟩
 conv=>arg 2;reduce
 simp [Gp,ua,Ar,and_assoc]
 have h5:∀ k,k<n->(-1099511627776<=u k/\u k<=1099511627776)/\(-1099511627776<=v k/\v k<=1099511627776):=fun k hk=>by
  have:=h4 k hk
  exact ⟨isQ_iff.1 this.1,isQ_iff.1 this.2⟩
 refine ⟨by omega,by omega,by omega,h1,fun g hg=>⟨fun hlt=>?_,fun hge=>by omega⟩⟩
 have a:=h5 g (by omega)
 have b:=h5 (g+1) (by omega)
 exact ⟨by omega,by omega,by omega,by omega,by omega,by omega,by omega,by omega,by omega,by omega,by omega,by omega,by omega,by omega,by omega,by omega,hlt,by omega,by omega,hlt,by omega⟩
noncomputable def SX6:Sums:=⟨SX5.one,SX5.two,SX5.lo,SX5.eqs,(130,e_ [.ptr II] oQ)::SX5.its,SX5.imm⟩
theorem SX6_ok:SumsOK Tryz.prog SX6:=SX5_ok.addIt Tryz.func130 (by kernel_rfl) (by kernel_rfl) uN
end Abs
end Go.Proofs.YtccgngldoinokaaGreat

namespace Go.Proofs.YtccgngldoinokaaGreat
namespace Abs
open Go Go.RowKit
@[irreducible]def Oz (x:Int):Bool:=!(HH x)
def nD:Spec [.int .i64]:=⟨fun _=>True,fun (x,_)=>.sb (Oz x)⟩
set_option maxRecDepth 100000 in
theorem td:FnSpec Tryz.prog 113 _ nD:=by
 refine FnSpec.of SX6_ok mixed (U:=0) (I:=fun _=>[]) Tryz.func113 rfl (by kernel_rfl) rfl rfl (by decide +kernel) ?_
 rintro ⟨(x:Int),⟨⟩⟩ -
 unfold A2
 conv=>arg 2;reduce
 simp [nD,vh,Oz]
noncomputable def SY0:Sums:=⟨(113,A_ _ nD)::SX6.one,SX6.two,SX6.lo,SX6.eqs,SX6.its,SX6.imm⟩
theorem SY0_ok:SumsOK Tryz.prog SY0:=(SX6_ok.cons Tryz.func113 (by kernel_rfl) (by kernel_rfl) td)
def Ua:Spec [.slice 1 [.int .i64],.fn 113 [] []]:=⟨fun x=>x.1.1<=maxLen,fun ((n,el),((_,c),_))=>.si .i64 (Lo (fun k=>Oz (el k).1) n)⟩
noncomputable def xO:Ad [.slice 1 [.int .i64],.fn 113 [] []]->Cz:=fun ((n,el),((_,c),_))=>[(2,[],fun fr hp=>⟨Nat,fun g=>⟨J1 [.k 5,.t 1,.k 2,.s (.si .i64 (Em g)),.t 10] fr,hp⟩,Nat,fun g=>g,fun g=>g<=Aw (fun k=>Oz (el k).1) n,fun g=>Hb n g⟩)]
set_option maxRecDepth 100000 in
theorem fT:FnSpec Tryz.prog 81 _ Ua:=by
 refine FnSpec.of SY0_ok mixed (U:=0) (I:=xO) Tryz.func81 rfl (by kernel_rfl) rfl rfl (by decide +kernel) ?_
 rintro ⟨⟨n,el⟩,⟨⟨⟩,c⟩,⟨⟩⟩ hpre
 have hn:n<=maxLen:=hpre
 unfold A2
 conv=>arg 2;reduce
 unfold maxLen at hn
 have hle:=Ek (fun k=>Oz (el k).1) n
 simp [Ua,nD,and_assoc]
 refine ⟨⟨0,rfl,by omega⟩,fun k hk=>⟨fun h1=>?_,fun h1=>?_⟩⟩
 ·refine And.intro h1 ?_
  refine ⟨fun h2=>?_,fun h2=>?_⟩
  ·rw [Lo,K9 hk (by simpa using h2),if_pos h1];try simp
  ·have:=K8 hk (by simpa using h2) h1
   refine ⟨by omega,by omega,k+1,by omega,by omega,by omega⟩
 ·rw [Lo,if_neg (by omega)]
def anyStC:Spec [.slice 1 [.int .i64],.fn 113 [] []]:=⟨fun x=>x.1.1<=maxLen,fun ((n,el),((_,c),_))=>.sb (Hh (fun k=>Oz (el k).1) n)⟩
noncomputable def xN:Sums:=⟨(81,A_ _ Ua)::SY0.one,SY0.two,SY0.lo,SY0.eqs,SY0.its,SY0.imm⟩
theorem fS:SumsOK Tryz.prog xN:=(SY0_ok.cons Tryz.func81 (by kernel_rfl) (by kernel_rfl) fT)
set_option maxRecDepth 100000 in
theorem fU:FnSpec Tryz.prog 56 _ anyStC:=by
 refine FnSpec.of fS mixed (U:=0) (I:=fun _=>[]) Tryz.func56 rfl (by kernel_rfl) rfl rfl (by decide +kernel) ?_
 rintro ⟨⟨n,el⟩,⟨⟨⟩,c⟩,⟨⟩⟩ hpre
 unfold A2
 conv=>arg 2;reduce
 have hpre:anyStC.pre ((n,el),(((),c),())):=hpre
 simp [anyStC,Ua,HQ] at hpre ⊢
 exact hpre
noncomputable def SY1:Sums:=⟨(56,A_ _ anyStC)::SY0.one,SY0.two,SY0.lo,SY0.eqs,SY0.its,SY0.imm⟩
theorem SY1_ok:SumsOK Tryz.prog SY1:=(SY0_ok.cons Tryz.func56 (by kernel_rfl) (by kernel_rfl) fU)
def crS:Spec [M4]:=⟨fun ((x,y,_),_)=>x.1<=maxLen/\y.1<=maxLen,fun (c,_)=>.si .i64 (lD (EM c))⟩
noncomputable def crI:Ad [M4]->Cz:=fun (c,_)=>[
 (7,[],fun fr hp=>⟨Nat,fun g=>⟨J1 [.k 5,.t 1,.k 35,.t 10] fr,hp⟩,Nat × Crv,fun g=>(g,EM c),fun (g,c)=>g+1<=c.nx/\∀ j,j<g->c.x j<c.x (j+1)/\c.y j<=c.y (j+1),fun g=>g⟩)]
set_option maxRecDepth 100000 in
theorem AI4:FnSpec Tryz.prog 103 _ crS:=by
 refine FnSpec.of SY1_ok mixed (U:=0) (I:=crI) Tryz.func103 rfl (by kernel_rfl) rfl rfl (by decide +kernel) ?_
 rintro ⟨c,⟨⟩⟩ hpre
 obtain ⟨c,rfl⟩:=Mu c
 have hpre:c.nx<=maxLen/\c.ny<=maxLen:=hpre
 obtain ⟨p1,p2⟩:=hpre
 unfold A2
 conv=>arg 2;reduce
 simp [crS,anyStC,LO,oQ,Ar,A3,AP,AB,and_assoc]
 have hnq:∀ y,Oz y=false↔HH y=true:=fun y=>by unfold Oz;simp
 have bad:(QN c=true->False)->c.nx<=64->c.ny<=64->2=lD c:=fun h h1 h2=>by unfold lD;rw [if_neg (by omega),if_neg (fun hb=>h hb)]
 have anyq:∀ (f:Nat->Int) (n:Nat),Hh (fun k=>Oz (f k)) n=true->∃ k,k<n/\HH (f k)=false:=fun f n h=>by
  obtain ⟨k,hk,h1⟩:=anyN_iff.1 h
  exact ⟨k,hk,by unfold Oz at h1;simpa using h1⟩
 have allq:∀ (f:Nat->Int) (n:Nat),Hh (fun k=>Oz (f k)) n=false->∀ k,k<n->HH (f k)=true:=fun f n h k hk=>(hnq _).1 (anyN_false.1 h k hk)
 refine ⟨fun h=>by unfold lD;rw [if_pos (by omega)],fun h=>⟨fun _ _=>p1,fun _ _ _=>p2,fun h1=>bad (fun hb=>?_) (by omega) (by omega),fun a1 a2 a3 a4=>⟨by omega,by omega,by omega,fun k hk=>⟨allq _ _ a3 k hk,allq _ _ a4 k (by omega)⟩,by omega,fun g hg hf=>⟨fun hlt=>⟨fun h1=>bad (fun hb=>?_) (by omega) (by omega),fun b1 b2=>⟨by omega,fun j hj=>?_⟩⟩,fun hge=>?_⟩⟩⟩⟩
 ·have hb:=crB_iff.1 hb
  rcases h1 with (h1|h1)|h1
  ·omega
  ·obtain ⟨k,hk,h2⟩:=anyq _ _ h1
   rw [(hb.2.2.2.1 k hk).1] at h2;cases h2
  ·obtain ⟨k,hk,h2⟩:=anyq _ _ h1
   rw [(hb.2.2.2.1 k (by omega)).2] at h2;cases h2
 ·have:=(crB_iff.1 hb).2.2.2.2 g (by omega)
  omega
 ·by_cases h':j<g
  ·exact hf j h'
  ·obtain rfl:j=g:=by omega
   exact ⟨b1,b2⟩
 ·exact (crE_iff.2 (crB_iff.2 ⟨by omega,by omega,by omega,fun k hk=>⟨allq _ _ a3 k hk,allq _ _ a4 k (by omega)⟩,fun k hk=>hf k (by omega)⟩)).symm
noncomputable def SY2:Sums:=⟨(103,A_ _ crS)::SY1.one,SY1.two,SY1.lo,SY1.eqs,SY1.its,SY1.imm⟩
theorem SY2_ok:SumsOK Tryz.prog SY2:=(SY1_ok.cons Tryz.func103 (by kernel_rfl) (by kernel_rfl) AI4)
@[irreducible]def tK (c:Crv) (x:Int) (g:Nat):Int:=if g=0 then c.y 0 else c.y (g-1)+fE (x-c.x (g-1)) (c.y (g-1+1)-c.y (g-1)) (c.x (g-1+1)-c.x (g-1))
@[irreducible]def tL (c:Crv) (x:Int) (g:Nat):Int:=if g=0 then c.y 0 else c.y (g-1)+tR (x-c.x (g-1)) (c.y (g-1+1)-c.y (g-1)) (c.x (g-1+1)-c.x (g-1))
theorem gI {c:Crv} (h:QN c=true) {x:Int} {g:Nat} (hg:g+1<=c.nx) (hf:∀ j,j<g->c.x j<=x) (hx:x<c.x (c.nx-1)) (he:g=c.nx-1\/x<c.x g):tK c x g=G_ c x/\tL c x g=Xk c x:=by
 have hb:=crB_iff.1 h
 cases g with
 | zero =>
   have:x<c.x 0:=by rcases he with he|he;omega;exact he
   have e1:tK c x 0=c.y 0:=by unfold tK;rw [if_pos rfl]
   have e2:tL c x 0=c.y 0:=by unfold tL;rw [if_pos rfl]
   have e3:G_ c x=c.y 0:=by unfold G_;rw [if_neg (by omega),if_pos this]
   have e4:Xk c x=c.y 0:=by unfold Xk;rw [if_neg (by omega),if_pos this]
   rw [e1,e2,e3,e4];exact ⟨rfl,rfl⟩
 | succ i =>
   have h0:=hf i (by omega)
   have h1:x<c.x (i+1):=by rcases he with he|he;rw [he];exact hx;exact he
   have h2:=lB h (j:=i) (i:=0) (by omega) (by omega)
   have hs:=V_ h (x:=x) (i:=i) (by omega) h0 h1
   have h3:=hb.2.2.2.2 i (by omega)
   have hq1:=isQ_iff.1 (hb.2.2.2.1 i (by omega)).2
   have hq2:=isQ_iff.1 (hb.2.2.2.1 (i+1) (by omega)).2
   have hp:=Vb (a:=x-c.x i) (d:=c.y (i+1)-c.y i) (w:=c.x (i+1)-c.x i) (by omega) (by omega) (by omega) (by omega)
   have d1:=cV (x:=x-c.x i) (n:=c.y (i+1)-c.y i) (d:=c.x (i+1)-c.x i) (by omega) (by omega) (by rw [HD (by omega)];omega)
   have d2:=cV (x:=-(x-c.x i)) (n:=c.y (i+1)-c.y i) (d:=c.x (i+1)-c.x i) (by omega) (by omega) (by
    rcases Int.lt_or_le (-(x-c.x i)) 0 with h4|h4
    ·rw [XW h4,Int.neg_neg];omega
    ·have e:x-c.x i=0:=by omega
     rw [e];simp [CP])
   unfold tK tL G_ Xk
   rw [if_neg (by omega),if_neg (by omega),if_neg (by omega),if_neg (by omega),if_neg (by omega),if_neg (by omega),hs,show i+1-1=i by omega]
   unfold tR yU zo
   rw [d1,d2]
   exact ⟨rfl,rfl⟩
def qvS:Spec [M4,.int .i64]:=⟨fun (c,(x:Int),_)=>QN (EM c)=true /\ -1099511627776<=x/\x<=1099511627776,fun (c,(x:Int),_)=>.agg [.si .i64 (G_ (EM c) x),.si .i64 (Xk (EM c) x)]⟩
noncomputable def qvI:Ad [M4,.int .i64]->Cz:=fun (c,(x:Int),_)=>[
 (6,[],fun fr hp=>⟨Nat,fun g=>⟨J1 [.k 8,.t 2,.k 33,.t 27] fr,ze hp 3 [.si .i64 (tK (EM c) x g),.si .i64 (tL (EM c) x g)]⟩,Nat × Crv × Int,fun g=>(g,EM c,x),fun (g,c,x)=>g+1<=c.nx/\∀ j,j<g->c.x j<=x,fun g=>g⟩)]
set_option maxRecDepth 100000 in
theorem zc:FnSpec Tryz.prog 109 _ qvS:=by
 refine FnSpec.of SY2_ok mixed (U:=0) (I:=qvI) Tryz.func109 rfl (by kernel_rfl) rfl rfl (by decide +kernel) ?_
 rintro ⟨c,(x:Int),⟨⟩⟩ hpre
 obtain ⟨c,rfl⟩:=Mu c
 have hpre:QN c=true /\ -1099511627776<=x/\x<=1099511627776:=by
  have:QN (EM (qi c))=true /\ -1099511627776<=x/\x<=1099511627776:=hpre
  rwa [show EM (qi c)=c from lC c] at this
 obtain ⟨p1,p2,p3⟩:=hpre
 unfold A2
 conv=>arg 2;reduce
 simp [qvS,LO,oQ,Td,Ar,A3,AP,AB,and_assoc]
 have hb:=crB_iff.1 p1
 have hq:∀ k,k<c.nx->(-1099511627776<=c.x k/\c.x k<=1099511627776)/\(-1099511627776<=c.y k/\c.y k<=1099511627776):=fun k hk=>⟨isQ_iff.1 (hb.2.2.2.1 k hk).1,isQ_iff.1 (hb.2.2.2.1 k hk).2⟩
 refine ⟨by omega,by omega,by omega,by omega,fun h=>⟨by omega,by omega,by omega,by omega,by unfold G_;rw [if_pos h],by unfold Xk;rw [if_pos h]⟩,fun h=>⟨by omega,by omega,by omega,by omega,hb.2.2.2.1,by unfold tK;simp,by unfold tL;simp,by omega,fun g hg hf=>⟨fun hlt=>⟨fun h1=>gI p1 hg hf h (.inr h1),fun h1=>?_⟩,fun hge=>gI p1 hg hf h (.inl (by omega))⟩⟩⟩
 have q1:=hq g (by omega)
 have q2:=hq (g+1) (by omega)
 have q3:=hb.2.2.2.2 g (by omega)
 have hd:1<=CP (c.x (g+1)-c.x g):=by rw [HD (by omega)];omega
 have q4:=l7 (x:=x-c.x g) (n:=c.y (g+1)-c.y g) hd
 have q5:=l7 (x:=-(x-c.x g)) (n:=c.y (g+1)-c.y g) hd
 have q6:tR (x-c.x g) (c.y (g+1)-c.y g) (c.x (g+1)-c.x g) = -(fE (-(x-c.x g)) (c.y (g+1)-c.y g) (c.x (g+1)-c.x g)):=by unfold tR;rfl
 refine ⟨by omega,by omega,by omega,by omega,by omega,by omega,by omega,by omega,by omega,by omega,by omega,by omega,?_,?_,by omega,fun j hj=>?_⟩
 ·unfold tK;rw [if_neg (by omega),show g+1-1=g by omega]
 ·unfold tL;rw [if_neg (by omega),show g+1-1=g by omega]
 ·by_cases h':j<g
  ·exact hf j h'
  ·obtain rfl:j=g:=by omega
   exact h1
noncomputable def SY3:Sums:=⟨(109,A_ _ qvS)::SY2.one,SY2.two,SY2.lo,SY2.eqs,SY2.its,SY2.imm⟩
theorem SY3_ok:SumsOK Tryz.prog SY3:=(SY2_ok.cons Tryz.func109 (by kernel_rfl) (by kernel_rfl) zc)
@[irreducible]def lh (c:Crv) (x:Int):Int:=if lD c=0 then (if HH x=true then 0 else 2) else lD c
@[irreducible]def mO (c:Crv) (x:Int):Int:=if lh c x=0 then G_ c x else 0
@[irreducible]def atH (c:Crv) (x:Int):Int:=if lh c x=0 then Xk c x else 0
theorem atE_iff {c:Crv} {x:Int}:lh c x=0↔lD c=0/\HH x=true:=by
 unfold lh
 by_cases h:lD c=0
 ·rw [if_pos h];cases HH x<;>simp [h]
 ·rw [if_neg h];simp [h]
def atS:Spec [M4,.int .i64]:=⟨fun ((x,y,_),_)=>x.1<=maxLen/\y.1<=maxLen,fun (c,(x:Int),_)=>.tup [.agg [.si .i64 (mO (EM c) x),.si .i64 (atH (EM c) x)],.si .i64 (lh (EM c) x)]⟩
set_option maxRecDepth 100000 in
theorem AJ1:FnSpec Tryz.prog 94 _ atS:=by
 refine FnSpec.of SY3_ok mixed (U:=0) (I:=fun _=>[]) Tryz.func94 rfl (by kernel_rfl) rfl rfl (by decide +kernel) ?_
 rintro ⟨c,(x:Int),⟨⟩⟩ hpre
 obtain ⟨c,rfl⟩:=Mu c
 have hpre:c.nx<=maxLen/\c.ny<=maxLen:=hpre
 obtain ⟨p1,p2⟩:=hpre
 unfold A2
 conv=>arg 2;reduce
 simp [atS,crS,vh,qvS,Ar,A3,AP,AB,and_assoc]
 refine ⟨p1,p2,fun h=>?_,fun h=>⟨fun h2=>?_,fun h2=>⟨crE_iff.1 h,(isQ_iff.1 h2).1,(isQ_iff.1 h2).2,?_⟩⟩⟩
 ·have e:lh c x=lD c:=by unfold lh;rw [if_neg h]
  unfold mO atH;rw [e,if_neg h,if_neg h];simp
 ·have e:lh c x=2:=by unfold lh;rw [if_pos h,h2];rfl
  unfold mO atH;rw [e];simp
 ·have e:lh c x=0:=atE_iff.2 ⟨h,h2⟩
  unfold mO atH;rw [e];simp
noncomputable def SY4:Sums:=⟨(94,A_ _ atS)::SY3.one,SY3.two,SY3.lo,SY3.eqs,SY3.its,SY3.imm⟩
theorem SY4_ok:SumsOK Tryz.prog SY4:=(SY3_ok.cons Tryz.func94 (by kernel_rfl) (by kernel_rfl) AJ1)
end Abs
end Go.Proofs.YtccgngldoinokaaGreat

namespace Go.Proofs.YtccgngldoinokaaGreat
namespace Abs
open Go Go.RowKit
noncomputable section
theorem UZ {c:Crv} {x:Int} (h:QN c=true) (h1 : -1099511627776<=x) (h2:x<=1099511627776):mO c x=G_ c x:=by
 have e:lh c x=0:=atE_iff.2 ⟨crE_iff.2 h,isQ_iff.2 ⟨h1,h2⟩⟩
 unfold mO;rw [if_pos e]
def Qa:Spec [.int .i64,.int .i64]:=⟨fun ((n:Int),(d:Int),_)=>-4611686018427387904<=n/\n<=4611686018427387904/\1<=d,fun ((n:Int),(d:Int),_)=>.si .i64 (Px n d)⟩
set_option maxRecDepth 100000 in
theorem wJ:FnSpec Tryz.prog 74 _ Qa:=by
 refine FnSpec.of SY4_ok mixed (U:=0) (I:=fun _=>[]) Tryz.func74 rfl (by kernel_rfl) rfl rfl (by decide +kernel) ?_
 rintro ⟨(n:Int),(d:Int),⟨⟩⟩ ⟨(h1 : -4611686018427387904<=n),(h2:n<=4611686018427387904),(h3:1<=d)⟩
 unfold A2
 conv=>arg 2;reduce
 simp [Qa,and_assoc]
 exact wI h1 h2 h3
def So:Spec [.int .i64,.int .i64,.int .i64]:=⟨fun _=>True,fun ((x:Int),(lo:Int),(hi:Int),_)=>.si .i64 (M6 x lo hi)⟩
set_option maxRecDepth 100000 in
theorem qo:FnSpec Tryz.prog 73 _ So:=by
 refine FnSpec.of SY4_ok mixed (U:=0) (I:=fun _=>[]) Tryz.func73 rfl (by kernel_rfl) rfl rfl (by decide +kernel) ?_
 rintro ⟨(x:Int),(lo:Int),(hi:Int),⟨⟩⟩ -
 unfold A2
 conv=>arg 2;reduce
 simp [So,M6]
def XR:Spec [.int .i64,.int .i64,.int .i64]:=⟨fun _=>True,fun ((x:Int),(lo:Int),(hi:Int),_)=>.sb (Mh lo x hi)⟩
set_option maxRecDepth 100000 in
theorem xE:FnSpec Tryz.prog 45 _ XR:=by
 refine FnSpec.of SY4_ok mixed (U:=0) (I:=fun _=>[]) Tryz.func45 rfl (by kernel_rfl) rfl rfl (by decide +kernel) ?_
 rintro ⟨(x:Int),(lo:Int),(hi:Int),⟨⟩⟩ -
 unfold A2
 conv=>arg 2;reduce
 simp [XR,Mh]
def Sm:Spec [M4,.int .i64]:=⟨fun ((x,y,_),_)=>x.1<=maxLen/\y.1<=maxLen,fun (c,(x:Int),_)=>.si .i64 (mO (EM c) x)⟩
set_option maxRecDepth 100000 in
theorem qa:FnSpec Tryz.prog 76 _ Sm:=by
 refine FnSpec.of SY4_ok mixed (U:=0) (I:=fun _=>[]) Tryz.func76 rfl (by kernel_rfl) rfl rfl (by decide +kernel) ?_
 rintro ⟨c,(x:Int),⟨⟩⟩ hpre
 obtain ⟨c,rfl⟩:=Mu c
 have hpre:c.nx<=maxLen/\c.ny<=maxLen:=hpre
 unfold A2
 conv=>arg 2;reduce
 simp [Sm,atS,Ar,and_assoc]
 exact hpre
noncomputable def SCa:Sums:=⟨(76,A_ _ Sm)::(45,A_ _ XR)::(73,A_ _ So)::(74,A_ _ Qa)::SY4.one,SY4.two,SY4.lo,SY4.eqs,SY4.its,SY4.imm⟩
theorem SCa_ok:SumsOK Tryz.prog SCa:=((((SY4_ok.cons Tryz.func74 (by kernel_rfl) (by kernel_rfl) wJ).cons Tryz.func73 (by kernel_rfl) (by kernel_rfl) qo).cons Tryz.func45 (by kernel_rfl) (by kernel_rfl) xE).cons Tryz.func76 (by kernel_rfl) (by kernel_rfl) qa)
def TS:Spec [M4,.int .i64,.int .i64]:=⟨fun ((x,y,_),_)=>x.1<=maxLen/\y.1<=maxLen,fun (c,(last:Int),(most:Int),_)=>.sb (fg (EM c) last most)⟩
set_option maxRecDepth 100000 in
theorem iT:FnSpec Tryz.prog 80 _ TS:=by
 refine FnSpec.of SCa_ok mixed (U:=0) (I:=fun _=>[]) Tryz.func80 rfl (by kernel_rfl) rfl rfl (by decide +kernel) ?_
 rintro ⟨c,(last:Int),(most:Int),⟨⟩⟩ hpre
 obtain ⟨c,rfl⟩:=Mu c
 have hpre:c.nx<=maxLen/\c.ny<=maxLen:=hpre
 obtain ⟨p1,p2⟩:=hpre
 unfold A2
 conv=>arg 2;reduce
 simp [TS,and_assoc]
 refine ⟨p1,p2,fun h=>?_,fun h=>?_⟩
 ·have hb:QN c=false:=by
   cases hb:QN c with
   | false=>rfl
   | true=>exact absurd (crE_iff.2 hb) h
  unfold fg;rw [hb];simp
 ·have hb:QN c=true:=crE_iff.1 h
  have h1:=crB_iff.1 hb
  have e:((c.nx:Int)-1).toNat=c.nx-1:=by omega
  unfold maxLen at p1 p2
  refine ⟨by omega,by omega,by omega,fun _=>by omega,fun _ _=>by omega,fun _ _ _=>by omega,?_⟩
  unfold fg
  rw [Bool.eq_iff_iff]
  simp [hb]
noncomputable def SCb:Sums:=⟨(80,A_ _ TS)::SCa.one,SCa.two,SCa.lo,SCa.eqs,SCa.its,SCa.imm⟩
theorem SCb_ok:SumsOK Tryz.prog SCb:=(SCa_ok.cons Tryz.func80 (by kernel_rfl) (by kernel_rfl) iT)
def Qd:Spec [.ptr Db,.int .i64,.int .i64]:=⟨fun (c,(t:Int),(a:Int),_)=>WearOK (A6 c) t a,fun (c,(t:Int),(a:Int),_)=>.si .i64 (Gl (A6 c) t a)⟩
set_option maxRecDepth 100000 in
theorem mU:FnSpec Tryz.prog 55 _ Qd:=by
 refine FnSpec.of SCb_ok mixed (U:=0) (I:=fun _=>[]) Tryz.func55 rfl (by kernel_rfl) rfl rfl (by decide +kernel) ?_
 rintro ⟨c,(t:Int),(a:Int),⟨⟩⟩ hpre
 obtain ⟨c,rfl⟩:=E2 c
 have hpre:WearOK c t a:=by have:WearOK (A6 (DQ c)) t a:=hpre;rwa [BM] at this
 unfold A2
 conv=>arg 2;reduce
 simp [Qd,Qa,and_assoc]
 have h1:=Hc hpre.t0 hpre.t1 hpre.c0 hpre.c1
 have h2:=Hc hpre.g0 hpre.g1 hpre.a0 hpre.a1
 have h3:=L6 hpre
 have e:Px (t*c.cyc) 1073741824+Px (a*c.agel) 1073741824=Gl c t a:=by unfold Gl;rfl
 rw [e]
 omega
def Qr:Spec [.ptr Db,.int .i64]:=⟨fun (c,(w:Int),_)=>0<=(A6 c).cap/\(A6 c).cap<=4294967296 /\ -17179869184<=w/\w<=17179869184,fun (c,(w:Int),_)=>.si .i64 (JI (A6 c) w)⟩
set_option maxRecDepth 100000 in
theorem oF:FnSpec Tryz.prog 54 _ Qr:=by
 refine FnSpec.of SCb_ok mixed (U:=0) (I:=fun _=>[]) Tryz.func54 rfl (by kernel_rfl) rfl rfl (by decide +kernel) ?_
 rintro ⟨c,(w:Int),⟨⟩⟩ hpre
 obtain ⟨c,rfl⟩:=E2 c
 have hpre:0<=c.cap/\c.cap<=4294967296 /\ -17179869184<=w/\w<=17179869184:=by have:0<=(A6 (DQ c)).cap/\(A6 (DQ c)).cap<=4294967296 /\ -17179869184<=w/\w<=17179869184:=hpre;rwa [BM] at this
 unfold A2
 conv=>arg 2;reduce
 simp [Qr,and_assoc]
 unfold JI
 omega
def pcS:Spec [.int .i64,.int .i64]:=⟨fun ((x:Int),(o:Int),_)=>-17592186044416<=x/\x<=17592186044416/\1<=o,fun ((x:Int),(o:Int),_)=>.si .i64 (pcV x o)⟩
set_option maxRecDepth 100000 in
theorem zm:FnSpec Tryz.prog 115 _ pcS:=by
 refine FnSpec.of SCb_ok mixed (U:=0) (I:=fun _=>[]) Tryz.func115 rfl (by kernel_rfl) rfl rfl (by decide +kernel) ?_
 rintro ⟨(x:Int),(o:Int),⟨⟩⟩ ⟨(h1 : -17592186044416<=x),(h2:x<=17592186044416),(h3:1<=o)⟩
 unfold A2
 conv=>arg 2;reduce
 simp [pcS,Qa,and_assoc]
 unfold pcV
 omega
def aX:Spec [.ptr Db,.int .i64]:=⟨fun (c,(f:Int),_)=>Dl (A6 c)=true /\ -1099511627776<=f/\f<=1099511627776,fun (c,(f:Int),_)=>.si .i64 (aW (A6 c) f)⟩
set_option maxRecDepth 100000 in
theorem lJ:FnSpec Tryz.prog 104 _ aX:=by
 refine FnSpec.of SCb_ok mixed (U:=0) (I:=fun _=>[]) Tryz.func104 rfl (by kernel_rfl) rfl rfl (by decide +kernel) ?_
 rintro ⟨c,(f:Int),⟨⟩⟩ hpre
 obtain ⟨c,rfl⟩:=E2 c
 have hpre:Dl c=true /\ -1099511627776<=f/\f<=1099511627776:=by have:Dl (A6 (DQ c))=true /\ -1099511627776<=f/\f<=1099511627776:=hpre;rwa [BM] at this
 unfold A2
 conv=>arg 2;reduce
 simp [aX,Sm,and_assoc]
 obtain ⟨hc,f1,f2⟩:=hpre
 have hc:=celB_iff.1 hc
 obtain ⟨m1,m2,-⟩:=hc.max
 have hv:=MR hc.ocv f
 have e:mO c.ocv f=G_ c.ocv f:=UZ (scB_iff.1 hc.ocv).1 (by omega) (by omega)
 rw [e]
 have:=hc.sh0
 have:=hc.sh1
 unfold aW
 exact ⟨m1,m2,by omega,by omega,rfl⟩
def oI:Spec [.ptr Db,.int .i64,.int .i64]:=⟨fun (c,(t:Int),(w:Int),_)=>Dl (A6 c)=true/\0<=t/\t<=400000/\0<=w/\w<=17179869184,fun (c,(t:Int),(w:Int),_)=>.si .i64 (oH (A6 c) t w)⟩
set_option maxRecDepth 100000 in
theorem uB:FnSpec Tryz.prog 93 _ oI:=by
 refine FnSpec.of SCb_ok mixed (U:=0) (I:=fun _=>[]) Tryz.func93 rfl (by kernel_rfl) rfl rfl (by decide +kernel) ?_
 rintro ⟨c,(t:Int),(w:Int),⟨⟩⟩ hpre
 obtain ⟨c,rfl⟩:=E2 c
 have hpre:Dl c=true/\0<=t/\t<=400000/\0<=w/\w<=17179869184:=by have:Dl (A6 (DQ c))=true/\0<=t/\t<=400000/\0<=w/\w<=17179869184:=hpre;rwa [BM] at this
 unfold A2
 conv=>arg 2;reduce
 simp [oI,Sm,Qa,So,and_assoc]
 obtain ⟨hc,t0,t1,w0,w1⟩:=hpre
 have hc:=celB_iff.1 hc
 obtain ⟨-,-,m1,m2,-⟩:=hc.max
 have hv:=MR hc.cold (400000-t)
 have e:mO c.cold (400000-t)=G_ c.cold (400000-t):=UZ (scB_iff.1 hc.cold).1 (by omega) (by omega)
 rw [e]
 have h1:=Hc w0 w1 hc.gr0 hc.gr1
 have h2:=H_ (a:=w*c.grow) (d:=65536) (m:=274877906944) (by decide) (by omega)
 have h3:=E6 (a:=w*c.grow) (d:=65536) (by decide) h1.1
 have:=hc.ex0
 have:=hc.ex1
 unfold oH
 exact ⟨by omega,by omega,m1,m2,by omega,by omega,by omega,by omega,by omega,by omega,by omega,by omega,rfl⟩
def TK:Spec [.ptr Db,.int .i64,.int .i64]:=⟨fun (c,(o:Int),(p:Int),_)=>0<=(A6 c).keep/\(A6 c).keep<=65536 /\ -8388608<=o/\o<=8388608 /\ -1099511627776<=p/\p<=1099511627776,fun (c,(o:Int),(p:Int),_)=>.si .i64 (TJ (A6 c) o p)⟩
set_option maxRecDepth 100000 in
theorem iE:FnSpec Tryz.prog 72 _ TK:=by
 refine FnSpec.of SCb_ok mixed (U:=0) (I:=fun _=>[]) Tryz.func72 rfl (by kernel_rfl) rfl rfl (by decide +kernel) ?_
 rintro ⟨c,(o:Int),(p:Int),⟨⟩⟩ hpre
 obtain ⟨c,rfl⟩:=E2 c
 have hpre:0<=c.keep/\c.keep<=65536 /\ -8388608<=o/\o<=8388608 /\ -1099511627776<=p/\p<=1099511627776:=by have:0<=(A6 (DQ c)).keep/\(A6 (DQ c)).keep<=65536 /\ -8388608<=o/\o<=8388608 /\ -1099511627776<=p/\p<=1099511627776:=hpre;rwa [BM] at this
 unfold A2
 conv=>arg 2;reduce
 simp [TK,Qa,So,and_assoc]
 obtain ⟨k0,k1,o0,o1,q0,q1⟩:=hpre
 have h1:=Ma (a:=o) (b:=1000*c.keep) (A:=8388608) (B:=65536000) o0 o1 (by omega) (by omega)
 have h2:=Ma (a:=p) (b:=65536-c.keep) (A:=1099511627776) (B:=65536) q0 q1 (by omega) (by omega)
 rw [Int.mul_comm o] at h1
 rw [Int.mul_comm p] at h2
 unfold TJ
 exact ⟨by omega,by omega,by omega,by omega,by omega,by omega,by omega,by omega,by omega,by omega,by omega,by omega,rfl⟩
attribute [local irreducible] A2
def M7:Spec [EN]:=⟨fun (c,_)=>Ai (A6 c),fun (c,_)=>.si .i64 (QZ (Dl (A6 c)))⟩
set_option maxRecDepth 100000 in
set_option maxHeartbeats 2000000 in
theorem fK:FnSpec Tryz.prog 48 _ M7:=by
 refine FnSpec.of SCb_ok mixed (U:=12) (I:=fun _=>[]) Tryz.func48 rfl (by kernel_rfl) rfl rfl (by decide +kernel) ?_
 rintro ⟨c,⟨⟩⟩ hpre
 obtain ⟨c,rfl⟩:=E2 c
 have hpre:Ai c:=by have:Ai (A6 (DQ c)):=hpre;rwa [BM] at this
 obtain ⟨p1,p2,p3,p4,p5,p6⟩:=hpre
 unfold A2
 conv=>arg 2;reduce
 simp [M7,XR,TS,and_assoc]
 have no:(CelOK c->False)->2=QZ (Dl c):=fun h=>by rw [qr h];simp [QZ]
 refine ⟨fun h=>no fun k=>by have:=k.cap0;have:=k.cap1;omega,fun q0 q1=>⟨fun h=>no fun k=>by have:=k.sh0;have:=k.sh1;omega,fun q2 q3=>⟨fun h=>no fun k=>by have:=k.ex0;have:=k.ex1;omega,fun q4 q5=>⟨fun h=>no fun k=>by have:=k.pr0;have:=k.pr1;omega,fun q6 q7=>⟨fun h=>no fun k=>by have:=k.lk0;have:=k.lk1;omega,fun q8 q9=>⟨fun h=>no fun k=>by have:=k.kp0;have:=k.kp1;omega,fun q10 q11=>⟨fun h=>no fun k=>by have:=k.co0;have:=k.co1;omega,fun q12 q13=>⟨fun h=>no fun k=>by have:=k.hc0;have:=k.hc1;omega,fun q14 q15=>⟨fun h=>no fun k=>by have:=k.cy0;have:=k.cy1;omega,fun q16 q17=>⟨fun h=>no fun k=>by have:=k.al0;have:=k.al1;omega,fun q18 q19=>⟨fun h=>no fun k=>by have:=k.gr0;have:=k.gr1;omega,fun q20 q21=>⟨p1,p2,fun _=>⟨p3,p4⟩,fun _ _=>⟨p5,p6⟩,fun h=>no fun k=>?_,fun h1 h2 h3=>?_⟩⟩⟩⟩⟩⟩⟩⟩⟩⟩⟩⟩
 ·rw [k.ocv,k.cold,k.stress] at h;simp at h
 ·rw [celB_iff.2 ⟨q0,q1,q2,q3,q4,q5,q6,q7,q8,q9,q10,q11,q12,q13,q14,q15,q16,q17,q18,q19,q20,q21,h1,h2,h3⟩];simp [QZ]
noncomputable def SCd:Sums:=⟨(48,A_ _ M7)::(72,A_ _ TK)::(93,A_ _ oI)::(104,A_ _ aX)::(115,A_ _ pcS)::(54,A_ _ Qr)::(55,A_ _ Qd)::SCb.one,SCb.two,SCb.lo,SCb.eqs,SCb.its,SCb.imm⟩
theorem SCd_ok:SumsOK Tryz.prog SCd:=(((((((SCb_ok.cons Tryz.func55 (by kernel_rfl) (by kernel_rfl) mU).cons Tryz.func54 (by kernel_rfl) (by kernel_rfl) oF).cons Tryz.func115 (by kernel_rfl) (by kernel_rfl) zm).cons Tryz.func104 (by kernel_rfl) (by kernel_rfl) lJ).cons Tryz.func93 (by kernel_rfl) (by kernel_rfl) uB).cons Tryz.func72 (by kernel_rfl) (by kernel_rfl) iE).cons Tryz.func48 (by kernel_rfl) (by kernel_rfl) fK)
end
end Abs
end Go.Proofs.YtccgngldoinokaaGreat

namespace Go.Proofs.YtccgngldoinokaaGreat
namespace Abs
open Go Go.RowKit
noncomputable section
structure StOK (c:Cel) (s:Sta):Prop where
 t0:0<=s.tp
 t1:s.tp<=400000
 h0:0<=s.th
 h1:s.th<=1099511627776
 a0:0<=s.ag
 a1:s.ag<=1099511627776
 r0 : -8388608<=s.rx
 r1:s.rx<=8388608
 q0:0<=s.q
 q1:s.q<=JI c (Gl c s.th s.ag)
open Classical in
@[irreducible]def yP (c:Cel) (s:Sta):Bool:=decide (StOK c s)
theorem stB_iff {c:Cel} {s:Sta}:yP c s=true↔StOK c s:=by unfold yP;simp
theorem tf {c:Cel} {s:Sta} (h:StOK c s->False):yP c s=false:=by
 cases hb:yP c s with
 | false=>rfl
 | true=>exact (h (stB_iff.1 hb)).elim
@[irreducible]def MJ (c:Cel) (s:Sta):Int:=match Dl c with|true=>(match yP c s with|true=>0|false=>3)|false=>2
theorem AI3 {c:Cel} {s:Sta} (h:Dl c=false):MJ c s=2:=by unfold MJ;rw [h]
theorem sy {c:Cel} {s:Sta} (h:Dl c=true) (h2:StOK c s->False):MJ c s=3:=by unfold MJ;rw [h,tf h2]
theorem lA {c:Cel} {s:Sta} (h:Dl c=true) (h2:StOK c s):MJ c s=0:=by unfold MJ;rw [h,stB_iff.2 h2]
theorem csE_iff {c:Cel} {s:Sta}:MJ c s=0↔Dl c=true/\StOK c s:=by
 unfold MJ
 cases h:Dl c with
 | false=>simp
 | true=>cases h2:yP c s with
   | false=>simp;intro h3;rw [stB_iff.2 h3] at h2;cases h2
   | true=>simp;exact stB_iff.1 h2
attribute [local irreducible] A2
def l_:Spec [EN,JA]:=⟨fun (c,_)=>Ai (A6 c),fun (c,s,_)=>.si .i64 (MJ (A6 c) (AC s))⟩
set_option maxRecDepth 100000 in
set_option maxHeartbeats 2000000 in
theorem l9:FnSpec Tryz.prog 22 _ l_:=by
 refine FnSpec.of SCd_ok mixed (U:=0) (I:=fun _=>[]) Tryz.func22 rfl (by kernel_rfl) rfl rfl (by decide +kernel) ?_
 rintro ⟨c,s,⟨⟩⟩ hpre
 obtain ⟨c,rfl⟩:=E2 c
 obtain ⟨s,rfl⟩:=J_ s
 have hpre:Ai c:=by have:Ai (A6 (DQ c)):=hpre;rwa [BM] at this
 unfold A2
 conv=>arg 2;reduce
 simp [l_,XR,M7,Qd,Qr,and_assoc]
 refine ⟨hpre,fun h=>by rw [AI3 h,h];simp [QZ],fun h=>⟨fun h'=>(sy h fun k=>?_).symm,fun t0 t1 h0 h1 a0 a1 r0 r1=>?_⟩⟩
 ·have:=k.t0
  have:=k.t1
  have:=k.h0
  have:=k.h1
  have:=k.a0
  have:=k.a1
  have:=k.r0
  have:=k.r1
  omega
 ·have hc:=celB_iff.1 h
  have hw:WearOK c s.th s.ag:=⟨hc.cy0,hc.cy1,hc.al0,hc.al1,h0,by omega,a0,by omega⟩
  have hw2:=L6 hw
  refine ⟨hw,by have:=hc.cap0;omega,hc.cap1,by omega,by omega,fun h'=>(sy h fun k=>?_).symm,fun q0 q1=>(lA h ⟨t0,t1,h0,h1,a0,a1,r0,r1,q0,q1⟩).symm⟩
  have:=k.q0
  have:=k.q1
  omega
noncomputable def SCe:Sums:=⟨(22,A_ _ l_)::SCd.one,SCd.two,SCd.lo,SCd.eqs,SCd.its,SCd.imm⟩
theorem SCe_ok:SumsOK Tryz.prog SCe:=(SCd_ok.cons Tryz.func22 (by kernel_rfl) (by kernel_rfl) l9)
end
end Abs
end Go.Proofs.YtccgngldoinokaaGreat

namespace Go.Proofs.YtccgngldoinokaaGreat
namespace Abs
open Go Go.RowKit
noncomputable section
@[irreducible]def wV (c:Cel) (s:Sta):Int:=Gl c s.th s.ag
@[irreducible]def kV (c:Cel) (s:Sta):Int:=JI c (wV c s)
@[irreducible]def rV (c:Cel) (s:Sta):Int:=oH c s.tp (wV c s)
@[irreducible]def Pp (c:Cel) (s:Sta):Int:=pcV s.q (kV c s)
@[irreducible]def dk (c:Cel) (s:Sta):Int:=aW c (Pp c s)
@[irreducible]def Al (c:Cel) (s:Sta) (i:Int):Int:=dk c s-s.rx-Px (i*rV c s) 1000
@[irreducible]def Lp (c:Cel) (s:Sta) (i:Int):Int:=Px (i*i*rV c s) 1000000000+(if 0<c.pair then Px (s.rx*s.rx) (1000*c.pair) else 0)
@[reducible]def mV:List Sh:=[.ptr Db,.int .i64,.int .i64,.int .i64,.int .i64,.int .i64,.int .i64,.int .i64,.int .i64]
@[reducible]def Up:Sh:=.agg mV
abbrev VwD:=yM × Int × Int × Int × Int × Int × Int × Int × Int × Unit
@[reducible]def yx (c:Cel) (s:Sta):VwD:=(DQ c,s.q,s.rx,s.tp,s.th,s.ag,wV c s,kV c s,rV c s,())
@[irreducible]def L4 (v:VwD):Cel:=A6 v.1
@[irreducible]def L3 (v:VwD):Sta:=⟨v.2.1,v.2.2.1,v.2.2.2.1,v.2.2.2.2.1,v.2.2.2.2.2.1⟩
structure VwOK (v:VwD):Prop where
 cel:Dl (L4 v)=true
 sta:StOK (L4 v) (L3 v)
 wear:v.2.2.2.2.2.2.1=wV (L4 v) (L3 v)
 room:v.2.2.2.2.2.2.2.1=kV (L4 v) (L3 v)
 res:v.2.2.2.2.2.2.2.2.1=rV (L4 v) (L3 v)
theorem J7 (c:Cel) (s:Sta):L4 (yx c s)=c:=by unfold L4;exact BM c
theorem HL (c:Cel) (s:Sta):L3 (yx c s)=s:=by
 unfold L3
 show Sta.mk s.q s.rx s.tp s.th s.ag=s
 unfold Sta.q Sta.rx Sta.tp Sta.th Sta.ag
 rfl
theorem N5 {c:Cel} {s:Sta} (h:Dl c=true) (hs:StOK c s):VwOK (yx c s):=by
 refine ⟨?_,?_,?_,?_,?_⟩<;>rw [J7]
 ·exact h
 ·rw [HL];exact hs
 ·rw [HL]
 ·rw [HL]
 ·rw [HL]
theorem N6 {v:VwD} (h:VwOK v):∃ (c:Cel) (s:Sta),v=yx c s/\Dl c=true/\StOK c s:=by
 refine ⟨L4 v,L3 v,?_,h.cel,h.sta⟩
 have h1:=h.wear
 have h2:=h.room
 have h3:=h.res
 obtain ⟨x,a,b,d,e,f,w,k,r,⟨⟩⟩:=v
 simp only at h1 h2 h3
 obtain ⟨c,rfl⟩:=E2 x
 unfold yx
 rw [<- h1,<- h2,<- h3]
 have e1:L4 (DQ c,a,b,d,e,f,w,k,r,())=c:=by unfold L4;exact BM c
 rw [e1]
 unfold L3
 simp
theorem rj {c:Cel} {s:Sta} (h:Dl c=true) (hs:StOK c s):0<=wV c s/\wV c s<=4294967296:=by
 have hc:=celB_iff.1 h
 have:=hs.h1
 have:=hs.a1
 have hw:WearOK c s.th s.ag:=⟨hc.cy0,hc.cy1,hc.al0,hc.al1,hs.h0,by omega,hs.a0,by omega⟩
 have:=L6 hw
 unfold wV
 exact this
theorem ju {c:Cel} {s:Sta} (h:Dl c=true) (hs:StOK c s):1<=kV c s/\kV c s<=4294967296:=by
 have hc:=celB_iff.1 h
 have h1:=rj h hs
 have h2:=@roomV_in c (wV c s)
 have:=h2.2 h1.1 hc.cap0
 have:=hc.cap1
 unfold kV
 omega
theorem rV_in {c:Cel} {s:Sta}:0<=rV c s/\rV c s<=1048576:=by unfold rV oH;exact M5 (by decide)
theorem uC {c:Cel} {s:Sta} (hs:StOK c s):0<=s.q/\s.q<=kV c s:=by
 have h1:=hs.q0
 have h2:=hs.q1
 unfold kV wV
 exact ⟨h1,h2⟩
theorem ko {c:Cel} {s:Sta} (h:Dl c=true) (hs:StOK c s):0<=Pp c s/\Pp c s<=65536:=by
 have h1:=ju h hs
 have h2:=uC hs
 have:=E6 (a:=s.q*65536) (d:=kV c s) h1.1 (by omega)
 unfold Pp pcV
 omega
theorem aT {c:Cel} {s:Sta} (h:Dl c=true) : -8388608<=dk c s/\dk c s<=16777216:=by
 have hc:=celB_iff.1 h
 have:=MR hc.ocv (Pp c s)
 have:=hc.sh0
 have:=hc.sh1
 unfold dk aW
 omega
theorem Pv (c:Cel):Ab Db (DQ c)=[.si .i64 c.cap,.slc (.sym c.ocv.nx) 1 (fun k=>[.si .i64 (c.ocv.x k)]),.slc (.sym c.ocv.ny) 1 (fun k=>[.si .i64 (c.ocv.y k)]),.si .i64 c.shift,
  .slc (.sym c.cold.nx) 1 (fun k=>[.si .i64 (c.cold.x k)]),.slc (.sym c.cold.ny) 1 (fun k=>[.si .i64 (c.cold.y k)]),.si .i64 c.extra,.si .i64 c.pair,.si .i64 c.keep,.si .i64 c.leak,.si .i64 c.hcap,.si .i64 c.cool,
  .slc (.sym c.stress.nx) 1 (fun k=>[.si .i64 (c.stress.x k)]),.slc (.sym c.stress.ny) 1 (fun k=>[.si .i64 (c.stress.y k)]),.si .i64 c.cyc,.si .i64 c.agel,.si .i64 c.grow]:=rfl
theorem Qk {a A:Int} (h0 : -A<=a) (h1:a<=A):0<=a*a/\a*a<=A*A:=by
 rcases Int.lt_or_le a 0 with h|h
 ·have:=Hc (a:=-a) (b:=-a) (A:=A) (B:=A) (by omega) (by omega) (by omega) (by omega)
  rwa [Int.neg_mul_neg] at this
 ·exact Hc h h1 h h1
attribute [local irreducible] A2
def WR:SpecF [.cells 40 Db] [.own 0 0,JA] :=
 ⟨fun (c,_) (_,s,_)=>Dl (A6 c)=true/\StOK (A6 c) (AC s),fun (c,_) (_,s,_)=>.agg [.own 0 0,.si .i64 (AC s).q,.si .i64 (AC s).rx,.si .i64 (AC s).tp,.si .i64 (AC s).th,.si .i64 (AC s).ag,.si .i64 (wV (A6 c) (AC s)),.si .i64 (kV (A6 c) (AC s)),.si .i64 (rV (A6 c) (AC s))],
  fun (c,_) _=>Dh [.cells 40 Db] (c,())⟩
set_option maxRecDepth 100000 in
set_option maxHeartbeats 1000000 in
theorem pU:FnSpecF Tryz.prog 71 _ _ WR:=by
 refine FnSpecF.of SCe_ok mixed (U:=0) (I:=fun _ _=>[]) Tryz.func71 rfl (by kernel_rfl) rfl (by decide +kernel) ?_
 rintro ⟨c,⟨⟩⟩ ⟨⟨⟩,s,⟨⟩⟩ hpre
 obtain ⟨c,rfl⟩:=E2 c
 obtain ⟨s,rfl⟩:=J_ s
 have hp:Dl c=true/\StOK c s:=by
  have h:Dl (A6 (DQ c))=true/\StOK (A6 (DQ c)) (AC (Gs s)):=hpre
  rwa [BM,LB] at h
 unfold A2
 conv=>arg 2;reduce
 simp [WR,Qd,Qr,oI,AB,A3,Dh,Ed,Pv,Ar,and_assoc]
 obtain ⟨h1,h2⟩:=hp
 have hc:=celB_iff.1 h1
 have w:=rj h1 h2
 unfold wV at w
 have:=hc.cap0
 have:=h2.h1
 have:=h2.a1
 exact ⟨⟨hc.cy0,hc.cy1,hc.al0,hc.al1,h2.h0,by omega,h2.a0,by omega⟩,by omega,hc.cap1,by omega,by omega,h1,h2.t0,h2.t1,by omega,by omega,by unfold wV;rfl,by unfold kV wV;rfl,by unfold rV wV;rfl⟩
noncomputable def SCf:Sums:=⟨SCe.one,(71,JR _ _ WR)::SCe.two,SCe.lo,SCe.eqs,SCe.its,SCe.imm⟩
theorem SCf_ok:SumsOK Tryz.prog SCf:=SCe_ok.addTwo Tryz.func71 (by kernel_rfl) (by kernel_rfl) (Hx pU)
def UG:Spec [Up]:=⟨fun (v,_)=>VwOK v,fun (v,_)=>.si .i64 (Pp (L4 v) (L3 v))⟩
set_option maxRecDepth 100000 in
theorem gJ:FnSpec Tryz.prog 105 _ UG:=by
 refine FnSpec.of SCe_ok mixed (U:=0) (I:=fun _=>[]) Tryz.func105 rfl (by kernel_rfl) rfl rfl (by decide +kernel) ?_
 rintro ⟨v,⟨⟩⟩ hpre
 obtain ⟨c,s,rfl,h1,h2⟩:=N6 (show VwOK v from hpre)
 have e1:=J7 c s
 have e2:=HL c s
 unfold A2
 conv=>arg 2;reduce
 simp [UG,pcS,e1,e2,and_assoc]
 have k:=ju h1 h2
 have q:=uC h2
 exact ⟨by omega,by omega,k.1,by unfold Pp;rfl⟩
noncomputable def SCg:Sums:=⟨(105,A_ _ UG)::SCf.one,SCf.two,SCf.lo,SCf.eqs,SCf.its,SCf.imm⟩
theorem SCg_ok:SumsOK Tryz.prog SCg:=(SCf_ok.cons Tryz.func105 (by kernel_rfl) (by kernel_rfl) gJ)
def T9:Spec [Up]:=⟨fun (v,_)=>VwOK v,fun (v,_)=>.si .i64 (dk (L4 v) (L3 v))⟩
set_option maxRecDepth 100000 in
theorem gC:FnSpec Tryz.prog 85 _ T9:=by
 refine FnSpec.of SCg_ok mixed (U:=0) (I:=fun _=>[]) Tryz.func85 rfl (by kernel_rfl) rfl rfl (by decide +kernel) ?_
 rintro ⟨v,⟨⟩⟩ hpre
 obtain ⟨c,s,rfl,h1,h2⟩:=N6 (show VwOK v from hpre)
 have e1:=J7 c s
 have e2:=HL c s
 unfold A2
 conv=>arg 2;reduce
 simp [T9,UG,aX,e1,e2,and_assoc]
 have f:=ko h1 h2
 exact ⟨N5 h1 h2,h1,by omega,by omega,by unfold dk;rfl⟩
noncomputable def SCh:Sums:=⟨(85,A_ _ T9)::SCg.one,SCg.two,SCg.lo,SCg.eqs,SCg.its,SCg.imm⟩
theorem SCh_ok:SumsOK Tryz.prog SCh:=(SCg_ok.cons Tryz.func85 (by kernel_rfl) (by kernel_rfl) gC)
def T7:Spec [Up,.int .i64]:=⟨fun (v,(i:Int),_)=>VwOK v /\ -1048576<=i/\i<=1048576,fun (v,(i:Int),_)=>.si .i64 (Al (L4 v) (L3 v) i)⟩
set_option maxRecDepth 100000 in
theorem gA:FnSpec Tryz.prog 63 _ T7:=by
 refine FnSpec.of SCh_ok mixed (U:=0) (I:=fun _=>[]) Tryz.func63 rfl (by kernel_rfl) rfl rfl (by decide +kernel) ?_
 rintro ⟨v,(i:Int),⟨⟩⟩ ⟨hv,(i1 : -1048576<=i),(i2:i<=1048576)⟩
 obtain ⟨c,s,rfl,h1,h2⟩:=N6 (show VwOK v from hv)
 have e1:=J7 c s
 have e2:=HL c s
 unfold A2
 conv=>arg 2;reduce
 simp [T7,T9,Qa,e1,e2,and_assoc]
 have o:=aT (s:=s) h1
 have r:=@rV_in c s
 have m:=Ma (a:=i) (b:=rV c s) (A:=1048576) (B:=1048576) i1 i2 r.1 r.2
 have d1:=H_ (a:=i*rV c s) (d:=1000) (m:=1099511628) (by decide) (by omega)
 have d2:=Yw (a:=i*rV c s) (d:=1000) (m:=-1099511628) (by decide) (by omega)
 have:=h2.r0
 have:=h2.r1
 exact ⟨N5 h1 h2,by omega,by omega,by omega,by omega,by omega,by omega,by omega,by omega,by unfold Al;rfl⟩
def TA:Spec [Up,.int .i64]:=⟨fun (v,(i:Int),_)=>VwOK v /\ -1048576<=i/\i<=1048576,fun (v,(i:Int),_)=>.si .i64 (Lp (L4 v) (L3 v) i)⟩
set_option maxRecDepth 100000 in
theorem gH:FnSpec Tryz.prog 75 _ TA:=by
 refine FnSpec.of SCh_ok mixed (U:=0) (I:=fun _=>[]) Tryz.func75 rfl (by kernel_rfl) rfl rfl (by decide +kernel) ?_
 rintro ⟨v,(i:Int),⟨⟩⟩ ⟨hv,(i1 : -1048576<=i),(i2:i<=1048576)⟩
 obtain ⟨c,s,rfl,h1,h2⟩:=N6 (show VwOK v from hv)
 have e1:=J7 c s
 have e2:=HL c s
 unfold A2
 conv=>arg 2;reduce
 simp [TA,Qa,e1,e2,and_assoc]
 have hc:=celB_iff.1 h1
 have r:=@rV_in c s
 have m1:=Qk i1 i2
 have m2:=Hc m1.1 m1.2 r.1 r.2
 have:=h2.r0
 have:=h2.r1
 have m3:=Qk (a:=s.rx) (A:=8388608) (by omega) (by omega)
 have d1:=H_ (a:=i*i*rV c s) (d:=1000000000) (m:=1152921505) (by decide) (by omega)
 have d2:=E6 (a:=i*i*rV c s) (d:=1000000000) (by decide) m2.1
 have:=hc.pr1
 refine ⟨by omega,by omega,by omega,by omega,by omega,by omega,fun hp=>?_,fun hp=>?_⟩
 ·have d3:=H_ (a:=s.rx*s.rx) (d:=1000*c.pair) (m:=70368744177664) (by omega) (by omega)
  have d4:=E6 (a:=s.rx*s.rx) (d:=1000*c.pair) (by omega) m3.1
  exact ⟨by omega,by omega,by omega,by omega,by omega,by omega,by omega,by omega,by omega,by unfold Lp;rw [if_pos hp]⟩
 ·unfold Lp
  rw [if_neg (by omega)]
  omega
noncomputable def SCi:Sums:=⟨(75,A_ _ TA)::(63,A_ _ T7)::SCh.one,SCh.two,SCh.lo,SCh.eqs,SCh.its,SCh.imm⟩
theorem m6:SumsOK Tryz.prog SCi:=((SCh_ok.cons Tryz.func63 (by kernel_rfl) (by kernel_rfl) gA).cons Tryz.func75 (by kernel_rfl) (by kernel_rfl) gH)
@[irreducible]def mF (c:Cel) (s:Sta) (i a:Int):Int:=M6 (s.tp+Px (1000*Lp c s i) c.hcap+Px ((a-s.tp)*c.cool) 65536) 0 400000
@[irreducible]def Vh (s:Sta) (i:Int):Int:=s.th+max i (-i)
@[irreducible]def Vi (c:Cel) (s:Sta):Int:=s.ag+G_ c.stress s.tp
@[irreducible]def mH (c:Cel) (s:Sta) (i:Int):Int:=M6 (s.q-i-c.leak) 0 (JI c (Gl c (Vh s i) (Vi c s)))
@[irreducible]def mG (c:Cel) (s:Sta) (i:Int):Int:=TJ c s.rx (i*c.pair)
@[reducible]def vm:Sh:=.agg [.int .i64,.int .i64]
def T_:Spec [Up,vm]:=⟨fun (v,((i:Int),(a:Int),_),_)=>VwOK v /\ -1048576<=i/\i<=1048576/\0<=a/\a<=400000,fun (v,((i:Int),(a:Int),_),_) =>
 .agg [.si .i64 (mH (L4 v) (L3 v) i),.si .i64 (mG (L4 v) (L3 v) i),.si .i64 (mF (L4 v) (L3 v) i a),.si .i64 (Vh (L3 v) i),.si .i64 (Vi (L4 v) (L3 v))]⟩
end
end Abs
end Go.Proofs.YtccgngldoinokaaGreat

namespace Go.Proofs.YtccgngldoinokaaGreat
namespace Abs
open Go Go.RowKit
noncomputable section
attribute [local irreducible] A2
@[irreducible]def aV (c:Cel) (s:Sta) (x:Int):Int:=if MJ c s=0 then x else 0
@[irreducible]def aE (c:Cel) (s:Sta) (e:Int):Int:=if MJ c s=0 then e else MJ c s
noncomputable def SCj:Sums:=⟨SCi.one,SCi.two,SCi.lo,SCi.eqs,SCi.its,SCi.imm⟩
theorem xu:SumsOK Tryz.prog SCj:=m6
noncomputable def SCk:Sums:=⟨SCj.one,SCj.two,SCj.lo,SCj.eqs,SCj.its,SCj.imm⟩
theorem xt:SumsOK Tryz.prog SCk:=xu
noncomputable def SCl:Sums:=⟨SCk.one,SCk.two,SCk.lo,SCk.eqs,SCk.its,SCk.imm⟩
theorem SCl_ok:SumsOK Tryz.prog SCl:=xt
end
end Abs
end Go.Proofs.YtccgngldoinokaaGreat

namespace Go.Proofs.YtccgngldoinokaaGreat
namespace Abs
open Go Go.RowKit
noncomputable section
attribute [local irreducible] A2
def ZK:Spec [Up,.ptr [.int .i64]]:=⟨fun (v,((i:Int),_),_)=>VwOK v /\ -1048576<=i/\i<=1048576,fun (v,((i:Int),_),_)=>.si .i64 (Al (L4 v) (L3 v) i)⟩
set_option maxRecDepth 100000 in
theorem mf:FnSpec Tryz.prog 62 _ ZK:=by
 refine FnSpec.of SCl_ok mixed (U:=0) (I:=fun _=>[]) Tryz.func62 rfl (by kernel_rfl) rfl rfl (by decide +kernel) ?_
 rintro ⟨v,⟨(i:Int),⟨⟩⟩,⟨⟩⟩ ⟨hv,(i1 : -1048576<=i),(i2:i<=1048576)⟩
 obtain ⟨c,s,rfl,h1,h2⟩:=N6 (show VwOK v from hv)
 have e1:=J7 c s
 have e2:=HL c s
 unfold A2
 conv=>arg 2;reduce
 simp [ZK,T7,e1,e2,and_assoc]
 exact ⟨N5 h1 h2,i1,i2⟩
noncomputable def SCm:Sums:=⟨(62,A_ _ ZK)::SCl.one,SCl.two,SCl.lo,SCl.eqs,SCl.its,SCl.imm⟩
theorem SCm_ok:SumsOK Tryz.prog SCm:=(SCl_ok.cons Tryz.func62 (by kernel_rfl) (by kernel_rfl) mf)
@[irreducible]def Yx (i:Int):Bool:=Mh (-1048576) i 1048576
theorem curI_iff {i:Int}:Yx i=true ↔ -1048576<=i/\i<=1048576:=by unfold Yx Mh;simp
@[irreducible]def rg (i x:Int):Int:=if Yx i=true then x else 0
@[irreducible]def rh (i:Int):Int:=if Yx i=true then 0 else 3
def mg:Spec [Up,.ptr [.int .i64],.ptr [.fn 62 [] [.ptr [.int .i64]]]] :=
 ⟨fun (v,((i:Int),_),((_,((j:Int),_),_),_),_)=>VwOK v/\j=i,fun (v,((i:Int),_),_,_)=>.tup [.si .i64 (rg i (Al (L4 v) (L3 v) i)),.si .i64 (rh i)]⟩
set_option maxRecDepth 100000 in
theorem ma:FnSpec Tryz.prog 84 _ mg:=by
 refine FnSpec.of SCm_ok mixed (U:=0) (I:=fun _=>[]) Tryz.func84 rfl (by kernel_rfl) rfl rfl (by decide +kernel) ?_
 rintro ⟨v,⟨(i:Int),⟨⟩⟩,⟨⟨x,⟨(j:Int),⟨⟩⟩,⟨⟩⟩,⟨⟩⟩,⟨⟩⟩ ⟨hv,hj⟩
 obtain rfl:j=i:=hj
 obtain ⟨c,s,rfl,h1,h2⟩:=N6 (show VwOK v from hv)
 have e1:=J7 c s
 have e2:=HL c s
 unfold A2
 conv=>arg 2;reduce
 simp [mg,ZK,XR,e1,e2,and_assoc]
 refine ⟨fun h=>?_,fun i1 i2=>?_⟩
 ·have hn:¬ Yx j=true:=by rw [curI_iff];omega
  unfold rg rh
  rw [if_neg hn,if_neg hn]
  exact ⟨rfl,rfl⟩
 ·have hp:Yx j=true:=curI_iff.2 ⟨i1,i2⟩
  unfold rg rh
  rw [if_pos hp,if_pos hp]
  exact ⟨N5 h1 h2,i1,i2,rfl,rfl⟩
noncomputable def SCn:Sums:=⟨(84,A_ _ mg)::SCm.one,SCm.two,SCm.lo,SCm.eqs,SCm.its,SCm.imm⟩
theorem SCn_ok:SumsOK Tryz.prog SCn:=(SCm_ok.cons Tryz.func84 (by kernel_rfl) (by kernel_rfl) ma)
def ml:Spec [EN,JA,.fn 84 [] [.ptr [.int .i64],.ptr [.fn 62 [] [.ptr [.int .i64]]]]] :=
 ⟨fun (c,_,(_,((i:Int),_),((_,((j:Int),_),_),_),_),_)=>Ai (A6 c)/\j=i,fun (c,s,(_,((i:Int),_),_,_),_)=>.tup [.si .i64 (aV (A6 c) (AC s) (rg i (Al (A6 c) (AC s) i))),.si .i64 (aE (A6 c) (AC s) (rh i))]⟩
set_option maxRecDepth 100000 in
set_option maxHeartbeats 2000000 in
theorem me:FnSpec Tryz.prog 83 _ ml:=by
 refine FnSpec.of SCn_ok mixed (U:=0) (I:=fun _=>[]) Tryz.func83 rfl (by kernel_rfl) rfl rfl (by decide +kernel) ?_
 rintro ⟨c,s,⟨y,⟨(i:Int),⟨⟩⟩,⟨⟨x,⟨(j:Int),⟨⟩⟩,⟨⟩⟩,⟨⟩⟩,⟨⟩⟩,⟨⟩⟩ ⟨hpre,hj⟩
 obtain rfl:j=i:=hj
 obtain ⟨c,rfl⟩:=E2 c
 obtain ⟨s,rfl⟩:=J_ s
 have hpre:Ai c:=by have:Ai (A6 (DQ c)):=hpre;rwa [BM] at this
 have e1:=J7 c s
 have e2:=HL c s
 unfold A2
 conv=>arg 2;reduce
 simp [ml,l_,WR,mg,e1,e2,and_assoc]
 refine ⟨hpre,fun h=>⟨by unfold aV;rw [if_neg h],by unfold aE;rw [if_neg h]⟩,fun h=>?_⟩
 have k:=csE_iff.1 h
 exact ⟨k.1,k.2,N5 k.1 k.2,by unfold aV;rw [if_pos h],by unfold aE;rw [if_pos h]⟩
noncomputable def SCo:Sums:=⟨(83,(A_ _ ml))::SCn.one,SCn.two,SCn.lo,SCn.eqs,SCn.its,SCn.imm⟩
theorem SCo_ok:SumsOK Tryz.prog SCo:=(SCn_ok.add Tryz.func83 (by kernel_rfl) (by kernel_rfl) (WI me))
def mh:Spec [EN,JA,.int .i64,.fn 62 [] [.ptr [.int .i64]]] :=
 ⟨fun (c,_,(i:Int),(_,((j:Int),_),_),_)=>Ai (A6 c)/\j=i,fun (c,s,(i:Int),_)=>.tup [.si .i64 (aV (A6 c) (AC s) (rg i (Al (A6 c) (AC s) i))),.si .i64 (aE (A6 c) (AC s) (rh i))]⟩
set_option maxRecDepth 100000 in
set_option maxHeartbeats 2000000 in
theorem mb:FnSpec Tryz.prog 61 _ mh:=by
 refine FnSpec.of SCo_ok mixed (U:=0) (I:=fun _=>[]) Tryz.func61 rfl (by kernel_rfl) rfl rfl (by decide +kernel) ?_
 rintro ⟨c,s,(i:Int),⟨x,⟨(j:Int),⟨⟩⟩,⟨⟩⟩,⟨⟩⟩ ⟨hpre,hj⟩
 obtain rfl:j=i:=hj
 obtain ⟨c,rfl⟩:=E2 c
 obtain ⟨s,rfl⟩:=J_ s
 have hpre:Ai c:=by have:Ai (A6 (DQ c)):=hpre;rwa [BM] at this
 unfold A2
 conv=>arg 2;reduce
 simp [mh,ml,and_assoc]
 exact hpre
noncomputable def SCp:Sums:=⟨(61,A_ _ mh)::SCo.one,SCo.two,SCo.lo,SCo.eqs,SCo.its,SCo.imm⟩
theorem SCp_ok:SumsOK Tryz.prog SCp:=(SCo_ok.cons Tryz.func61 (by kernel_rfl) (by kernel_rfl) mb)
def gF:Spec [EN,JA,.int .i64] :=
 ⟨fun (c,_)=>Ai (A6 c),fun (c,s,(i:Int),_)=>.tup [.si .i64 (aV (A6 c) (AC s) (rg i (Al (A6 c) (AC s) i))),.si .i64 (aE (A6 c) (AC s) (rh i))]⟩
set_option maxRecDepth 100000 in
set_option maxHeartbeats 2000000 in
theorem gE:FnSpec Tryz.prog 25 _ gF:=by
 refine FnSpec.of SCp_ok mixed (U:=0) (I:=fun _=>[]) Tryz.func25 rfl (by kernel_rfl) rfl rfl (by decide +kernel) ?_
 rintro ⟨c,s,(i:Int),⟨⟩⟩ hpre
 obtain ⟨c,rfl⟩:=E2 c
 obtain ⟨s,rfl⟩:=J_ s
 have hpre:Ai c:=by have:Ai (A6 (DQ c)):=hpre;rwa [BM] at this
 unfold A2
 conv=>arg 2;reduce
 simp [gF,mh,and_assoc]
 exact hpre
end
end Abs
end Go.Proofs.YtccgngldoinokaaGreat

namespace Go.Proofs.YtccgngldoinokaaGreat
namespace Abs
open Go Go.RowKit
noncomputable section
attribute [local irreducible] A2
noncomputable def SCq:Sums:=⟨SCp.one,SCp.two,SCp.lo,SCp.eqs,SCp.its,SCp.imm⟩
theorem xr:SumsOK Tryz.prog SCq:=SCp_ok
noncomputable def SCr:Sums:=⟨SCq.one,SCq.two,SCq.lo,SCq.eqs,SCq.its,SCq.imm⟩
theorem xq:SumsOK Tryz.prog SCr:=xr
noncomputable def SCs:Sums:=⟨SCr.one,SCr.two,SCr.lo,SCr.eqs,SCr.its,SCr.imm⟩
theorem xn:SumsOK Tryz.prog SCs:=xq
noncomputable def SCt:Sums:=⟨SCs.one,SCs.two,SCs.lo,SCs.eqs,SCs.its,SCs.imm⟩
theorem xm:SumsOK Tryz.prog SCt:=xn
end
end Abs
end Go.Proofs.YtccgngldoinokaaGreat

namespace Go.Proofs.YtccgngldoinokaaGreat
namespace Abs
open Go Go.RowKit
noncomputable section
attribute [local irreducible] A2
theorem gD {c:Cel} {s:Sta} {i:Int} (h1:Dl c=true) (h2:StOK c s) (i1 : -1048576<=i) (i2:i<=1048576) : -2147483648<=Al c s i/\Al c s i<=2147483648:=by
 have o:=aT (s:=s) h1
 have r:=@rV_in c s
 have m:=Ma (a:=i) (b:=rV c s) (A:=1048576) (B:=1048576) i1 i2 r.1 r.2
 have d1:=H_ (a:=i*rV c s) (d:=1000) (m:=1099511628) (by decide) (by omega)
 have d2:=Yw (a:=i*rV c s) (d:=1000) (m:=-1099511628) (by decide) (by omega)
 have:=h2.r0
 have:=h2.r1
 unfold Al
 omega
noncomputable def SCv:Sums:=⟨SCt.one,SCt.two,SCt.lo,SCt.eqs,SCt.its,SCt.imm⟩
theorem xl:SumsOK Tryz.prog SCv:=xm
noncomputable def SCw:Sums:=⟨SCv.one,SCv.two,SCv.lo,SCv.eqs,SCv.its,SCv.imm⟩
theorem xk:SumsOK Tryz.prog SCw:=xl
noncomputable def SCx:Sums:=⟨SCw.one,SCw.two,SCw.lo,SCw.eqs,SCw.its,SCw.imm⟩
theorem xj:SumsOK Tryz.prog SCx:=xk
noncomputable def SCz:Sums:=⟨SCx.one,SCx.two,SCx.lo,SCx.eqs,SCx.its,SCx.imm⟩
theorem SCz_ok:SumsOK Tryz.prog SCz:=xj
end
end Abs
end Go.Proofs.YtccgngldoinokaaGreat

namespace Go.Proofs.YtccgngldoinokaaGreat
namespace Abs
open Go Go.RowKit
noncomputable section
attribute [local irreducible] A2
theorem kF {c:Cel} {s:Sta} {i:Int} (h1:Dl c=true) (h2:StOK c s) (i1 : -1048576<=i) (i2:i<=1048576):0<=Lp c s i/\Lp c s i<=71530000000000:=by
 have hc:=celB_iff.1 h1
 have r:=@rV_in c s
 have m1:=Qk i1 i2
 have m2:=Hc m1.1 m1.2 r.1 r.2
 have:=h2.r0
 have:=h2.r1
 have m3:=Qk (a:=s.rx) (A:=8388608) (by omega) (by omega)
 have d1:=H_ (a:=i*i*rV c s) (d:=1000000000) (m:=1152921505) (by decide) (by omega)
 have d2:=E6 (a:=i*i*rV c s) (d:=1000000000) (by decide) m2.1
 unfold Lp
 split
 ·have d3:=H_ (a:=s.rx*s.rx) (d:=1000*c.pair) (m:=70368744177664) (by omega) (by omega)
  have d4:=E6 (a:=s.rx*s.rx) (d:=1000*c.pair) (by omega) m3.1
  omega
 ·omega
set_option maxRecDepth 100000 in
set_option maxHeartbeats 2000000 in
theorem gG:FnSpec Tryz.prog 46 _ T_:=by
 refine FnSpec.of m6 mixed (U:=0) (I:=fun _=>[]) Tryz.func46 rfl (by kernel_rfl) rfl rfl (by decide +kernel) ?_
 rintro ⟨v,⟨(i:Int),(a:Int),⟨⟩⟩,⟨⟩⟩ ⟨hv,(i1 : -1048576<=i),(i2:i<=1048576),(a1:0<=a),(a2:a<=400000)⟩
 obtain ⟨c,s,rfl,h1,h2⟩:=N6 (show VwOK v from hv)
 have e1:=J7 c s
 have e2:=HL c s
 unfold A2
 conv=>arg 2;reduce
 simp [T_,TA,Qa,TK,So,Sm,Qd,Qr,e1,e2,and_assoc]
 have hc:=celB_iff.1 h1
 have hcm:=hc.max
 unfold Ai at hcm
 have est:mO c.stress s.tp=G_ c.stress s.tp:=by
  have:=h2.t0
  have:=h2.t1
  exact UZ (scB_iff.1 hc.stress).1 (by omega) (by omega)
 rw [est]
 have vs:=MR hc.stress s.tp
 have r:=@rV_in c s
 have m1:=Qk i1 i2
 have m2:=Hc m1.1 m1.2 r.1 r.2
 have m3:=Qk (a:=s.rx) (A:=8388608) (by have:=h2.r0;omega) (by have:=h2.r1;omega)
 have hh:=kF h1 h2 i1 i2
 have d1:=H_ (a:=1000*Lp c s i) (d:=c.hcap) (m:=71530000000000000) hc.hc0 (by
  have:=Int.mul_le_mul_of_nonneg_left hc.hc0 (show (0:Int)<=71530000000000000 by decide)
  omega)
 have d2:=E6 (a:=1000*Lp c s i) (d:=c.hcap) hc.hc0 (by omega)
 have:=h2.t0
 have:=h2.t1
 have:=h2.h0
 have:=h2.h1
 have:=h2.a0
 have:=h2.a1
 have:=h2.q0
 have q1:=uC h2
 have k1:=ju h1 h2
 have m4:=Ma (a:=a-s.tp) (b:=c.cool) (A:=400000) (B:=65536) (by omega) (by omega) hc.co0 hc.co1
 have m5:=Ma (a:=i) (b:=c.pair) (A:=1048576) (B:=1048576) i1 i2 hc.pr0 hc.pr1
 have d3:=H_ (a:=(a-s.tp)*c.cool) (d:=65536) (m:=400000) (by decide) (by omega)
 have d4:=Yw (a:=(a-s.tp)*c.cool) (d:=65536) (m:=-400000) (by decide) (by omega)
 have:=hc.lk0
 have:=hc.lk1
 have hw:WearOK c (s.th+max i (-i)) (s.ag+G_ c.stress s.tp):=⟨hc.cy0,hc.cy1,hc.al0,hc.al1,by omega,by omega,by omega,by omega⟩
 have hw2:=L6 hw
 have e3:Gl c (s.th+max i (-i)) (s.ag+G_ c.stress s.tp)=Gl c (Vh s i) (Vi c s):=by unfold Vh Vi;rfl
 exact ⟨by omega,by omega,hc.kp0,hc.kp1,h2.r0,h2.r1,by omega,by omega,N5 h1 h2,i1,i2,by omega,by omega,by omega,by omega,hc.hc0,by omega,by omega,by omega,by omega,by omega,by omega,by omega,by omega,
  by omega,by omega,by omega,by omega,by omega,by omega,hcm.2.2.2.2.1,hcm.2.2.2.2.2,by omega,by omega,by omega,by omega,by omega,by omega,hw,by have:=hc.cap0;omega,hc.cap1,by omega,by omega,
  by unfold mH;rw [e3],by unfold mG;rfl,by unfold mF;rfl,by unfold Vh;rfl,by unfold Vi;rfl⟩
end
end Abs
end Go.Proofs.YtccgngldoinokaaGreat

namespace Go.Proofs.YtccgngldoinokaaGreat
namespace Abs
open Go Go.RowKit
noncomputable section
attribute [local irreducible] A2
noncomputable def SCs0:Sums:=⟨(46,A_ _ T_)::(25,A_ _ gF)::SCz.one,SCz.two,SCz.lo,SCz.eqs,SCz.its,SCz.imm⟩
theorem SCs0_ok:SumsOK Tryz.prog SCs0:=((SCz_ok.cons Tryz.func25 (by kernel_rfl) (by kernel_rfl) gE).cons Tryz.func46 (by kernel_rfl) (by kernel_rfl) gG)
@[irreducible]def sQ (c:Cel) (s:Sta) (i:Int):Bool:=decide (1099511627776<Vh s i)||decide (1099511627776<Vi c s)
@[irreducible]def inB (i a:Int):Bool:=Mh (-1048576) i 1048576&&Mh 0 a 400000
theorem inB_iff {i a:Int}:inB i a=true↔(-1048576<=i/\i<=1048576)/\0<=a/\a<=400000:=by unfold inB Mh;simp
@[irreducible]def J9 (c:Cel) (s:Sta) (i a:Int):Int:=if inB i a=true then (if sQ c s i=true then 4 else 0) else 3
@[irreducible]def GQ (c:Cel) (s:Sta) (i a x:Int):Int:=if J9 c s i a=0 then x else 0
theorem Zf {c:Cel} {s:Sta} {i a x:Int} (h:J9 c s i a≠0):GQ c s i a x=0:=by unfold GQ;rw [if_neg h]
theorem V5 {c:Cel} {s:Sta} {i a x:Int} (h:J9 c s i a=0):GQ c s i a x=x:=by unfold GQ;rw [if_pos h]
theorem AK1 {c:Cel} {s:Sta} {x:Int} (h:¬MJ c s=0):aV c s x=0:=by unfold aV;rw [if_neg h]
theorem QF {c:Cel} {s:Sta} {x:Int} (h:MJ c s=0):aV c s x=x:=by unfold aV;rw [if_pos h]
theorem AK2 {c:Cel} {s:Sta} {x:Int} (h:¬MJ c s=0):aE c s x=MJ c s:=by unfold aE;rw [if_neg h]
theorem N1 {c:Cel} {s:Sta} {x:Int} (h:MJ c s=0):aE c s x=x:=by unfold aE;rw [if_pos h]
def Zh:Spec [Up,.ptr [.int .i64,.int .i64]]:=⟨fun (v,_)=>VwOK v,fun (v,((i:Int),(a:Int),_),_) =>
 .tup [.agg [.si .i64 (GQ (L4 v) (L3 v) i a (mH (L4 v) (L3 v) i)),.si .i64 (GQ (L4 v) (L3 v) i a (mG (L4 v) (L3 v) i)),.si .i64 (GQ (L4 v) (L3 v) i a (mF (L4 v) (L3 v) i a)),.si .i64 (GQ (L4 v) (L3 v) i a (Vh (L3 v) i)),.si .i64 (GQ (L4 v) (L3 v) i a (Vi (L4 v) (L3 v)))],
  .si .i64 (J9 (L4 v) (L3 v) i a)]⟩
set_option maxRecDepth 100000 in
theorem nF:FnSpec Tryz.prog 44 _ Zh:=by
 refine FnSpec.of SCs0_ok mixed (U:=0) (I:=fun _=>[]) Tryz.func44 rfl (by kernel_rfl) rfl rfl (by decide +kernel) ?_
 rintro ⟨v,⟨(i:Int),(a:Int),⟨⟩⟩,⟨⟩⟩ hv
 obtain ⟨c,s,rfl,h1,h2⟩:=N6 (show VwOK v from hv)
 have e1:=J7 c s
 have e2:=HL c s
 unfold A2
 conv=>arg 2;reduce
 simp [Zh,T_,XR,e1,e2,and_assoc]
 refine ⟨fun h=>?_,fun i1 i2 a1 a2=>⟨N5 h1 h2,i1,i2,a1,a2,fun h=>?_,fun g1 g2=>?_⟩⟩
 ·have e:J9 c s i a=3:=by unfold J9;rw [if_neg];rw [inB_iff];omega
  simp [Zf (show J9 c s i a≠0 by omega),e]
 ·have e:J9 c s i a=4:=by unfold J9;rw [if_pos (inB_iff.2 ⟨⟨i1,i2⟩,a1,a2⟩),if_pos];unfold sQ;simpa using h
  simp [Zf (show J9 c s i a≠0 by omega),e]
 ·have e:J9 c s i a=0:=by unfold J9;rw [if_pos (inB_iff.2 ⟨⟨i1,i2⟩,a1,a2⟩),if_neg];unfold sQ;simp;omega
  simp [V5 e,e]
noncomputable def SCs1:Sums:=⟨(44,A_ _ Zh)::SCs0.one,SCs0.two,SCs0.lo,SCs0.eqs,SCs0.its,SCs0.imm⟩
theorem SCs1_ok:SumsOK Tryz.prog SCs1:=(SCs0_ok.cons Tryz.func44 (by kernel_rfl) (by kernel_rfl) nF)
def nG:Spec [EN,JA,.fn 44 [] [.ptr [.int .i64,.int .i64]]]:=⟨fun (c,_)=>Ai (A6 c),fun (c,s,(_,((i:Int),(a:Int),_),_),_) =>
 .tup [.agg [.si .i64 (aV (A6 c) (AC s) (GQ (A6 c) (AC s) i a (mH (A6 c) (AC s) i))),.si .i64 (aV (A6 c) (AC s) (GQ (A6 c) (AC s) i a (mG (A6 c) (AC s) i))),
  .si .i64 (aV (A6 c) (AC s) (GQ (A6 c) (AC s) i a (mF (A6 c) (AC s) i a))),.si .i64 (aV (A6 c) (AC s) (GQ (A6 c) (AC s) i a (Vh (AC s) i))),.si .i64 (aV (A6 c) (AC s) (GQ (A6 c) (AC s) i a (Vi (A6 c) (AC s))))],
  .si .i64 (aE (A6 c) (AC s) (J9 (A6 c) (AC s) i a))]⟩
set_option maxRecDepth 100000 in
set_option maxHeartbeats 4000000 in
theorem nE:FnSpec Tryz.prog 43 _ nG:=by
 refine FnSpec.of SCs1_ok mixed (U:=0) (I:=fun _=>[]) Tryz.func43 rfl (by kernel_rfl) rfl rfl (by decide +kernel) ?_
 rintro ⟨c,s,⟨y,⟨(i:Int),(a:Int),⟨⟩⟩,⟨⟩⟩,⟨⟩⟩ hpre
 obtain ⟨c,rfl⟩:=E2 c
 obtain ⟨s,rfl⟩:=J_ s
 have hpre:Ai c:=by have:Ai (A6 (DQ c)):=hpre;rwa [BM] at this
 have e1:=J7 c s
 have e2:=HL c s
 unfold A2
 conv=>arg 2;reduce
 simp [nG,l_,WR,Zh,e1,e2,and_assoc]
 refine ⟨hpre,fun h=>by simp [AK1 h,AK2 h],fun h=>?_⟩
 have k:=csE_iff.1 h
 simp [QF h,N1 h]
 exact ⟨k.1,k.2,N5 k.1 k.2⟩
noncomputable def SCs2:Sums:=⟨(43,A_ _ nG)::SCs1.one,SCs1.two,SCs1.lo,SCs1.eqs,SCs1.its,SCs1.imm⟩
theorem SCs2_ok:SumsOK Tryz.prog SCs2:=(SCs1_ok.cons Tryz.func43 (by kernel_rfl) (by kernel_rfl) nE)
def stpS:Spec [EN,JA,vm]:=⟨fun (c,_)=>Ai (A6 c),fun (c,s,((i:Int),(a:Int),_),_) =>
 .tup [.agg [.si .i64 (aV (A6 c) (AC s) (GQ (A6 c) (AC s) i a (mH (A6 c) (AC s) i))),.si .i64 (aV (A6 c) (AC s) (GQ (A6 c) (AC s) i a (mG (A6 c) (AC s) i))),
  .si .i64 (aV (A6 c) (AC s) (GQ (A6 c) (AC s) i a (mF (A6 c) (AC s) i a))),.si .i64 (aV (A6 c) (AC s) (GQ (A6 c) (AC s) i a (Vh (AC s) i))),.si .i64 (aV (A6 c) (AC s) (GQ (A6 c) (AC s) i a (Vi (A6 c) (AC s))))],
  .si .i64 (aE (A6 c) (AC s) (J9 (A6 c) (AC s) i a))]⟩
set_option maxRecDepth 100000 in
set_option maxHeartbeats 4000000 in
theorem gv:FnSpec Tryz.prog 16 _ stpS:=by
 refine FnSpec.of SCs2_ok mixed (U:=0) (I:=fun _=>[]) Tryz.func16 rfl (by kernel_rfl) rfl rfl (by decide +kernel) ?_
 rintro ⟨c,s,⟨(i:Int),(a:Int),⟨⟩⟩,⟨⟩⟩ hpre
 obtain ⟨c,rfl⟩:=E2 c
 obtain ⟨s,rfl⟩:=J_ s
 have hpre:Ai c:=by have:Ai (A6 (DQ c)):=hpre;rwa [BM] at this
 unfold A2
 conv=>arg 2;reduce
 simp [stpS,nG,and_assoc]
 exact hpre
noncomputable def SCst:Sums:=⟨(16,A_ _ stpS)::SCs2.one,SCs2.two,SCs2.lo,SCs2.eqs,SCs2.its,SCs2.imm⟩
theorem rX:SumsOK Tryz.prog SCst:=(SCs2_ok.cons Tryz.func16 (by kernel_rfl) (by kernel_rfl) gv)
end
end Abs
end Go.Proofs.YtccgngldoinokaaGreat

namespace Go.Proofs.YtccgngldoinokaaGreat
namespace Abs
open Go Go.RowKit
noncomputable section
attribute [local irreducible] A2
@[irreducible]def Nl (a b:Int):Int:=max a b
@[irreducible]def fh (a b:Int):Int:=min a b
@[irreducible]def Hf (e s:Int):Int:=(e*s).tdiv 128
@[irreducible]def Uh (f m:Int):Bool:=decide (bits .and .u8 f m=m)
@[irreducible]def ye (f:Int):Bool:=decide (bits .and .u8 f 1=0)
@[irreducible]def EQ (v0 v1 v2 t0 t1 t2 i:Int) (u:Pul):Tru:=⟨Nl (Nl v0 v1) v2,fh (fh v0 v1) v2,i,Nl (Nl (Nl 0 t0) t1) t2,500000,Hf u.e00 5000,Hf u.e01 5000,Hf u.e02 500,Hf u.e03 1000,Hf u.e04 2500,Hf u.e10 5000,Hf u.e11 5000,Hf u.e12 500,Hf u.e13 1000,Hf u.e14 2500,Hf u.e20 5000,Hf u.e21 5000,Hf u.e22 500,Hf u.e23 1000,Hf u.e24 2500,u.l0,u.l1,u.l2,u.l3,u.l4,Uh u.f 28,Uh u.f 224,400000000,400000000,ye u.f,Uh u.f 2⟩
theorem gX (v0 v1 v2 t0 t1 t2 i:Int) (u:Pul):(EQ v0 v1 v2 t0 t1 t2 i u).x0=Nl (Nl v0 v1) v2:=by unfold EQ;simp only [Tru.x0_mk]
theorem gV (v0 v1 v2 t0 t1 t2 i:Int) (u:Pul):(EQ v0 v1 v2 t0 t1 t2 i u).x1=fh (fh v0 v1) v2:=by unfold EQ;simp only [Tru.x1_mk]
theorem Xq (v0 v1 v2 t0 t1 t2 i:Int) (u:Pul):(EQ v0 v1 v2 t0 t1 t2 i u).x2=i:=by unfold EQ;simp only [Tru.x2_mk]
theorem gU (v0 v1 v2 t0 t1 t2 i:Int) (u:Pul):(EQ v0 v1 v2 t0 t1 t2 i u).x3=Nl (Nl (Nl 0 t0) t1) t2:=by unfold EQ;simp only [Tru.x3_mk]
theorem gT (v0 v1 v2 t0 t1 t2 i:Int) (u:Pul):(EQ v0 v1 v2 t0 t1 t2 i u).x4=500000:=by unfold EQ;simp only [Tru.x4_mk]
theorem Za (v0 v1 v2 t0 t1 t2 i:Int) (u:Pul):(EQ v0 v1 v2 t0 t1 t2 i u).e00=Hf u.e00 5000:=by unfold EQ;simp only [Tru.e00_mk]
theorem ZZ (v0 v1 v2 t0 t1 t2 i:Int) (u:Pul):(EQ v0 v1 v2 t0 t1 t2 i u).e01=Hf u.e01 5000:=by unfold EQ;simp only [Tru.e01_mk]
theorem ZY (v0 v1 v2 t0 t1 t2 i:Int) (u:Pul):(EQ v0 v1 v2 t0 t1 t2 i u).e02=Hf u.e02 500:=by unfold EQ;simp only [Tru.e02_mk]
theorem ZX (v0 v1 v2 t0 t1 t2 i:Int) (u:Pul):(EQ v0 v1 v2 t0 t1 t2 i u).e03=Hf u.e03 1000:=by unfold EQ;simp only [Tru.e03_mk]
theorem ZW (v0 v1 v2 t0 t1 t2 i:Int) (u:Pul):(EQ v0 v1 v2 t0 t1 t2 i u).e04=Hf u.e04 2500:=by unfold EQ;simp only [Tru.e04_mk]
theorem ZV (v0 v1 v2 t0 t1 t2 i:Int) (u:Pul):(EQ v0 v1 v2 t0 t1 t2 i u).e10=Hf u.e10 5000:=by unfold EQ;simp only [Tru.e10_mk]
theorem ZU (v0 v1 v2 t0 t1 t2 i:Int) (u:Pul):(EQ v0 v1 v2 t0 t1 t2 i u).e11=Hf u.e11 5000:=by unfold EQ;simp only [Tru.e11_mk]
theorem ZT (v0 v1 v2 t0 t1 t2 i:Int) (u:Pul):(EQ v0 v1 v2 t0 t1 t2 i u).e12=Hf u.e12 500:=by unfold EQ;simp only [Tru.e12_mk]
theorem ZS (v0 v1 v2 t0 t1 t2 i:Int) (u:Pul):(EQ v0 v1 v2 t0 t1 t2 i u).e13=Hf u.e13 1000:=by unfold EQ;simp only [Tru.e13_mk]
theorem ZR (v0 v1 v2 t0 t1 t2 i:Int) (u:Pul):(EQ v0 v1 v2 t0 t1 t2 i u).e14=Hf u.e14 2500:=by unfold EQ;simp only [Tru.e14_mk]
theorem ZQ (v0 v1 v2 t0 t1 t2 i:Int) (u:Pul):(EQ v0 v1 v2 t0 t1 t2 i u).e20=Hf u.e20 5000:=by unfold EQ;simp only [Tru.e20_mk]
theorem ZP (v0 v1 v2 t0 t1 t2 i:Int) (u:Pul):(EQ v0 v1 v2 t0 t1 t2 i u).e21=Hf u.e21 5000:=by unfold EQ;simp only [Tru.e21_mk]
theorem ZO (v0 v1 v2 t0 t1 t2 i:Int) (u:Pul):(EQ v0 v1 v2 t0 t1 t2 i u).e22=Hf u.e22 500:=by unfold EQ;simp only [Tru.e22_mk]
theorem ZN (v0 v1 v2 t0 t1 t2 i:Int) (u:Pul):(EQ v0 v1 v2 t0 t1 t2 i u).e23=Hf u.e23 1000:=by unfold EQ;simp only [Tru.e23_mk]
theorem ZM (v0 v1 v2 t0 t1 t2 i:Int) (u:Pul):(EQ v0 v1 v2 t0 t1 t2 i u).e24=Hf u.e24 2500:=by unfold EQ;simp only [Tru.e24_mk]
theorem gj (v0 v1 v2 t0 t1 t2 i:Int) (u:Pul):(EQ v0 v1 v2 t0 t1 t2 i u).l0=u.l0:=by unfold EQ;simp only [Tru.l0_mk]
theorem gi (v0 v1 v2 t0 t1 t2 i:Int) (u:Pul):(EQ v0 v1 v2 t0 t1 t2 i u).l1=u.l1:=by unfold EQ;simp only [Tru.l1_mk]
theorem gg (v0 v1 v2 t0 t1 t2 i:Int) (u:Pul):(EQ v0 v1 v2 t0 t1 t2 i u).l2=u.l2:=by unfold EQ;simp only [Tru.l2_mk]
theorem ge (v0 v1 v2 t0 t1 t2 i:Int) (u:Pul):(EQ v0 v1 v2 t0 t1 t2 i u).l3=u.l3:=by unfold EQ;simp only [Tru.l3_mk]
theorem gc (v0 v1 v2 t0 t1 t2 i:Int) (u:Pul):(EQ v0 v1 v2 t0 t1 t2 i u).l4=u.l4:=by unfold EQ;simp only [Tru.l4_mk]
theorem zF (v0 v1 v2 t0 t1 t2 i:Int) (u:Pul):(EQ v0 v1 v2 t0 t1 t2 i u).c=Uh u.f 28:=by unfold EQ;simp only [Tru.c_mk]
theorem zE (v0 v1 v2 t0 t1 t2 i:Int) (u:Pul):(EQ v0 v1 v2 t0 t1 t2 i u).w=Uh u.f 224:=by unfold EQ;simp only [Tru.w_mk]
theorem gZ (v0 v1 v2 t0 t1 t2 i:Int) (u:Pul):(EQ v0 v1 v2 t0 t1 t2 i u).lk=400000000:=by unfold EQ;simp only [Tru.lk_mk]
theorem gY (v0 v1 v2 t0 t1 t2 i:Int) (u:Pul):(EQ v0 v1 v2 t0 t1 t2 i u).pk=400000000:=by unfold EQ;simp only [Tru.pk_mk]
theorem tS (v0 v1 v2 t0 t1 t2 i:Int) (u:Pul):(EQ v0 v1 v2 t0 t1 t2 i u).wt=ye u.f:=by unfold EQ;simp only [Tru.wt_mk]
theorem tT (v0 v1 v2 t0 t1 t2 i:Int) (u:Pul):(EQ v0 v1 v2 t0 t1 t2 i u).rs=Uh u.f 2:=by unfold EQ;simp only [Tru.rs_mk]
theorem sB {x:Int} (h : -1000000<=x/\x<=1000000) : -7813<=x.tdiv 128/\x.tdiv 128<=7813:=by
 rcases Int.le_total 0 x with h0|h0
 ·rw [Int.tdiv_eq_ediv_of_nonneg h0];omega
 ·rw [<- Int.neg_neg x,Int.neg_tdiv,Int.tdiv_eq_ediv_of_nonneg (by omega)];omega
@[reducible]def lO:Sh:=.slice 17 Db
@[reducible]def h_:Sh:=.slice 5 V6
def Uc (u:Pul):Prop:=-128<=u.e00/\u.e00<=127 /\ -128<=u.e01/\u.e01<=127 /\ -128<=u.e02/\u.e02<=127 /\ -128<=u.e03/\u.e03<=127 /\ -128<=u.e04/\u.e04<=127 /\ -128<=u.e10/\u.e10<=127 /\ -128<=u.e11/\u.e11<=127 /\ -128<=u.e12/\u.e12<=127 /\ -128<=u.e13/\u.e13<=127 /\ -128<=u.e14/\u.e14<=127 /\ -128<=u.e20/\u.e20<=127 /\ -128<=u.e21/\u.e21<=127 /\ -128<=u.e22/\u.e22<=127 /\ -128<=u.e23/\u.e23<=127 /\ -128<=u.e24/\u.e24<=127 /\ -2147483648<=u.l0/\u.l0<=2147483647 /\ -2147483648<=u.l1/\u.l1<=2147483647 /\ -2147483648<=u.l2/\u.l2<=2147483647 /\ -2147483648<=u.l3/\u.l3<=2147483647 /\ -2147483648<=u.l4/\u.l4<=2147483647
def truS:Spec [.agg Dy,lO,h_,.int .i64,.agg Oi]:=⟨fun (x,(n,c),(m,s),(i:Int),u,_)=>Nu x/\n=3/\m=3/\(∀ k,k<3->MJ (A6 (c k)) (AC (s k))=0) /\ -1048576<=i/\i<=1048576/\Uc (NX u),
 fun (_,(_,c),(_,s),(i:Int),u,_)=>.tup [.agg (gm (EQ (Al (A6 (c 0)) (AC (s 0)) i) (Al (A6 (c 1)) (AC (s 1)) i) (Al (A6 (c 2)) (AC (s 2)) i) (AC (s 0)).tp (AC (s 1)).tp (AC (s 2)).tp i (NX u))),.lb true]⟩
noncomputable def SZn0:Sums:=⟨(25,A_ _ gF)::SCp.one,SCp.two,SCp.lo,SCp.eqs,SCp.its,SCp.imm⟩
theorem SZn0_ok:SumsOK Tryz.prog SZn0:=(SCp_ok.cons Tryz.func25 (by kernel_rfl) (by kernel_rfl) gE)
noncomputable def SZn:Sums:=⟨SZn0.one,SZn0.two,SZn0.lo,SZn0.eqs,SZn0.its,[30,63]⟩
theorem xW:SumsOK Tryz.prog SZn:=SZn0_ok.setImm _
@[reducible]def tr3 (a b c:AV):Nat->AV
 | 0=>a
 | 1=>b
 | _=>c
@[reducible]def tV (v0 v1 v2 t0 t1 t2 i:Int) (u:Pul):Cz:=[
 (1048588,[],fun fr hp=>⟨Unit,fun _=>Vj (AA (A4 fr 13)).toNat fun k=>⟨J1 [.k 14,.t 119] fr,AM hp 1 (.cells 66 [tr3 (.si .i64 v0) (.si .i64 (Nl v0 v1)) (.si .i64 (Nl (Nl v0 v1) v2)) k,tr3 (.si .i64 v0) (.si .i64 (fh v0 v1)) (.si .i64 (fh (fh v0 v1) v2)) k,.li .i64 0,tr3 (.li .i64 0) (.si .i64 (Nl 0 t0)) (.si .i64 (Nl (Nl 0 t0) t1)) k,.li .i64 0,.li .i64 0,.li .i64 0,.li .i64 0,.li .i64 0,.li .i64 0,.li .i64 0,.li .i64 0,.li .i64 0,.li .i64 0,.li .i64 0,.li .i64 0,.li .i64 0,.li .i64 0,.li .i64 0,.li .i64 0,.li .i64 0,.li .i64 0,.li .i64 0,.li .i64 0,.li .i64 0,.sb (Uh u.f 28),.sb (Uh u.f 224),.si .i64 400000000,.si .i64 400000000,.sb (ye u.f),.sb (Uh u.f 2)])⟩,Unit,fun _=>(),fun _=>True,fun _=>0⟩),
 (1048589,[],fun fr hp=>⟨Unit,fun _=>⟨J1 [.k 13,.t 120] fr,AM hp 1 (.cells 66 [.si .i64 (Nl (Nl v0 v1) v2),.si .i64 (fh (fh v0 v1) v2),.li .i64 0,.si .i64 (Nl (Nl (Nl 0 t0) t1) t2),.li .i64 0,.li .i64 0,.li .i64 0,.li .i64 0,.li .i64 0,.li .i64 0,.li .i64 0,.li .i64 0,.li .i64 0,.li .i64 0,.li .i64 0,.li .i64 0,.li .i64 0,.li .i64 0,.li .i64 0,.li .i64 0,.li .i64 0,.li .i64 0,.li .i64 0,.li .i64 0,.li .i64 0,.sb (Uh u.f 28),.sb (Uh u.f 224),.si .i64 400000000,.si .i64 400000000,.sb (ye u.f),.sb (Uh u.f 2)])⟩,Unit,fun _=>(),fun _=>True,fun _=>0⟩)]
def zG:Ad [.agg Dy,lO,h_,.int .i64,.agg Oi]->Cz:=fun (_,(_,c),(_,s),(i:Int),u,_)=>tV (Al (A6 (c 0)) (AC (s 0)) i) (Al (A6 (c 1)) (AC (s 1)) i) (Al (A6 (c 2)) (AC (s 2)) i) (AC (s 0)).tp (AC (s 1)).tp (AC (s 2)).tp i (NX u)
set_option maxRecDepth 100000 in
set_option maxHeartbeats 1500000 in
theorem tU:FnSpec Tryz.prog 10 _ truS:=by
 refine fun x hx=>FnSpecN.ofLt [false,true,true] xW mixed (U:=8) (sp:=⟨truS.pre,truS.res,fun _=>[]⟩) (I:=zG) Tryz.func10 rfl (by kernel_rfl) rfl rfl (by decide +kernel) ?_ x hx
 clear hx x
 rintro ⟨x,⟨n,c⟩,⟨m,s⟩,(i:Int),u,⟨⟩⟩ ⟨hg,(hn:n=3),(hm:m=3),hc,(i0 : -1048576<=i),(i1:i<=1048576),hu⟩
 obtain ⟨g,rfl⟩:∃ g,x=J6 g:=⟨_,gdC_iff.1 hg⟩
 obtain ⟨c,rfl⟩:∃ z:Nat->Cel,c=fun k=>DQ (z k):=⟨fun k=>A6 (c k),funext fun k=>by show c k=DQ (A6 (c k));obtain ⟨y,h⟩:=E2 (c k);rw [h,BM]⟩
 obtain ⟨s,rfl⟩:∃ z:Nat->Sta,s=fun k=>Gs (z k):=⟨fun k=>AC (s k),funext fun k=>by show s k=Gs (AC (s k));obtain ⟨y,h⟩:=J_ (s k);rw [h,LB]⟩
 obtain ⟨u,rfl⟩:∃ z,u=Zz z:=⟨_,sN u⟩
 subst hn hm
 have hc:∀ k,k<3->MJ (c k) (s k)=0:=fun k hk=>by have:=hc k hk;rwa [BM,LB] at this
 have hu:Uc u:=by have:Uc (NX (Zz u)):=hu;rwa [Te] at this
 clear hg
 have eI:zG (J6 g,(3,fun k=>DQ (c k)),(3,fun k=>Gs (s k)),i,Zz u,PUnit.unit)=tV (Al (c 0) (s 0) i) (Al (c 1) (s 1) i) (Al (c 2) (s 2) i) (s 0).tp (s 1).tp (s 2).tp i u:=by
  show tV (Al (A6 (DQ (c 0))) (AC (Gs (s 0))) i) (Al (A6 (DQ (c 1))) (AC (Gs (s 1))) i) (Al (A6 (DQ (c 2))) (AC (Gs (s 2))) i) (AC (Gs (s 0))).tp (AC (Gs (s 1))).tp (AC (Gs (s 2))).tp i (NX (Zz u))=_
  simp only [BM,LB,Te]
 rw [eI]
 have eR:truS.res (J6 g,(3,fun k=>DQ (c k)),(3,fun k=>Gs (s k)),i,Zz u,PUnit.unit)=.tup [.agg (gm (EQ (Al (c 0) (s 0) i) (Al (c 1) (s 1) i) (Al (c 2) (s 2) i) (s 0).tp (s 1).tp (s 2).tp i u)),.lb true]:=by
  show AV.tup [.agg (gm (EQ (Al (A6 (DQ (c 0))) (AC (Gs (s 0))) i) (Al (A6 (DQ (c 1))) (AC (Gs (s 1))) i) (Al (A6 (DQ (c 2))) (AC (Gs (s 2))) i) (AC (Gs (s 0))).tp (AC (Gs (s 1))).tp (AC (Gs (s 2))).tp i (NX (Zz u)))),.lb true]=_
  simp only [BM,LB,Te]
 change A2 _ _ _ _ _ _ _ (truS.res (J6 g,(3,fun k=>DQ (c k)),(3,fun k=>Gs (s k)),i,Zz u,PUnit.unit)) []
 rw [eR]
 clear eR
 unfold A2
 conv=>arg 2;reduce
 simp [gm,gF,A3,AP,AB,O2,IntKind.min,IntKind.max,IntKind.signed,IntKind.bits,and_assoc,gX,gV,Xq,gU,gT,Za,ZZ,ZY,ZX,ZW,ZV,ZU,ZT,ZS,ZR,ZQ,ZP,ZO,ZN,ZM,gj,gi,gg,ge,gc,zF,zE,gZ,gY,tS,tT]
 have cw:Yx i=true:=curI_iff.2 ⟨i0,i1⟩
 have ew:rh i=0:=by unfold rh;rw [if_pos cw]
 have vw:∀ x,rg i x=x:=fun x=>by unfold rg;rw [if_pos cw]
 have cm:∀ k,k<3->Ai (c k):=fun k hk=>(celB_iff.1 (csE_iff.1 (hc k hk)).1).max
 have b1:(KL BinOp.and IntKind.u8 u.f 28 == 28)=Uh u.f 28:=by unfold Uh KL;rw [Bool.eq_iff_iff];simp
 have b2:(KL BinOp.and IntKind.u8 u.f 224 == 224)=Uh u.f 224:=by unfold Uh KL;rw [Bool.eq_iff_iff];simp
 have b3:(KL BinOp.and IntKind.u8 u.f 1 == 0)=ye u.f:=by unfold ye KL;rw [Bool.eq_iff_iff];simp
 have b4:(KL BinOp.and IntKind.u8 u.f 2 == 2)=Uh u.f 2:=by unfold Uh KL;rw [Bool.eq_iff_iff];simp
 simp only [N1 (hc 0 (by decide)),N1 (hc 1 (by decide)),N1 (hc 2 (by decide)),QF (hc 0 (by decide)),QF (hc 1 (by decide)),QF (hc 2 (by decide)),ew,vw,b1,b2,b3,b4,cm 0 (by decide),cm 1 (by decide),cm 2 (by decide),true_and,and_true,forall_const]
 generalize Al (c 0) (s 0) i=v0
 generalize Al (c 1) (s 1) i=v1
 generalize Al (c 2) (s 2) i=v2
 unfold Nl fh
 unfold Uc at hu
 have tl:∀ x:Int,(-1000000<=x/\x<=1000000) -> -9223372036854775808<=x.tdiv 128:=fun x h=>by have:=(sB h).1;omega
 have th:∀ x:Int,(-1000000<=x/\x<=1000000)->x.tdiv 128<=9223372036854775807:=fun x h=>by have:=(sB h).2;omega
 clear eI hc cm b1 b2 b3 b4 cw ew vw
 repeat' first|apply And.intro|intro _
 all_goals first
  | exact tl _ (by omega)
  | exact th _ (by omega)
  | (unfold Hf;rfl)
  | omega
end
end Abs
end Go.Proofs.YtccgngldoinokaaGreat

namespace Go.Proofs.YtccgngldoinokaaGreat
namespace Abs
open Go Go.RowKit
noncomputable section
attribute [local irreducible] A2
theorem Fn.res {P:Program} {f:FuncId} {args:List AV} {H H':A0} {r r':AV} (h:Fn P f args H r H') (hr:∀ (C:Cx) (w:World) (v:Value),Rel C w r v->Rel C w r' v):Fn P f args H r' H' :=
 fun C w vs h0 h1 h2=>(h C w vs h0 h1 h2).mono fun e w' ⟨v,C',he,h3,h4,h5⟩=>⟨v,C',he,h3,hr _ _ _ h4,h5⟩
structure Two (c:Crv) (a b u v:Int):Prop where
 nx:c.nx=2
 ny:c.ny=2
 x0:c.x 0=a
 x1:c.x 1=b
 y0:c.y 0=u
 y1:c.y 1=v
theorem Two.val {c:Crv} {a b u v x:Int} (h:Two c a b u v) (hc:QN c=true) (h0:a<=x) (h1:x<b):G_ c x=u+(x-a)*(v-u) / (b-a):=by
 have hs:iK c x=0:=V_ hc (by rw [h.nx];decide) (by rw [h.x0];exact h0) (by rw [h.x1];exact h1)
 unfold G_
 rw [h.nx]
 show (if c.x 1<=x then _ else _)=_
 rw [h.x1,h.x0,if_neg (by omega),if_neg (by omega),hs]
 unfold yU
 rw [h.x0,h.x1,h.y0,h.y1]
noncomputable def SCex:Sums:=⟨SCst.one,SCst.two,SCst.lo,SCst.eqs,SCst.its,SCst.imm⟩
theorem SCex_ok:SumsOK Tryz.prog SCex:=rX
@[reducible]def st5:List (Option IntKind):=[some .i64,some .i64,some .i64,some .i64,some .i64]
@[reducible]def sp2:List (Option IntKind):=[some .i64,some .i64]
def wD:List (Nat × List (Option IntKind)):=[(42,st5),(94,sp2)]
theorem qN:∀ t ks,AL wD t=some ks->EqOK Tryz.prog t ks:=by
 intro t ks h
 unfold wD at h
 simp only [AL] at h
 split at h
 ·rename_i e
  obtain rfl:=Nat.eq_of_beq_eq_true e
  injection h with h;subst h
  exact EqOK.of 3 (by decide) (by kernel_rfl) (by kernel_rfl) (by kernel_rfl)
 ·first
  | cases h;done
  | split at h
    ·rename_i e
     obtain rfl:=Nat.eq_of_beq_eq_true e
     injection h with h;subst h
     exact EqOK.of 3 (by decide) (by kernel_rfl) (by kernel_rfl) (by kernel_rfl)
    ·cases h
noncomputable def SCeq:Sums:=⟨SCex.one,SCex.two,SCex.lo,wD,SCex.its,SCex.imm⟩
theorem rZ:SumsOK Tryz.prog SCeq:=SCex_ok.setEqs qN
noncomputable def AK4:Sums:=⟨SCeq.one,SCeq.two,SCeq.lo,SCeq.eqs,SCeq.its,SCeq.imm⟩
theorem rY:SumsOK Tryz.prog AK4:=rZ
end
end Abs
end Go.Proofs.YtccgngldoinokaaGreat

namespace Go.Proofs.YtccgngldoinokaaGreat
namespace Abs
open Go Go.RowKit
noncomputable section
attribute [local irreducible] A2
noncomputable def SVa:Sums:=AK4
theorem xd:SumsOK Tryz.prog SVa:=rY
noncomputable def SVb:Sums:=⟨SVa.one,SVa.two,SVa.lo,SVa.eqs,SVa.its,SVa.imm⟩
theorem xc:SumsOK Tryz.prog SVb:=xd
end
end Abs
end Go.Proofs.YtccgngldoinokaaGreat

namespace Go.Proofs.YtccgngldoinokaaGreat
namespace Abs
open Go Go.RowKit
noncomputable section
attribute [local irreducible] A2
noncomputable def SRa:Sums:=⟨SVb.one,SVb.two,SVb.lo,SVb.eqs,SVb.its,SVb.imm⟩
theorem xi:SumsOK Tryz.prog SRa:=xc
noncomputable def SRb:Sums:=⟨SRa.one,SRa.two,SRa.lo,SRa.eqs,SRa.its,SRa.imm⟩
theorem xh:SumsOK Tryz.prog SRb:=xi
noncomputable def SRc:Sums:=⟨SRb.one,SRb.two,SRb.lo,SRb.eqs,SRb.its,SRb.imm⟩
theorem xg:SumsOK Tryz.prog SRc:=xh
noncomputable def SRd:Sums:=⟨SRc.one,SRc.two,SRc.lo,SRc.eqs,SRc.its,SRc.imm⟩
theorem xf:SumsOK Tryz.prog SRd:=xg
noncomputable def SRe:Sums:=⟨SRd.one,SRd.two,SRd.lo,SRd.eqs,SRd.its,SRd.imm⟩
theorem xe:SumsOK Tryz.prog SRe:=xf
end
end Abs
end Go.Proofs.YtccgngldoinokaaGreat
