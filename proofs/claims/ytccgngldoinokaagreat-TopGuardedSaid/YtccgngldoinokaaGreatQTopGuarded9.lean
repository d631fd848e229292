/- Cells that are guarded: three cells in series give what is asked of them as long as the path is closed; under a single fault the path is open in time, and a current beyond its limits never flows for longer; no condition. -/
import Derived.Test.YtccgngldoinokaaGreatQG00aca1e2
import Derived.Test.YtccgngldoinokaaGreatRows
set_option linter.unusedSimpArgs false
set_option linter.unusedVariables false
namespace Go.Proofs.YtccgngldoinokaaGreat
namespace Abs
open Go Go.RowKit
noncomputable section
attribute [local irreducible] A2
@[irreducible]def rcV (g:Gd) (c k:Int):Int:=UK g c+k
def rctT:Spec [.agg Dy,.int .i64,.int .i64]:=⟨fun (x,(c:Int),(k:Int),_)=>Nu x/\GdOK (J4 x)/\1<=c/\c<=6/\0<=k/\k<=20,fun (x,(c:Int),(k:Int),_)=>.tup [.si .i64 (rcV (J4 x) c k),.li .i64 0]⟩
theorem rctT_ok:FnSpec Tryz.prog 15 _ rctT:=fun x hx=>by
 have h:=ig x hx
 have e:rctS.res x=rctT.res x:=by
  obtain ⟨x,(c:Int),(k:Int),⟨⟩⟩:=x
  show AV.tup _=AV.tup _
  unfold rcV
  rfl
 rw [<- e];exact h
noncomputable def SXg0:Sums:=⟨(17,A_ _ w5S)::(16,A_ _ stpT)::(15,A_ _ rctT)::(14,A_ _ oT)::(10,A_ _ truS)::(9,A_ _ oR)::(8,A_ _ nS)::(7,U4 _ jG)::(6,U4 _ pG)::(5,A_ _ pR)::(4,A_ _ d_)::SZh4.one,SZh4.two,SZh4.lo,SZh4.eqs,SZh4.its,SZh4.imm⟩
theorem SXg0_ok:SumsOK Tryz.prog SXg0:=(((((((((((SZh4_ok.cons Tryz.func4 (by kernel_rfl) (by kernel_rfl) fm).cons Tryz.func5 (by kernel_rfl) (by kernel_rfl) v8).add Tryz.func6 (by kernel_rfl) (by kernel_rfl) (SB uY)).add Tryz.func7 (by kernel_rfl) (by kernel_rfl) (SB uX)).cons Tryz.func8 (by kernel_rfl) (by kernel_rfl) to).cons Tryz.func9 (by kernel_rfl) (by kernel_rfl) uO).cons Tryz.func10 (by kernel_rfl) (by kernel_rfl) tU).cons Tryz.func14 (by kernel_rfl) (by kernel_rfl) uP).cons Tryz.func15 (by kernel_rfl) (by kernel_rfl) rctT_ok).cons Tryz.func16 (by kernel_rfl) (by kernel_rfl) Zg).cons Tryz.func17 (by kernel_rfl) (by kernel_rfl) yw)
noncomputable def SXg:Sums:=⟨SXg0.one,(11,F5 _ _ shoF)::(12,F5 _ _ nI)::(13,F5 _ _ mvpF)::SXg0.two,SXg0.lo,SXg0.eqs,SXg0.its,SXg0.imm⟩
theorem SXg_ok:SumsOK Tryz.prog SXg:=SumsOK.addTwo (SumsOK.addTwo (SumsOK.addTwo SXg0_ok Tryz.func13 (by kernel_rfl) (by kernel_rfl) (DS uc)) Tryz.func12 (by kernel_rfl) (by kernel_rfl) (DS te)) Tryz.func11 (by kernel_rfl) (by kernel_rfl) (DS u7)
abbrev One9:=Int × Int × Int × Int × Int × Int × Int × Int × Int
def OneOK (y:One9):Prop:=u8 y.1/\u8 y.2.1/\u8 y.2.2.1/\u8 y.2.2.2.1/\u8 y.2.2.2.2.1/\u8 y.2.2.2.2.2.1/\u8 y.2.2.2.2.2.2.1/\u8 y.2.2.2.2.2.2.2.1/\u8 y.2.2.2.2.2.2.2.2
attribute [irreducible] OneOK
def putRo (fr:List AV) (hp:A0) (t:Nat) (n:LN) (el:Nat->List AV):A0:=match A4 fr t with
 | .row i=>AR8 hp i n el
 | _=>hp
@[reducible]def staCs (s:Sta):List AV:=[.si .i64 s.q,.si .i64 s.rx,.si .i64 s.tp,.si .i64 s.th,.si .i64 s.ag]
abbrev TgG:=Nat × (Nat->Cel) × (Nat->Sta) × Mc × Pla × (Nat->Int)
@[reducible]def tgJ (L:Nat) (g:Gd) (u:Nat->Ad Oi):Cz:=[
 (2097154,[(13,0,0)],fun _ _=>Gp),(2097168,[(15,0,0)],fun _ _=>Gp),
 (1048587,[],fun fr hp=>⟨One9,fun y=>⟨J1 [.k 53,.t 177] fr,VV fr hp 18 [.si .u8 y.1,.si .u8 y.2.1,.si .u8 y.2.2.1,.si .u8 y.2.2.2.1,.si .u8 y.2.2.2.2.1,.si .u8 y.2.2.2.2.2.1,.si .u8 y.2.2.2.2.2.2.1,.si .u8 y.2.2.2.2.2.2.2.1,.si .u8 y.2.2.2.2.2.2.2.2]⟩,One9,fun y=>y,fun y=>OneOK y,fun _=>0⟩),
 (1048592,[],fun fr hp=>⟨(Nat->Cel) × (Nat->Sta),fun (C,s)=>⟨J1 [.k 15,.s (.row 7),.s (.row 9),.t 213] fr,HC hp [.dead,.dead,.dead,.dead,.row 40 17 (.lit 3) (fun k=>AU (enc EN (DQ (C k)))),.dead,.row 42 5 (.lit 3) (fun k=>staCs (s k))]⟩,(Nat->Cel) × (Nat->Sta),fun y=>y,fun (C,s)=>∀ j,j<3->ClOK (C j) (s j) 0,fun _=>0⟩),
 (22,[],fun fr hp=>⟨TgG,fun (n,C,s,m,p,r)=>⟨J1 [.k 15,.s (.slc (.lit 3) 17 (fun k=>AU (enc EN (DQ (C k))))),.k 1,.t 6,.k 1,.t 1,.k 1,.t 1,.k 1,.s (.si .i64 (Em n)),.t 201] fr,
   putRo fr (VV fr (VV fr (VV fr hp 23 (Na m)) 25 (Ha p)) 27 [.si .i64 (r 0),.si .i64 (r 1),.si .i64 (r 2),.si .i64 (r 3),.si .i64 (r 4),.si .i64 (r 5)]) 16 (.lit 3) (fun k=>staCs (s k))⟩,
  Int × TgG,fun y=>(AA (A4 fr 14),y),fun (k,(n,C,s,m,p,r))=>LI n L k g C s m p r,fun (n,_)=>Hb 60 n⟩),
 (1048603,[],fun fr hp=>⟨Int,fun c=>⟨J1 [.k 29,.s (.si .i64 c),.t 200] fr,hp⟩,Int × Bool,fun c=>(c,HP (uL (MY fr hp 25))),fun (c,b)=>(b=false->c=0) /\ -163840<=c/\c<=163840,fun _=>0⟩),
 (1048604,[],fun fr hp=>⟨Tru,fun t=>⟨J1 [.k 30,.s (.own (pd hp) 0),.s (.lb true),.t 198] fr,HC hp [.cells 66 (gm t)]⟩,Tru × Int,fun t=>(t,AA (A4 fr 29)),fun (t,c)=>TrOK t/\ErOK t/\t.x2=c,fun _=>0⟩),
 (1048607,[],fun fr hp=>⟨Sg,fun y=>⟨J1 [.k 32,.s (.own (pd hp) 0),.s (.li .i64 0),.t 196] fr,HC hp [.cells 74 (iL y)]⟩,Sg × Pla × Tru,fun y=>(y,uL (MY fr hp 25),trO (MY fr hp 30)),fun (y,p,t)=>y=A1 p t,fun _=>0⟩),
 (1048610,[],fun fr hp=>⟨Mc,fun y=>⟨J1 [.k 33,.s (.li .i64 0),.s (.own (pd hp) 0),.t 195] fr,HC (VV fr hp 23 (Na y)) [.cells 78 [.sb y.d0,.sb y.d1,.sb y.d2,.sb y.fi]]⟩,Mc × Mc × Sg,fun y=>(y,mcO (MY fr hp 23),sgO (MY fr hp 32)),fun (y,m,s)=>y=Az m s,fun _=>0⟩),
 (1048612,[],fun fr hp=>⟨Pla,fun y=>⟨J1 [.k 35,.t 195] fr,VV fr hp 25 (Ha y)⟩,Pla × Mc × Pla,fun y=>(y,mcO (MY fr hp 23),uL (MY fr hp 25)),fun (y,m,p)=>y=uV m p,fun _=>0⟩),
 (1048619,[],fun fr hp=>⟨Unit,fun _=>Vj (AA (A4 fr 36)).toNat fun c=>⟨J1 [.k 37,.t 193] fr,VV fr hp 27 (Ay (MY fr hp 27) c (.si .i64 (mE (Fu (A4 (MY fr hp 35) c)) (AA (A4 (MY fr hp 27) c)))))⟩,Unit,fun _=>(),fun _=>True,fun _=>0⟩),
 (1048615,[],fun fr hp=>⟨Unit,fun _=>Vj (AA (A4 fr 36)).toNat fun c=>⟨J1 [.k 37,.t 193] fr,VV fr hp 27 (Ay (MY fr hp 27) c (.si .i64 (mE (Fu (A4 (MY fr hp 35) c)) (k_ (AA (A4 (MY fr hp 27) c)) 1))))⟩,Unit,fun _=>(),fun _=>True,fun _=>0⟩)]
@[reducible]def tgSh:List Sh:=[.slice 9 H1,my,.int .u8,.int .u8,.agg [.int .u8,.int .u8,.bool],.slice 22 Oi]
def tgI:Ad tgSh->Cz:=fun (_,((a0:Int),(a1:Int),(a2:Int),(a3:Int),(a4:Int),(a5:Int),(a6:Int),_),(o:Int),_,_,(n,u),_)=>tgJ n (QO a0 a1 a2 a3 a4 a5 a6 o) u
theorem inr_u8 {p:Int} (h:O2 .u8 p):u8 p:=by
 simp [O2,IntKind.min,IntKind.max,IntKind.signed,IntKind.bits] at h
 unfold u8;omega
theorem inr_i8 {p:Int} (h:O2 .i8 p) : -128<=p/\p<=127:=by
 simp [O2,IntKind.min,IntKind.max,IntKind.signed,IntKind.bits] at h
 omega
theorem inr_i32 {p:Int} (h:O2 .i32 p) : -2147483648<=p/\p<=2147483647:=by
 simp [O2,IntKind.min,IntKind.max,IntKind.signed,IntKind.bits] at h
 omega
theorem inr_i16 {p:Int} (h:O2 .i16 p) : -32768<=p/\p<=32767:=by
 simp [O2,IntKind.min,IntKind.max,IntKind.signed,IntKind.bits] at h
 omega
theorem one_ok {x:Ad H1} (h:Cb H1 x):OneOK (x.1,x.2.1,x.2.2.1,x.2.2.2.1,x.2.2.2.2.1,x.2.2.2.2.2.1,x.2.2.2.2.2.2.1,x.2.2.2.2.2.2.2.1,x.2.2.2.2.2.2.2.2.1):=by
 unfold OneOK
 obtain ⟨c0,c1,c2,c3,c4,c5,c6,c7,c8,_⟩:=h
 exact ⟨inr_u8 c0,inr_u8 c1,inr_u8 c2,inr_u8 c3,inr_u8 c4,inr_u8 c5,inr_u8 c6,inr_u8 c7,inr_u8 c8⟩
theorem one_0:OneOK (0,0,0,0,0,0,0,128,0):=by unfold OneOK u8;decide
theorem one_is {y:One9} (h:OneOK y):u8 y.1/\u8 y.2.1/\u8 y.2.2.1/\u8 y.2.2.2.1/\u8 y.2.2.2.2.1/\u8 y.2.2.2.2.2.1/\u8 y.2.2.2.2.2.2.1/\u8 y.2.2.2.2.2.2.2.1/\u8 y.2.2.2.2.2.2.2.2:=by unfold OneOK at h;exact h
theorem pul_in {u:Pul} (h:Cb Oi (Zz u)):Uc u /\ -32768<=u.d/\u.d<=32767:=by
 obtain ⟨d,e00,e01,e02,e03,e04,e10,e11,e12,e13,e14,e20,e21,e22,e23,e24,l0,l1,l2,l3,l4,_⟩:=h
 refine ⟨?_,inr_i16 d⟩
 have e00:=inr_i8 e00
 have e01:=inr_i8 e01
 have e02:=inr_i8 e02
 have e03:=inr_i8 e03
 have e04:=inr_i8 e04
 have e10:=inr_i8 e10
 have e11:=inr_i8 e11
 have e12:=inr_i8 e12
 have e13:=inr_i8 e13
 have e14:=inr_i8 e14
 have e20:=inr_i8 e20
 have e21:=inr_i8 e21
 have e22:=inr_i8 e22
 have e23:=inr_i8 e23
 have e24:=inr_i8 e24
 have l0:=inr_i32 l0
 have l1:=inr_i32 l1
 have l2:=inr_i32 l2
 have l3:=inr_i32 l3
 have l4:=inr_i32 l4
 exact ⟨e00.1,e00.2,e01.1,e01.2,e02.1,e02.2,e03.1,e03.2,e04.1,e04.2,e10.1,e10.2,e11.1,e11.2,e12.1,e12.2,e13.1,e13.2,e14.1,e14.2,e20.1,e20.2,e21.1,e21.2,e22.1,e22.2,e23.1,e23.2,e24.1,e24.2,l0.1,l0.2,l1.1,l1.2,l2.1,l2.2,l3.1,l3.2,l4.1,l4.2⟩
theorem or_of {a b:Int} {P:Prop} (h:b<=a->P):a<b\/P:=by
 by_cases hh:b<=a
 ·exact .inr (h hh)
 ·exact .inl (by omega)
@[reducible]def sel3 {α:Type} (a b c:α):Nat->α
 | 0=>a
 | 1=>b
 | _=>c
theorem sn_ok {k a:Int} {b:Bool}:nU k<=1/\(nU k=1->1<=Ug k/\Ug k<=6/\0<=nW a/\nW a<=2/\(zP k b=true->5<=Ug k)):=by
 have hk:0<=Ug k/\Ug k<=6:=by unfold Ug;omega
 have ha:0<=nW a/\nW a<=2:=by unfold nW;omega
 unfold nU zP
 generalize Ug k=K at *
 refine ⟨by split<;>omega,fun h=>⟨?_,hk.2,ha.1,ha.2,fun hb=>?_⟩⟩
 ·split at h<;>omega
 ·simp only [Bool.and_eq_true,Bool.or_eq_true,decide_eq_true_eq] at hb
  omega
set_option maxRecDepth 100000 in
set_option maxHeartbeats 4000000 in
theorem topGuarded_law:tD Tryz.prog 3 [.slice 9 H1,my,.int .u8,.int .u8,.agg [.int .u8,.int .u8,.bool],.slice 22 Oi]:=by
 refine FnSpec.of SXg_ok mixed (U:=8) (I:=tgI) Tryz.func3 rfl (by kernel_rfl) rfl rfl (by decide +kernel) ?_
 rintro ⟨⟨n1,el1⟩,⟨(a0:Int),(a1:Int),(a2:Int),(a3:Int),(a4:Int),(a5:Int),(a6:Int),⟨⟩⟩,(o:Int),(lg:Int),⟨(fk:Int),(fa:Int),(fb:Bool),⟨⟩⟩,⟨n,el⟩,⟨⟩⟩ hv
 obtain ⟨u,rfl⟩:∃ u:Nat->Pul,el=fun k=>Zz (u k):=⟨fun k=>NX (el k),funext fun k=>sN (el k)⟩
 unfold A2
 conv=>arg 2;reduce
 simp (maxSteps:=4000000) [-Bool.forall_bool,d_,pR,pG,jG,nS,oR,truS,shoF,nI,mvpF,oT,rctT,stpT,w5S,Nu,M1,Ar,A3,AP,AB,and_assoc]
 have hv:Cb [.slice 9 H1,my,.int .u8,.int .u8,.agg [.int .u8,.int .u8,.bool],.slice 22 Oi] ((n1,el1),(a0,a1,a2,a3,a4,a5,a6,PUnit.unit),o,lg,(fk,fa,fb,PUnit.unit),(n,fun k=>Zz (u k)),PUnit.unit):=hv
 obtain ⟨⟨_,hv1⟩,⟨v0,v1,v2,v3,v4,v5,v6,_⟩,vo,vl,⟨vk,va,_,_⟩,⟨hn,hvu⟩,_⟩:=hv
 have b0:=inr_u8 v0
 have b1:=inr_u8 v1
 have b2:=inr_u8 v2
 have b3:=inr_u8 v3
 have b4:=inr_u8 v4
 have b5:=inr_u8 v5
 have b6:=inr_u8 v6
 have bo:=inr_u8 vo
 have bl:=inr_u8 vl
 have bk:=inr_u8 vk
 have ba:=inr_u8 va
 clear v0 v1 v2 v3 v4 v5 v6 vo vl vk va
 have hOne:∀ k,k<n1->OneOK ((el1 k).1,(el1 k).2.1,(el1 k).2.2.1,(el1 k).2.2.2.1,(el1 k).2.2.2.2.1,(el1 k).2.2.2.2.2.1,(el1 k).2.2.2.2.2.2.1,(el1 k).2.2.2.2.2.2.2.1,(el1 k).2.2.2.2.2.2.2.2.1):=fun k hk=>one_ok (hv1 k hk)
 have hPu:∀ k,k<n->Uc (u k) /\ -32768<=(u k).d/\(u k).d<=32767:=fun k hk=>pul_in (hvu k hk)
 have hg:=fp b0.1 b1.1 b2.1 b3.1 b4.1 b5.1 b6.1 bo.1
 have hlg:0<=lg.tmod 5/\lg.tmod 5<=4:=by
  have:=bl.1
  rw [Int.tmod_eq_emod_of_nonneg bl.1];omega
 have bl2:0<=lg/\lg<=255:=bl
 generalize hK:lg.tmod 5=K at *
 generalize hG:QO a0 a1 a2 a3 a4 a5 a6 o=g at *
 refine ⟨b0.1,b0.2,b1.1,b1.2,b2.1,b2.2,b3.1,b3.2,b4.1,b4.2,b5.1,b5.2,b6.1,b6.2,bo.1,bo.2,by omega,by omega,fun h=>⟨h,hOne 0 h⟩,fun _=>one_0,fun x0 x1 x2 x3 x4 x5 x6 x7 x8 hx=>?_,fun C s hC=>?_⟩
 ·obtain ⟨c0,c1,c2,c3,c4,c5,c6,c7,c8⟩:=one_is hx
  refine ⟨c0,c1,c2,c3,c4,c5,c6,c7,c8,by decide,by decide,fun h=>⟨by omega,hOne 1 (by omega)⟩,fun _=>one_0,fun y0 y1 y2 y3 y4 y5 y6 y7 y8 hy=>?_⟩
  obtain ⟨d0,d1,d2,d3,d4,d5,d6,d7,d8⟩:=one_is hy
  refine ⟨d0,d1,d2,d3,d4,d5,d6,d7,d8,by decide,by decide,fun h=>⟨by omega,hOne 2 (by omega)⟩,fun _=>one_0,fun z0 z1 z2 z3 z4 z5 z6 z7 z8 hz=>?_⟩
  obtain ⟨e0,e1,e2,e3,e4,e5,e6,e7,e8⟩:=one_is hz
  refine ⟨e0,e1,e2,e3,e4,e5,e6,e7,e8,by decide,by decide,sel3 (FN basC (QU x0 x1 x2 x3 x4 x5 x6)) (FN basC (QU y0 y1 y2 y3 y4 y5 y6)) (FN basC (QU z0 z1 z2 z3 z4 z5 z6)),fun j hj=>?_,sel3 (Xc x7) (Xc y7) (Xc z7),fun j hj=>?_,fun j hj=>?_⟩
  ·rcases (show j=0\/j=1\/j=2 by omega) with rfl|rfl|rfl<;>simp [sel3,Ft,AZ,AW,AO,E3,LY]
  ·rcases (show j=0\/j=1\/j=2 by omega) with rfl|rfl|rfl<;>simp [sel3,Ft,AZ,AW,AO,E3,LY]
  ·rcases (show j=0\/j=1\/j=2 by omega) with rfl|rfl|rfl
   ·exact US (Ts c0 c1 c2 c3 c4 c5 c6) c7.1 c7.2
   ·exact US (Ts d0 d1 d2 d3 d4 d5 d6) d7.1 d7.2
   ·exact US (Ts e0 e1 e2 e3 e4 e5 e6) e7.1 e7.2
 obtain ⟨sn1,sn2⟩:=sn_ok (k:=fk) (a:=fa) (b:=fb)
 refine ⟨hg,bk.1,bk.2,ba.1,ba.2,hlg.1,hlg.2,sn1,sn2,?_,fun i C s m p r h h1 h2=>?_⟩
 ·refine ⟨0,C,fun j hj=>by simp,by simp,s,fun j hj=>by simp,CU g,?_⟩
  simp only [true_and]
  refine ⟨A7 K (nU fk) (Ug fk) (nW fa) (zP fk fb),?_⟩
  simp only [true_and,implies_true]
  exact ⟨fun _=>0,rfl,rfl,rfl,rfl,rfl,rfl,pW hg hlg hC⟩
 have hd:=hPu i h1
 refine ⟨fun hp=>⟨h1,by omega,by omega,by omega,by omega,(fun hf=>by rw [hp] at hf;cases hf),by omega,by omega⟩,fun c hx c0 c1=>⟨h1,fun k hk=>(PS h hk).1,by omega,by omega,hd.1,?_,fun t ht he e2=>?_⟩⟩
 ·refine ⟨EQ (Al (C 0) (s 0) c) (Al (C 1) (s 1) c) (Al (C 2) (s 2) c) (s 0).tp (s 1).tp (s 2).tp c (u i),?_⟩
  simp only [true_and]
  exact vX h hd.1 ⟨c0,c1⟩
 have st:=pV h h1 (by omega) he hx e2 ⟨c0,c1⟩
 have key:∀ (j:Nat) (q:Int),j<6->q=(j:Int)+1->(rcV g q K<=mE (FY t j) (r j+1)->HP (uV (Az m (A1 p t)) p)=false)/\((j=2\/j=3)->mE (FY t j) (r j+1)<=rcV g q K):=fun j q hj hq=>by
  have:=jj st hj
  rw [Ka,hq]
  unfold rcV
  exact this
 have q0:=key 0 1 (by decide) rfl
 have q1:=key 1 2 (by decide) rfl
 have q2:=key 2 3 (by decide) rfl
 have q3:=key 3 4 (by decide) rfl
 have q4:=key 4 5 (by decide) rfl
 have q5:=key 5 6 (by decide) rfl
 have r0:=Me h (j:=0) (by decide)
 have r1:=Me h (j:=1) (by decide)
 have r2:=Me h (j:=2) (by decide)
 have r3:=Me h (j:=3) (by decide)
 have r4:=Me h (j:=4) (by decide)
 have r5:=Me h (j:=5) (by decide)
 refine ⟨h.i.md,ht,⟨A1 p t,by simp only [true_and]⟩,AF8 h ht,⟨Az m (A1 p t),by simp only [true_and]⟩,h.i.md,h.i.pl,⟨uV (Az m (A1 p t)) p,by rw [jF];simp only [true_and,implies_true]⟩,?_⟩
 refine ⟨by omega,by omega,fun hb=>by rw [hb,Qt],fun hb=>by rw [hb,Qs],hg,hlg.1,by omega,fun _=>or_of q0.1,q0.1,?_⟩
 refine ⟨by omega,by omega,fun hb=>by rw [hb,Qt],fun hb=>by rw [hb,Qs],hg,hlg.1,by omega,fun _=>or_of q1.1,q1.1,?_⟩
 refine ⟨by omega,by omega,fun hb=>by rw [hb,Qt],fun hb=>by rw [hb,Qs],hg,hlg.1,by omega,fun _=>or_of q2.1,q2.1,q2.2 (.inl rfl),?_⟩
 refine ⟨by omega,by omega,fun hb=>by rw [hb,Qt],fun hb=>by rw [hb,Qs],hg,hlg.1,by omega,fun _=>or_of q3.1,q3.1,q3.2 (.inr rfl),?_⟩
 refine ⟨by omega,by omega,fun hb=>by rw [hb,Qt],fun hb=>by rw [hb,Qs],hg,hlg.1,by omega,fun _=>or_of q4.1,q4.1,?_⟩
 refine ⟨by omega,by omega,fun hb=>by rw [hb,Qt],fun hb=>by rw [hb,Qs],hg,hlg.1,by omega,fun _=>or_of q5.1,q5.1,?_⟩
 refine ⟨(PS h (by decide)).2,vY h ⟨c0,c1⟩ (by decide),fun _=>⟨(PS h (by decide)).2,vY h ⟨c0,c1⟩ (by decide),fun _=>⟨(PS h (by decide)).2,vY h ⟨c0,c1⟩ (by decide),fun _=>⟨by omega,by omega,i+1,C,fun j hj=>by simp,by omega,nxS C s c,fun j hj=>?_,Az m (A1 p t),?_⟩⟩⟩⟩
 ·rcases (show j=0\/j=1\/j=2 by omega) with rfl|rfl|rfl<;>simp [jE]
 simp only [true_and]
 refine ⟨uV (Az m (A1 p t)) p,?_⟩
 simp only [true_and,implies_true]
 exact ⟨Hu t r,Ka t r 0,Ka t r 1,Ka t r 2,Ka t r 3,Ka t r 4,Ka t r 5,st,by omega⟩
end
end Abs
open Go.ChangeShapes Go.WideShapes Go.ChangeAt Go.RowKit
set_option maxRecDepth 100000 in
theorem topGuarded_lifted (os:Os) (started:os.Started) (H:Type) (enc:TypeId × Value->H) :
  ReturnsInHanded {} Tryz.checked os 3 .any (Rows.topGuardedSpec.pre6 enc Tryz.prog Tryz.f3 Rows.topGuardedRow.domain false) (Rows.topGuardedSpec.post enc Tryz.prog Tryz.f3 false true false false):=by
 refine returnsInHanded_of_change (C:=Tryz.checked) (show ownKnob Tryz.prog.godebug=none by kernel_rfl) started (by kernel_rfl) Tryz.func3
  (ChangeSpec.witness6 (enc:=enc) (C:=Tryz.checked) false ⟨#[],#[.slice none 0 0,.agg #[.int .u8 0,.int .u8 0,.int .u8 0,.int .u8 0,.int .u8 0,.int .u8 0,.int .u8 0],.int .u8 0,.int .u8 0,.agg #[.int .u8 0,.int .u8 0,.bool false],.slice none 0 0],[]⟩ 8 (by kernel_rfl) (by kernel_rfl) (by kernel_rfl) (by kernel_rfl)) ?_
 intro W base args ds gs before hval0 hW hcnd _
 have hW0:=hW
 obtain ⟨p,q,hA,hV,rfl,hfz,hnd⟩:=hW0
 refine (Abs.law_calls (enc':=enc) Abs.topGuarded_law (fn:=Tryz.f3) (d:=8) (by kernel_rfl) hA hval0).mono fun e W' hh=>?_
 obtain ⟨he,hb⟩:=hh
 subst he
 exact ⟨_,rfl,Abs.law_post (s:=Rows.topGuardedSpec) (f:=Tryz.f3) (by kernel_rfl) rfl (by kernel_rfl) (by kernel_rfl) rfl 6 (by kernel_rfl) (fun ds hl=>by
  rcases ds with _|⟨d0,_|⟨d1,_|⟨d2,_|⟨d3,_|⟨d4,_|⟨d5,_|⟨d6,_⟩⟩⟩⟩⟩⟩⟩
  all_goals first|exact ⟨rfl,rfl,rfl⟩|(exfalso;simp only [List.length_cons,List.length_nil] at hl;omega)) hW hb⟩
theorem topGuarded_holds:Rows.TopGuardedSaid :=
 OpenClaim.holds_of_wide 3 Tryz.f3 rfl rfl rfl rfl rfl rfl rfl ⟨rfl,rfl,rfl,rfl,rfl⟩ rfl rfl rfl rfl rfl (by kernel_rfl) Tryz.func3 (by kernel_rfl)
  (of_decide_eq_true (by kernel_rfl)) (by unfold Func.isWrapper;first|(rw [if_pos (by decide +kernel)];kernel_rfl)|(rw [if_neg (by decide +kernel)];exact ⟨rfl,rfl⟩))
  (fun os started H enc _=>topGuarded_lifted os started H enc)
end Go.Proofs.YtccgngldoinokaaGreat
