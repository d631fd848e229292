/- A part of the proof: no statement of its own. -/
import Derived.Test.YtlacopdaibhkkaaGreatQG9b281def
set_option linter.unusedSimpArgs false
set_option linter.unusedVariables false
namespace Go.Proofs.YtlacopdaibhkkaaGreat
namespace Abs
open Go Go.RowKit
@[irreducible] def notQ (x : Int) : Bool:=!(isQ x)
def strS : Spec [.int .i64]:=⟨fun _=>True,fun (x,_)=>.sb (notQ x)⟩
set_option maxRecDepth 100000 in
theorem str_ok : FnSpec Tryz.prog 125 _ strS:=by
 refine FnSpec.of SX6_ok mixed (U:=0) (I:=fun _=>[]) Tryz.func125 rfl (by kernel_rfl) rfl rfl (by decide +kernel) ?_
 rintro ⟨(x : Int),⟨⟩⟩ -
 unfold FnSat
 conv=>arg 2; reduce
 simp [strS,isS,notQ]
noncomputable def SY0 : Sums:=⟨(125,mkSum _ strS) :: SX6.one,SX6.two,SX6.lo,SX6.eqs,SX6.its,SX6.imm⟩
theorem SY0_ok : SumsOK Tryz.prog SY0:=(SX6_ok.cons Tryz.func125 (by kernel_rfl) (by kernel_rfl) str_ok)
def anyStI : Spec [.slice 1 [.int .i64],.fn 125 [] []]:=⟨fun x=>x.1.1 <= maxLen,fun ((n,el),((_,c),_))=>.si .i64 (idxN (fun k=>notQ (el k).1) n)⟩
noncomputable def anyStA : DatL [.slice 1 [.int .i64],.fn 125 [] []] -> Anns:=fun ((n,el),((_,c),_))=>[(2,[],fun fr hp=>⟨Nat,fun g=>⟨frI [.k 5,.t 1,.k 2,.s (.si .i64 (icast g)),.t 10] fr,hp⟩,Nat,fun g=>g,fun g=>g <= firstN (fun k=>notQ (el k).1) n,fun g=>nsub n g⟩)]
set_option maxRecDepth 100000 in
theorem anyStI_ok : FnSpec Tryz.prog 142 _ anyStI:=by
 refine FnSpec.of SY0_ok mixed (U:=0) (I:=anyStA) Tryz.func142 rfl (by kernel_rfl) rfl rfl (by decide +kernel) ?_
 rintro ⟨⟨n,el⟩,⟨⟨⟩,c⟩,⟨⟩⟩ hpre
 have hn : n <= maxLen:=hpre
 unfold FnSat
 conv=>arg 2; reduce
 unfold maxLen at hn
 have hle:=firstN_le (fun k=>notQ (el k).1) n
 simp [anyStI,strS,and_assoc]
 refine ⟨⟨0,rfl,by omega⟩,fun k hk=>⟨fun h1=>?_,fun h1=>?_⟩⟩
 ·refine And.intro h1 ?_
  refine ⟨fun h2=>?_,fun h2=>?_⟩
  ·rw [idxN,firstN_at hk (by simpa using h2),if_pos h1]; try simp
  ·have:=firstN_ge hk (by simpa using h2) h1
   refine ⟨by omega,by omega,k + 1,by omega,by omega,by omega⟩
 ·rw [idxN,if_neg (by omega)]
def anyStC : Spec [.slice 1 [.int .i64],.fn 125 [] []]:=⟨fun x=>x.1.1 <= maxLen,fun ((n,el),((_,c),_))=>.sb (anyN (fun k=>notQ (el k).1) n)⟩
noncomputable def anyStS : Sums:=⟨(142,mkSum _ anyStI) :: SY0.one,SY0.two,SY0.lo,SY0.eqs,SY0.its,SY0.imm⟩
theorem anyStS_ok : SumsOK Tryz.prog anyStS:=(SY0_ok.cons Tryz.func142 (by kernel_rfl) (by kernel_rfl) anyStI_ok)
set_option maxRecDepth 100000 in
theorem anyStC_ok : FnSpec Tryz.prog 127 _ anyStC:=by
 refine FnSpec.of anyStS_ok mixed (U:=0) (I:=fun _=>[]) Tryz.func127 rfl (by kernel_rfl) rfl rfl (by decide +kernel) ?_
 rintro ⟨⟨n,el⟩,⟨⟨⟩,c⟩,⟨⟩⟩ hpre
 unfold FnSat
 conv=>arg 2; reduce
 have hpre : anyStC.pre ((n,el),(((),c),())):=hpre
 simp [anyStC,anyStI,idxN_nonneg] at hpre ⊢
 exact hpre
noncomputable def SY1 : Sums:=⟨(127,mkSum _ anyStC) :: SY0.one,SY0.two,SY0.lo,SY0.eqs,SY0.its,SY0.imm⟩
theorem SY1_ok : SumsOK Tryz.prog SY1:=(SY0_ok.cons Tryz.func127 (by kernel_rfl) (by kernel_rfl) anyStC_ok)
def crS : Spec [crvSh]:=⟨fun ((x,y,_),_)=>x.1 <= maxLen /\ y.1 <= maxLen,fun (c,_)=>.si .i64 (crE (crvOf c))⟩
noncomputable def crI : DatL [crvSh] -> Anns:=fun (c,_)=>[
 (7,[],fun fr hp=>⟨Nat,fun g=>⟨frI [.k 5,.t 1,.k 35,.t 10] fr,hp⟩,Nat × Crv,fun g=>(g,crvOf c),fun (g,c)=>g + 1 <= c.nx /\ ∀ j,j < g -> c.x j < c.x (j + 1) /\ c.y j <= c.y (j + 1),fun g=>g⟩)]
set_option maxRecDepth 100000 in
theorem cr_ok : FnSpec Tryz.prog 103 _ crS:=by
 refine FnSpec.of SY1_ok mixed (U:=0) (I:=crI) Tryz.func103 rfl (by kernel_rfl) rfl rfl (by decide +kernel) ?_
 rintro ⟨c,⟨⟩⟩ hpre
 obtain ⟨c,rfl⟩:=crv_ex c
 have hpre : c.nx <= maxLen /\ c.ny <= maxLen:=hpre
 obtain ⟨p1,p2⟩:=hpre
 unfold FnSat
 conv=>arg 2; reduce
 simp [crS,anyStC,piecesS,pcsI,ElEq,getB,goneB,aliveB,and_assoc]
 have hnq : ∀ y,notQ y = false ↔ isQ y = true:=fun y=>by unfold notQ; simp
 have bad : (crB c = true -> False) -> c.nx <= 64 -> c.ny <= 64 -> 2 = crE c:=fun h h1 h2=>by unfold crE; rw [if_neg (by omega),if_neg (fun hb=>h hb)]
 have anyq : ∀ (f : Nat -> Int) (n : Nat),anyN (fun k=>notQ (f k)) n = true -> ∃ k,k < n /\ isQ (f k) = false:=fun f n h=>by
  obtain ⟨k,hk,h1⟩:=anyN_iff.1 h
  exact ⟨k,hk,by unfold notQ at h1; simpa using h1⟩
 have allq : ∀ (f : Nat -> Int) (n : Nat),anyN (fun k=>notQ (f k)) n = false -> ∀ k,k < n -> isQ (f k) = true:=fun f n h k hk=>(hnq _).1 (anyN_false.1 h k hk)
 refine ⟨fun h=>by unfold crE; rw [if_pos (by omega)],fun h=>⟨fun _ _=>p1,fun _ _ _=>p2,fun h1=>bad (fun hb=>?_) (by omega) (by omega),fun a1 a2 a3 a4=>⟨by omega,by omega,by omega,fun k hk=>⟨allq _ _ a3 k hk,allq _ _ a4 k (by omega)⟩,by omega,fun g hg hf=>⟨fun hlt=>⟨fun h1=>bad (fun hb=>?_) (by omega) (by omega),fun b1 b2=>⟨by omega,fun j hj=>?_⟩⟩,fun hge=>?_⟩⟩⟩⟩
 ·have hb:=crB_iff.1 hb
  rcases h1 with (h1 | h1) | h1
  ·omega
  ·obtain ⟨k,hk,h2⟩:=anyq _ _ h1
   rw [(hb.2.2.2.1 k hk).1] at h2; cases h2
  ·obtain ⟨k,hk,h2⟩:=anyq _ _ h1
   rw [(hb.2.2.2.1 k (by omega)).2] at h2; cases h2
 ·have:=(crB_iff.1 hb).2.2.2.2 g (by omega)
  omega
 ·by_cases h' : j < g
  ·exact hf j h'
  ·obtain rfl : j = g:=by omega
   exact ⟨b1,b2⟩
 ·exact (crE_iff.2 (crB_iff.2 ⟨by omega,by omega,by omega,fun k hk=>⟨allq _ _ a3 k hk,allq _ _ a4 k (by omega)⟩,fun k hk=>hf k (by omega)⟩)).symm
noncomputable def SY2 : Sums:=⟨(103,mkSum _ crS) :: SY1.one,SY1.two,SY1.lo,SY1.eqs,SY1.its,SY1.imm⟩
theorem SY2_ok : SumsOK Tryz.prog SY2:=(SY1_ok.cons Tryz.func103 (by kernel_rfl) (by kernel_rfl) cr_ok)
@[irreducible] def vgL (c : Crv) (x : Int) (g : Nat) : Int:=if g = 0 then c.y 0 else c.y (g - 1) + dnW (x - c.x (g - 1)) (c.y (g - 1 + 1) - c.y (g - 1)) (c.x (g - 1 + 1) - c.x (g - 1))
@[irreducible] def vgH (c : Crv) (x : Int) (g : Nat) : Int:=if g = 0 then c.y 0 else c.y (g - 1) + upW (x - c.x (g - 1)) (c.y (g - 1 + 1) - c.y (g - 1)) (c.x (g - 1 + 1) - c.x (g - 1))
theorem vg_fin {c : Crv} (h : crB c = true) {x : Int} {g : Nat} (hg : g + 1 <= c.nx) (hf : ∀ j,j < g -> c.x j <= x) (hx : x < c.x (c.nx - 1)) (he : g = c.nx - 1 \/ x < c.x g) : vgL c x g = valL c x /\ vgH c x g = valH c x:=by
 have hb:=crB_iff.1 h
 cases g with
 | zero =>
   have : x < c.x 0:=by rcases he with he | he; omega; exact he
   have e1 : vgL c x 0 = c.y 0:=by unfold vgL; rw [if_pos rfl]
   have e2 : vgH c x 0 = c.y 0:=by unfold vgH; rw [if_pos rfl]
   have e3 : valL c x = c.y 0:=by unfold valL; rw [if_neg (by omega),if_pos this]
   have e4 : valH c x = c.y 0:=by unfold valH; rw [if_neg (by omega),if_pos this]
   rw [e1,e2,e3,e4]; exact ⟨rfl,rfl⟩
 | succ i =>
   have h0:=hf i (by omega)
   have h1 : x < c.x (i + 1):=by rcases he with he | he; rw [he]; exact hx; exact he
   have h2:=crv_x h (j:=i) (i:=0) (by omega) (by omega)
   have hs:=sgI_uniq h (x:=x) (i:=i) (by omega) h0 h1
   have h3:=hb.2.2.2.2 i (by omega)
   have hq1:=isQ_iff.1 (hb.2.2.2.1 i (by omega)).2
   have hq2:=isQ_iff.1 (hb.2.2.2.1 (i + 1) (by omega)).2
   have hp:=piece_in (a:=x - c.x i) (d:=c.y (i + 1) - c.y i) (w:=c.x (i + 1) - c.x i) (by omega) (by omega) (by omega) (by omega)
   have d1:=dnW_pos (x:=x - c.x i) (n:=c.y (i + 1) - c.y i) (d:=c.x (i + 1) - c.x i) (by omega) (by omega) (by rw [absI_pos (by omega)]; omega)
   have d2:=dnW_pos (x:=-(x - c.x i)) (n:=c.y (i + 1) - c.y i) (d:=c.x (i + 1) - c.x i) (by omega) (by omega) (by
    rcases Int.lt_or_le (-(x - c.x i)) 0 with h4 | h4
    ·rw [absI_neg h4,Int.neg_neg]; omega
    ·have e : x - c.x i = 0:=by omega
     rw [e]; simp [absI])
   unfold vgL vgH valL valH
   rw [if_neg (by omega),if_neg (by omega),if_neg (by omega),if_neg (by omega),if_neg (by omega),if_neg (by omega),hs,show i + 1 - 1 = i by omega]
   unfold upW pcL pcH
   rw [d1,d2]
   exact ⟨rfl,rfl⟩
def qvS : Spec [crvSh,.int .i64]:=⟨fun (c,(x : Int),_)=>crB (crvOf c) = true /\ -1099511627776 <= x /\ x <= 1099511627776,fun (c,(x : Int),_)=>.agg [.si .i64 (valL (crvOf c) x),.si .i64 (valH (crvOf c) x)]⟩
noncomputable def qvI : DatL [crvSh,.int .i64] -> Anns:=fun (c,(x : Int),_)=>[
 (6,[],fun fr hp=>⟨Nat,fun g=>⟨frI [.k 8,.t 2,.k 33,.t 27] fr,putC hp 3 [.si .i64 (vgL (crvOf c) x g),.si .i64 (vgH (crvOf c) x g)]⟩,Nat × Crv × Int,fun g=>(g,crvOf c,x),fun (g,c,x)=>g + 1 <= c.nx /\ ∀ j,j < g -> c.x j <= x,fun g=>g⟩)]
set_option maxRecDepth 100000 in
theorem qv_ok : FnSpec Tryz.prog 146 _ qvS:=by
 refine FnSpec.of SY2_ok mixed (U:=0) (I:=qvI) Tryz.func146 rfl (by kernel_rfl) rfl rfl (by decide +kernel) ?_
 rintro ⟨c,(x : Int),⟨⟩⟩ hpre
 obtain ⟨c,rfl⟩:=crv_ex c
 have hpre : crB c = true /\ -1099511627776 <= x /\ x <= 1099511627776:=by
  have : crB (crvOf (crvD c)) = true /\ -1099511627776 <= x /\ x <= 1099511627776:=hpre
  rwa [show crvOf (crvD c) = c from crvOf_mk c] at this
 obtain ⟨p1,p2,p3⟩:=hpre
 unfold FnSat
 conv=>arg 2; reduce
 simp [qvS,piecesS,pcsI,ratioS,ElEq,getB,goneB,aliveB,and_assoc]
 have hb:=crB_iff.1 p1
 have hq : ∀ k,k < c.nx -> (-1099511627776 <= c.x k /\ c.x k <= 1099511627776) /\ (-1099511627776 <= c.y k /\ c.y k <= 1099511627776):=fun k hk=>⟨isQ_iff.1 (hb.2.2.2.1 k hk).1,isQ_iff.1 (hb.2.2.2.1 k hk).2⟩
 refine ⟨by omega,by omega,by omega,by omega,fun h=>⟨by omega,by omega,by omega,by omega,by unfold valL; rw [if_pos h],by unfold valH; rw [if_pos h]⟩,fun h=>⟨by omega,by omega,by omega,by omega,hb.2.2.2.1,by unfold vgL; simp,by unfold vgH; simp,by omega,fun g hg hf=>⟨fun hlt=>⟨fun h1=>vg_fin p1 hg hf h (.inr h1),fun h1=>?_⟩,fun hge=>vg_fin p1 hg hf h (.inl (by omega))⟩⟩⟩
 have q1:=hq g (by omega)
 have q2:=hq (g + 1) (by omega)
 have q3:=hb.2.2.2.2 g (by omega)
 have hd : 1 <= absI (c.x (g + 1) - c.x g):=by rw [absI_pos (by omega)]; omega
 have q4:=dnW_b (x:=x - c.x g) (n:=c.y (g + 1) - c.y g) hd
 have q5:=dnW_b (x:=-(x - c.x g)) (n:=c.y (g + 1) - c.y g) hd
 have q6 : upW (x - c.x g) (c.y (g + 1) - c.y g) (c.x (g + 1) - c.x g) = -(dnW (-(x - c.x g)) (c.y (g + 1) - c.y g) (c.x (g + 1) - c.x g)):=by unfold upW; rfl
 refine ⟨by omega,by omega,by omega,by omega,by omega,by omega,by omega,by omega,by omega,by omega,by omega,by omega,?_,?_,by omega,fun j hj=>?_⟩
 ·unfold vgL; rw [if_neg (by omega),show g + 1 - 1 = g by omega]
 ·unfold vgH; rw [if_neg (by omega),show g + 1 - 1 = g by omega]
 ·by_cases h' : j < g
  ·exact hf j h'
  ·obtain rfl : j = g:=by omega
   exact h1
noncomputable def SY3 : Sums:=⟨(146,mkSum _ qvS) :: SY2.one,SY2.two,SY2.lo,SY2.eqs,SY2.its,SY2.imm⟩
theorem SY3_ok : SumsOK Tryz.prog SY3:=(SY2_ok.cons Tryz.func146 (by kernel_rfl) (by kernel_rfl) qv_ok)
@[irreducible] def atE (c : Crv) (x : Int) : Int:=if crE c = 0 then (if isQ x = true then 0 else 2) else crE c
@[irreducible] def atL (c : Crv) (x : Int) : Int:=if atE c x = 0 then valL c x else 0
@[irreducible] def atH (c : Crv) (x : Int) : Int:=if atE c x = 0 then valH c x else 0
theorem atE_iff {c : Crv} {x : Int} : atE c x = 0 ↔ crE c = 0 /\ isQ x = true:=by
 unfold atE
 by_cases h : crE c = 0
 ·rw [if_pos h]; cases isQ x <;> simp [h]
 ·rw [if_neg h]; simp [h]
def atS : Spec [crvSh,.int .i64]:=⟨fun ((x,y,_),_)=>x.1 <= maxLen /\ y.1 <= maxLen,fun (c,(x : Int),_)=>.tup [.agg [.si .i64 (atL (crvOf c) x),.si .i64 (atH (crvOf c) x)],.si .i64 (atE (crvOf c) x)]⟩
set_option maxRecDepth 100000 in
theorem at_ok : FnSpec Tryz.prog 135 _ atS:=by
 refine FnSpec.of SY3_ok mixed (U:=0) (I:=fun _=>[]) Tryz.func135 rfl (by kernel_rfl) rfl rfl (by decide +kernel) ?_
 rintro ⟨c,(x : Int),⟨⟩⟩ hpre
 obtain ⟨c,rfl⟩:=crv_ex c
 have hpre : c.nx <= maxLen /\ c.ny <= maxLen:=hpre
 obtain ⟨p1,p2⟩:=hpre
 unfold FnSat
 conv=>arg 2; reduce
 simp [atS,crS,isS,qvS,ElEq,getB,goneB,aliveB,and_assoc]
 refine ⟨p1,p2,fun h=>?_,fun h=>⟨fun h2=>?_,fun h2=>⟨crE_iff.1 h,(isQ_iff.1 h2).1,(isQ_iff.1 h2).2,?_⟩⟩⟩
 ·have e : atE c x = crE c:=by unfold atE; rw [if_neg h]
  unfold atL atH; rw [e,if_neg h,if_neg h]; simp
 ·have e : atE c x = 2:=by unfold atE; rw [if_pos h,h2]; rfl
  unfold atL atH; rw [e]; simp
 ·have e : atE c x = 0:=atE_iff.2 ⟨h,h2⟩
  unfold atL atH; rw [e]; simp
noncomputable def SY4 : Sums:=⟨(135,mkSum _ atS) :: SY3.one,SY3.two,SY3.lo,SY3.eqs,SY3.its,SY3.imm⟩
theorem SY4_ok : SumsOK Tryz.prog SY4:=(SY3_ok.cons Tryz.func135 (by kernel_rfl) (by kernel_rfl) at_ok)
end Abs
end Go.Proofs.YtlacopdaibhkkaaGreat

namespace Go.Proofs.YtlacopdaibhkkaaGreat
namespace Abs
open Go Go.RowKit
noncomputable section
theorem atL_val {c : Crv} {x : Int} (h : crB c = true) (h1 : -1099511627776 <= x) (h2 : x <= 1099511627776) : atL c x = valL c x:=by
 have e : atE c x = 0:=atE_iff.2 ⟨crE_iff.2 h,isQ_iff.2 ⟨h1,h2⟩⟩
 unfold atL; rw [if_pos e]
def divS : Spec [.int .i64,.int .i64]:=⟨fun ((n : Int),(d : Int),_)=>-4611686018427387904 <= n /\ n <= 4611686018427387904 /\ 1 <= d,fun ((n : Int),(d : Int),_)=>.si .i64 (dvI n d)⟩
set_option maxRecDepth 100000 in
theorem div_ok : FnSpec Tryz.prog 105 _ divS:=by
 refine FnSpec.of SY4_ok mixed (U:=0) (I:=fun _=>[]) Tryz.func105 rfl (by kernel_rfl) rfl rfl (by decide +kernel) ?_
 rintro ⟨(n : Int),(d : Int),⟨⟩⟩ ⟨(h1 : -4611686018427387904 <= n),(h2 : n <= 4611686018427387904),(h3 : 1 <= d)⟩
 unfold FnSat
 conv=>arg 2; reduce
 simp [divS,and_assoc]
 exact dvI_by h1 h2 h3
def clipS : Spec [.int .i64,.int .i64,.int .i64]:=⟨fun _=>True,fun ((x : Int),(lo : Int),(hi : Int),_)=>.si .i64 (clipV x lo hi)⟩
set_option maxRecDepth 100000 in
theorem clip_ok : FnSpec Tryz.prog 110 _ clipS:=by
 refine FnSpec.of SY4_ok mixed (U:=0) (I:=fun _=>[]) Tryz.func110 rfl (by kernel_rfl) rfl rfl (by decide +kernel) ?_
 rintro ⟨(x : Int),(lo : Int),(hi : Int),⟨⟩⟩ -
 unfold FnSat
 conv=>arg 2; reduce
 simp [clipS,clipV]
def betS : Spec [.int .i64,.int .i64,.int .i64]:=⟨fun _=>True,fun ((x : Int),(lo : Int),(hi : Int),_)=>.sb (isIn lo x hi)⟩
set_option maxRecDepth 100000 in
theorem bet_ok : FnSpec Tryz.prog 70 _ betS:=by
 refine FnSpec.of SY4_ok mixed (U:=0) (I:=fun _=>[]) Tryz.func70 rfl (by kernel_rfl) rfl rfl (by decide +kernel) ?_
 rintro ⟨(x : Int),(lo : Int),(hi : Int),⟨⟩⟩ -
 unfold FnSat
 conv=>arg 2; reduce
 simp [betS,isIn]
def cvalS : Spec [crvSh,.int .i64]:=⟨fun ((x,y,_),_)=>x.1 <= maxLen /\ y.1 <= maxLen,fun (c,(x : Int),_)=>.si .i64 (atL (crvOf c) x)⟩
set_option maxRecDepth 100000 in
theorem cval_ok : FnSpec Tryz.prog 112 _ cvalS:=by
 refine FnSpec.of SY4_ok mixed (U:=0) (I:=fun _=>[]) Tryz.func112 rfl (by kernel_rfl) rfl rfl (by decide +kernel) ?_
 rintro ⟨c,(x : Int),⟨⟩⟩ hpre
 obtain ⟨c,rfl⟩:=crv_ex c
 have hpre : c.nx <= maxLen /\ c.ny <= maxLen:=hpre
 unfold FnSat
 conv=>arg 2; reduce
 simp [cvalS,atS,ElEq,and_assoc]
 exact hpre
noncomputable def SCa : Sums:=⟨(112,mkSum _ cvalS) :: (70,mkSum _ betS) :: (110,mkSum _ clipS) :: (105,mkSum _ divS) :: SY4.one,SY4.two,SY4.lo,SY4.eqs,SY4.its,SY4.imm⟩
theorem SCa_ok : SumsOK Tryz.prog SCa:=((((SY4_ok.cons Tryz.func105 (by kernel_rfl) (by kernel_rfl) div_ok).cons Tryz.func110 (by kernel_rfl) (by kernel_rfl) clip_ok).cons Tryz.func70 (by kernel_rfl) (by kernel_rfl) bet_ok).cons Tryz.func112 (by kernel_rfl) (by kernel_rfl) cval_ok)
def scaleS : Spec [crvSh,.int .i64,.int .i64]:=⟨fun ((x,y,_),_)=>x.1 <= maxLen /\ y.1 <= maxLen,fun (c,(last : Int),(most : Int),_)=>.sb (scB (crvOf c) last most)⟩
set_option maxRecDepth 100000 in
theorem scale_ok : FnSpec Tryz.prog 71 _ scaleS:=by
 refine FnSpec.of SCa_ok mixed (U:=0) (I:=fun _=>[]) Tryz.func71 rfl (by kernel_rfl) rfl rfl (by decide +kernel) ?_
 rintro ⟨c,(last : Int),(most : Int),⟨⟩⟩ hpre
 obtain ⟨c,rfl⟩:=crv_ex c
 have hpre : c.nx <= maxLen /\ c.ny <= maxLen:=hpre
 obtain ⟨p1,p2⟩:=hpre
 unfold FnSat
 conv=>arg 2; reduce
 simp [scaleS,and_assoc]
 refine ⟨p1,p2,fun h=>?_,fun h=>?_⟩
 ·have hb : crB c = false:=by
   cases hb : crB c with
   | false=>rfl
   | true=>exact absurd (crE_iff.2 hb) h
  unfold scB; rw [hb]; simp
 ·have hb : crB c = true:=crE_iff.1 h
  have h1:=crB_iff.1 hb
  have e : ((c.nx : Int) - 1).toNat = c.nx - 1:=by omega
  unfold maxLen at p1 p2
  refine ⟨by omega,by omega,by omega,fun _=>by omega,fun _ _=>by omega,fun _ _ _=>by omega,?_⟩
  unfold scB
  rw [Bool.eq_iff_iff]
  simp [hb]
noncomputable def SCb : Sums:=⟨(71,mkSum _ scaleS) :: SCa.one,SCa.two,SCa.lo,SCa.eqs,SCa.its,SCa.imm⟩
theorem SCb_ok : SumsOK Tryz.prog SCb:=(SCa_ok.cons Tryz.func71 (by kernel_rfl) (by kernel_rfl) scale_ok)
def wearS : Spec [.ptr celCells,.int .i64,.int .i64]:=⟨fun (c,(t : Int),(a : Int),_)=>WearOK (celOf c) t a,fun (c,(t : Int),(a : Int),_)=>.si .i64 (wearV (celOf c) t a)⟩
set_option maxRecDepth 100000 in
theorem wear_ok : FnSpec Tryz.prog 75 _ wearS:=by
 refine FnSpec.of SCb_ok mixed (U:=0) (I:=fun _=>[]) Tryz.func75 rfl (by kernel_rfl) rfl rfl (by decide +kernel) ?_
 rintro ⟨c,(t : Int),(a : Int),⟨⟩⟩ hpre
 obtain ⟨c,rfl⟩:=cel_ex c
 have hpre : WearOK c t a:=by have : WearOK (celOf (celD c)) t a:=hpre; rwa [celOf_D] at this
 unfold FnSat
 conv=>arg 2; reduce
 simp [wearS,divS,and_assoc]
 have h1:=mul_in hpre.t0 hpre.t1 hpre.c0 hpre.c1
 have h2:=mul_in hpre.g0 hpre.g1 hpre.a0 hpre.a1
 have h3:=wearV_in hpre
 have e : dvI (t * c.cyc) 1073741824 + dvI (a * c.agel) 1073741824 = wearV c t a:=by unfold wearV; rfl
 rw [e]
 omega
def roomS : Spec [.ptr celCells,.int .i64]:=⟨fun (c,(w : Int),_)=>0 <= (celOf c).cap /\ (celOf c).cap <= 4294967296 /\ -17179869184 <= w /\ w <= 17179869184,fun (c,(w : Int),_)=>.si .i64 (roomV (celOf c) w)⟩
set_option maxRecDepth 100000 in
theorem room_ok : FnSpec Tryz.prog 74 _ roomS:=by
 refine FnSpec.of SCb_ok mixed (U:=0) (I:=fun _=>[]) Tryz.func74 rfl (by kernel_rfl) rfl rfl (by decide +kernel) ?_
 rintro ⟨c,(w : Int),⟨⟩⟩ hpre
 obtain ⟨c,rfl⟩:=cel_ex c
 have hpre : 0 <= c.cap /\ c.cap <= 4294967296 /\ -17179869184 <= w /\ w <= 17179869184:=by have : 0 <= (celOf (celD c)).cap /\ (celOf (celD c)).cap <= 4294967296 /\ -17179869184 <= w /\ w <= 17179869184:=hpre; rwa [celOf_D] at this
 unfold FnSat
 conv=>arg 2; reduce
 simp [roomS,and_assoc]
 unfold roomV
 omega
def pcS : Spec [.int .i64,.int .i64]:=⟨fun ((x : Int),(o : Int),_)=>-17592186044416 <= x /\ x <= 17592186044416 /\ 1 <= o,fun ((x : Int),(o : Int),_)=>.si .i64 (pcV x o)⟩
set_option maxRecDepth 100000 in
theorem pc_ok : FnSpec Tryz.prog 147 _ pcS:=by
 refine FnSpec.of SCb_ok mixed (U:=0) (I:=fun _=>[]) Tryz.func147 rfl (by kernel_rfl) rfl rfl (by decide +kernel) ?_
 rintro ⟨(x : Int),(o : Int),⟨⟩⟩ ⟨(h1 : -17592186044416 <= x),(h2 : x <= 17592186044416),(h3 : 1 <= o)⟩
 unfold FnSat
 conv=>arg 2; reduce
 simp [pcS,divS,and_assoc]
 unfold pcV
 omega
def openS : Spec [.ptr celCells,.int .i64]:=⟨fun (c,(f : Int),_)=>celB (celOf c) = true /\ -1099511627776 <= f /\ f <= 1099511627776,fun (c,(f : Int),_)=>.si .i64 (openV (celOf c) f)⟩
set_option maxRecDepth 100000 in
theorem copen_ok : FnSpec Tryz.prog 144 _ openS:=by
 refine FnSpec.of SCb_ok mixed (U:=0) (I:=fun _=>[]) Tryz.func144 rfl (by kernel_rfl) rfl rfl (by decide +kernel) ?_
 rintro ⟨c,(f : Int),⟨⟩⟩ hpre
 obtain ⟨c,rfl⟩:=cel_ex c
 have hpre : celB c = true /\ -1099511627776 <= f /\ f <= 1099511627776:=by have : celB (celOf (celD c)) = true /\ -1099511627776 <= f /\ f <= 1099511627776:=hpre; rwa [celOf_D] at this
 unfold FnSat
 conv=>arg 2; reduce
 simp [openS,cvalS,and_assoc]
 obtain ⟨hc,f1,f2⟩:=hpre
 have hc:=celB_iff.1 hc
 obtain ⟨m1,m2,-⟩:=hc.max
 have hv:=sc_val hc.ocv f
 have e : atL c.ocv f = valL c.ocv f:=atL_val (scB_iff.1 hc.ocv).1 (by omega) (by omega)
 rw [e]
 have:=hc.sh0
 have:=hc.sh1
 unfold openV
 exact ⟨m1,m2,by omega,by omega,rfl⟩
def resS : Spec [.ptr celCells,.int .i64,.int .i64]:=⟨fun (c,(t : Int),(w : Int),_)=>celB (celOf c) = true /\ 0 <= t /\ t <= 400000 /\ 0 <= w /\ w <= 17179869184,fun (c,(t : Int),(w : Int),_)=>.si .i64 (resV (celOf c) t w)⟩
set_option maxRecDepth 100000 in
theorem res_ok : FnSpec Tryz.prog 134 _ resS:=by
 refine FnSpec.of SCb_ok mixed (U:=0) (I:=fun _=>[]) Tryz.func134 rfl (by kernel_rfl) rfl rfl (by decide +kernel) ?_
 rintro ⟨c,(t : Int),(w : Int),⟨⟩⟩ hpre
 obtain ⟨c,rfl⟩:=cel_ex c
 have hpre : celB c = true /\ 0 <= t /\ t <= 400000 /\ 0 <= w /\ w <= 17179869184:=by have : celB (celOf (celD c)) = true /\ 0 <= t /\ t <= 400000 /\ 0 <= w /\ w <= 17179869184:=hpre; rwa [celOf_D] at this
 unfold FnSat
 conv=>arg 2; reduce
 simp [resS,cvalS,divS,clipS,and_assoc]
 obtain ⟨hc,t0,t1,w0,w1⟩:=hpre
 have hc:=celB_iff.1 hc
 obtain ⟨-,-,m1,m2,-⟩:=hc.max
 have hv:=sc_val hc.cold (400000 - t)
 have e : atL c.cold (400000 - t) = valL c.cold (400000 - t):=atL_val (scB_iff.1 hc.cold).1 (by omega) (by omega)
 rw [e]
 have h1:=mul_in w0 w1 hc.gr0 hc.gr1
 have h2:=dvI_le (a:=w * c.grow) (d:=65536) (m:=274877906944) (by decide) (by omega)
 have h3:=dvI_nonneg (a:=w * c.grow) (d:=65536) (by decide) h1.1
 have:=hc.ex0
 have:=hc.ex1
 unfold resV
 exact ⟨by omega,by omega,m1,m2,by omega,by omega,by omega,by omega,by omega,by omega,by omega,by omega,rfl⟩
def slackS : Spec [.ptr celCells,.int .i64,.int .i64]:=⟨fun (c,(o : Int),(p : Int),_)=>0 <= (celOf c).keep /\ (celOf c).keep <= 65536 /\ -8388608 <= o /\ o <= 8388608 /\ -1099511627776 <= p /\ p <= 1099511627776,fun (c,(o : Int),(p : Int),_)=>.si .i64 (slackV (celOf c) o p)⟩
set_option maxRecDepth 100000 in
theorem slack_ok : FnSpec Tryz.prog 109 _ slackS:=by
 refine FnSpec.of SCb_ok mixed (U:=0) (I:=fun _=>[]) Tryz.func109 rfl (by kernel_rfl) rfl rfl (by decide +kernel) ?_
 rintro ⟨c,(o : Int),(p : Int),⟨⟩⟩ hpre
 obtain ⟨c,rfl⟩:=cel_ex c
 have hpre : 0 <= c.keep /\ c.keep <= 65536 /\ -8388608 <= o /\ o <= 8388608 /\ -1099511627776 <= p /\ p <= 1099511627776:=by have : 0 <= (celOf (celD c)).keep /\ (celOf (celD c)).keep <= 65536 /\ -8388608 <= o /\ o <= 8388608 /\ -1099511627776 <= p /\ p <= 1099511627776:=hpre; rwa [celOf_D] at this
 unfold FnSat
 conv=>arg 2; reduce
 simp [slackS,divS,clipS,and_assoc]
 obtain ⟨k0,k1,o0,o1,q0,q1⟩:=hpre
 have h1:=mul_ab (a:=o) (b:=1000 * c.keep) (A:=8388608) (B:=65536000) o0 o1 (by omega) (by omega)
 have h2:=mul_ab (a:=p) (b:=65536 - c.keep) (A:=1099511627776) (B:=65536) q0 q1 (by omega) (by omega)
 rw [Int.mul_comm o] at h1
 rw [Int.mul_comm p] at h2
 unfold slackV
 exact ⟨by omega,by omega,by omega,by omega,by omega,by omega,by omega,by omega,by omega,by omega,by omega,by omega,rfl⟩
attribute [local irreducible] FnSat
def ccheckS : Spec [celSh]:=⟨fun (c,_)=>CelMax (celOf c),fun (c,_)=>.si .i64 (errA (celB (celOf c)))⟩
set_option maxRecDepth 100000 in
set_option maxHeartbeats 2000000 in
theorem ccheck_ok : FnSpec Tryz.prog 31 _ ccheckS:=by
 refine FnSpec.of SCb_ok mixed (U:=12) (I:=fun _=>[]) Tryz.func31 rfl (by kernel_rfl) rfl rfl (by decide +kernel) ?_
 rintro ⟨c,⟨⟩⟩ hpre
 obtain ⟨c,rfl⟩:=cel_ex c
 have hpre : CelMax c:=by have : CelMax (celOf (celD c)):=hpre; rwa [celOf_D] at this
 obtain ⟨p1,p2,p3,p4,p5,p6⟩:=hpre
 unfold FnSat
 conv=>arg 2; reduce
 simp [ccheckS,betS,scaleS,and_assoc]
 have no : (CelOK c -> False) -> 2 = errA (celB c):=fun h=>by rw [celB_no h]; simp [errA]
 refine ⟨fun h=>no fun k=>by have:=k.cap0; have:=k.cap1; omega,fun q0 q1=>⟨fun h=>no fun k=>by have:=k.sh0; have:=k.sh1; omega,fun q2 q3=>⟨fun h=>no fun k=>by have:=k.ex0; have:=k.ex1; omega,fun q4 q5=>⟨fun h=>no fun k=>by have:=k.pr0; have:=k.pr1; omega,fun q6 q7=>⟨fun h=>no fun k=>by have:=k.lk0; have:=k.lk1; omega,fun q8 q9=>⟨fun h=>no fun k=>by have:=k.kp0; have:=k.kp1; omega,fun q10 q11=>⟨fun h=>no fun k=>by have:=k.co0; have:=k.co1; omega,fun q12 q13=>⟨fun h=>no fun k=>by have:=k.hc0; have:=k.hc1; omega,fun q14 q15=>⟨fun h=>no fun k=>by have:=k.cy0; have:=k.cy1; omega,fun q16 q17=>⟨fun h=>no fun k=>by have:=k.al0; have:=k.al1; omega,fun q18 q19=>⟨fun h=>no fun k=>by have:=k.gr0; have:=k.gr1; omega,fun q20 q21=>⟨p1,p2,fun _=>⟨p3,p4⟩,fun _ _=>⟨p5,p6⟩,fun h=>no fun k=>?_,fun h1 h2 h3=>?_⟩⟩⟩⟩⟩⟩⟩⟩⟩⟩⟩⟩
 ·rw [k.ocv,k.cold,k.stress] at h; simp at h
 ·rw [celB_iff.2 ⟨q0,q1,q2,q3,q4,q5,q6,q7,q8,q9,q10,q11,q12,q13,q14,q15,q16,q17,q18,q19,q20,q21,h1,h2,h3⟩]; simp [errA]
noncomputable def SCd : Sums:=⟨(31,mkSum _ ccheckS) :: (109,mkSum _ slackS) :: (134,mkSum _ resS) :: (144,mkSum _ openS) :: (147,mkSum _ pcS) :: (74,mkSum _ roomS) :: (75,mkSum _ wearS) :: SCb.one,SCb.two,SCb.lo,SCb.eqs,SCb.its,SCb.imm⟩
theorem SCd_ok : SumsOK Tryz.prog SCd:=(((((((SCb_ok.cons Tryz.func75 (by kernel_rfl) (by kernel_rfl) wear_ok).cons Tryz.func74 (by kernel_rfl) (by kernel_rfl) room_ok).cons Tryz.func147 (by kernel_rfl) (by kernel_rfl) pc_ok).cons Tryz.func144 (by kernel_rfl) (by kernel_rfl) copen_ok).cons Tryz.func134 (by kernel_rfl) (by kernel_rfl) res_ok).cons Tryz.func109 (by kernel_rfl) (by kernel_rfl) slack_ok).cons Tryz.func31 (by kernel_rfl) (by kernel_rfl) ccheck_ok)
end
end Abs
end Go.Proofs.YtlacopdaibhkkaaGreat

namespace Go.Proofs.YtlacopdaibhkkaaGreat
namespace Abs
open Go Go.RowKit
noncomputable section
structure StOK (c : Cel) (s : Sta) : Prop where
 t0 : 0 <= s.tp
 t1 : s.tp <= 400000
 h0 : 0 <= s.th
 h1 : s.th <= 1099511627776
 a0 : 0 <= s.ag
 a1 : s.ag <= 1099511627776
 r0 : -8388608 <= s.rx
 r1 : s.rx <= 8388608
 q0 : 0 <= s.q
 q1 : s.q <= roomV c (wearV c s.th s.ag)
open Classical in
@[irreducible] def stB (c : Cel) (s : Sta) : Bool:=decide (StOK c s)
theorem stB_iff {c : Cel} {s : Sta} : stB c s = true ↔ StOK c s:=by unfold stB; simp
theorem stB_no {c : Cel} {s : Sta} (h : StOK c s -> False) : stB c s = false:=by
 cases hb : stB c s with
 | false=>rfl
 | true=>exact (h (stB_iff.1 hb)).elim
@[irreducible] def csE (c : Cel) (s : Sta) : Int:=match celB c with | true=>(match stB c s with | true=>0 | false=>3) | false=>2
theorem csE_2 {c : Cel} {s : Sta} (h : celB c = false) : csE c s = 2:=by unfold csE; rw [h]
theorem csE_3 {c : Cel} {s : Sta} (h : celB c = true) (h2 : StOK c s -> False) : csE c s = 3:=by unfold csE; rw [h,stB_no h2]
theorem csE_0 {c : Cel} {s : Sta} (h : celB c = true) (h2 : StOK c s) : csE c s = 0:=by unfold csE; rw [h,stB_iff.2 h2]
theorem csE_iff {c : Cel} {s : Sta} : csE c s = 0 ↔ celB c = true /\ StOK c s:=by
 unfold csE
 cases h : celB c with
 | false=>simp
 | true=>cases h2 : stB c s with
   | false=>simp; intro h3; rw [stB_iff.2 h3] at h2; cases h2
   | true=>simp; exact stB_iff.1 h2
attribute [local irreducible] FnSat
def cstS : Spec [celSh,staSh]:=⟨fun (c,_)=>CelMax (celOf c),fun (c,s,_)=>.si .i64 (csE (celOf c) (staOf s))⟩
set_option maxRecDepth 100000 in
set_option maxHeartbeats 2000000 in
theorem cst_ok : FnSpec Tryz.prog 33 _ cstS:=by
 refine FnSpec.of SCd_ok mixed (U:=0) (I:=fun _=>[]) Tryz.func33 rfl (by kernel_rfl) rfl rfl (by decide +kernel) ?_
 rintro ⟨c,s,⟨⟩⟩ hpre
 obtain ⟨c,rfl⟩:=cel_ex c
 obtain ⟨s,rfl⟩:=sta_ex s
 have hpre : CelMax c:=by have : CelMax (celOf (celD c)):=hpre; rwa [celOf_D] at this
 unfold FnSat
 conv=>arg 2; reduce
 simp [cstS,betS,ccheckS,wearS,roomS,and_assoc]
 refine ⟨hpre,fun h=>by rw [csE_2 h,h]; simp [errA],fun h=>⟨fun h'=>(csE_3 h fun k=>?_).symm,fun t0 t1 h0 h1 a0 a1 r0 r1=>?_⟩⟩
 ·have:=k.t0
  have:=k.t1
  have:=k.h0
  have:=k.h1
  have:=k.a0
  have:=k.a1
  have:=k.r0
  have:=k.r1
  omega
 ·have hc:=celB_iff.1 h
  have hw : WearOK c s.th s.ag:=⟨hc.cy0,hc.cy1,hc.al0,hc.al1,h0,by omega,a0,by omega⟩
  have hw2:=wearV_in hw
  refine ⟨hw,by have:=hc.cap0; omega,hc.cap1,by omega,by omega,fun h'=>(csE_3 h fun k=>?_).symm,fun q0 q1=>(csE_0 h ⟨t0,t1,h0,h1,a0,a1,r0,r1,q0,q1⟩).symm⟩
  have:=k.q0
  have:=k.q1
  omega
noncomputable def SCe : Sums:=⟨(33,mkSum _ cstS) :: SCd.one,SCd.two,SCd.lo,SCd.eqs,SCd.its,SCd.imm⟩
theorem SCe_ok : SumsOK Tryz.prog SCe:=(SCd_ok.cons Tryz.func33 (by kernel_rfl) (by kernel_rfl) cst_ok)
end
end Abs
end Go.Proofs.YtlacopdaibhkkaaGreat

namespace Go.Proofs.YtlacopdaibhkkaaGreat
namespace Abs
open Go Go.RowKit
noncomputable section
@[irreducible] def wV (c : Cel) (s : Sta) : Int:=wearV c s.th s.ag
@[irreducible] def kV (c : Cel) (s : Sta) : Int:=roomV c (wV c s)
@[irreducible] def rV (c : Cel) (s : Sta) : Int:=resV c s.tp (wV c s)
@[irreducible] def fillV (c : Cel) (s : Sta) : Int:=pcV s.q (kV c s)
@[irreducible] def opnV (c : Cel) (s : Sta) : Int:=openV c (fillV c s)
@[irreducible] def voltV (c : Cel) (s : Sta) (i : Int) : Int:=opnV c s - s.rx - dvI (i * rV c s) 1000
@[irreducible] def heatV (c : Cel) (s : Sta) (i : Int) : Int:=dvI (i * i * rV c s) 1000000000 + (if 0 < c.pair then dvI (s.rx * s.rx) (1000 * c.pair) else 0)
@[reducible] def vwCells : List Sh:=[.ptr celCells,.int .i64,.int .i64,.int .i64,.int .i64,.int .i64,.int .i64,.int .i64,.int .i64]
@[reducible] def vwSh : Sh:=.agg vwCells
abbrev VwD:=CelD × Int × Int × Int × Int × Int × Int × Int × Int × Unit
@[reducible] def vwD (c : Cel) (s : Sta) : VwD:=(celD c,s.q,s.rx,s.tp,s.th,s.ag,wV c s,kV c s,rV c s,())
@[irreducible] def vwC (v : VwD) : Cel:=celOf v.1
@[irreducible] def vwS (v : VwD) : Sta:=⟨v.2.1,v.2.2.1,v.2.2.2.1,v.2.2.2.2.1,v.2.2.2.2.2.1⟩
structure VwOK (v : VwD) : Prop where
 cel : celB (vwC v) = true
 sta : StOK (vwC v) (vwS v)
 wear : v.2.2.2.2.2.2.1 = wV (vwC v) (vwS v)
 room : v.2.2.2.2.2.2.2.1 = kV (vwC v) (vwS v)
 res : v.2.2.2.2.2.2.2.2.1 = rV (vwC v) (vwS v)
theorem vwC_D (c : Cel) (s : Sta) : vwC (vwD c s) = c:=by unfold vwC; exact celOf_D c
theorem vwS_D (c : Cel) (s : Sta) : vwS (vwD c s) = s:=by
 unfold vwS
 show Sta.mk s.q s.rx s.tp s.th s.ag = s
 unfold Sta.q Sta.rx Sta.tp Sta.th Sta.ag
 rfl
theorem vw_ok {c : Cel} {s : Sta} (h : celB c = true) (hs : StOK c s) : VwOK (vwD c s):=by
 refine ⟨?_,?_,?_,?_,?_⟩ <;> rw [vwC_D]
 ·exact h
 ·rw [vwS_D]; exact hs
 ·rw [vwS_D]
 ·rw [vwS_D]
 ·rw [vwS_D]
theorem vw_ex {v : VwD} (h : VwOK v) : ∃ (c : Cel) (s : Sta),v = vwD c s /\ celB c = true /\ StOK c s:=by
 refine ⟨vwC v,vwS v,?_,h.cel,h.sta⟩
 have h1:=h.wear
 have h2:=h.room
 have h3:=h.res
 obtain ⟨x,a,b,d,e,f,w,k,r,⟨⟩⟩:=v
 simp only at h1 h2 h3
 obtain ⟨c,rfl⟩:=cel_ex x
 unfold vwD
 rw [<- h1,<- h2,<- h3]
 have e1 : vwC (celD c,a,b,d,e,f,w,k,r,()) = c:=by unfold vwC; exact celOf_D c
 rw [e1]
 unfold vwS
 simp
theorem wV_in {c : Cel} {s : Sta} (h : celB c = true) (hs : StOK c s) : 0 <= wV c s /\ wV c s <= 4294967296:=by
 have hc:=celB_iff.1 h
 have:=hs.h1
 have:=hs.a1
 have hw : WearOK c s.th s.ag:=⟨hc.cy0,hc.cy1,hc.al0,hc.al1,hs.h0,by omega,hs.a0,by omega⟩
 have:=wearV_in hw
 unfold wV
 exact this
theorem kV_in {c : Cel} {s : Sta} (h : celB c = true) (hs : StOK c s) : 1 <= kV c s /\ kV c s <= 4294967296:=by
 have hc:=celB_iff.1 h
 have h1:=wV_in h hs
 have h2:=@roomV_in c (wV c s)
 have:=h2.2 h1.1 hc.cap0
 have:=hc.cap1
 unfold kV
 omega
theorem rV_in {c : Cel} {s : Sta} : 0 <= rV c s /\ rV c s <= 1048576:=by unfold rV resV; exact clipV_in (by decide)
theorem q_in {c : Cel} {s : Sta} (hs : StOK c s) : 0 <= s.q /\ s.q <= kV c s:=by
 have h1:=hs.q0
 have h2:=hs.q1
 unfold kV wV
 exact ⟨h1,h2⟩
theorem fillV_in {c : Cel} {s : Sta} (h : celB c = true) (hs : StOK c s) : 0 <= fillV c s /\ fillV c s <= 65536:=by
 have h1:=kV_in h hs
 have h2:=q_in hs
 have:=dvI_nonneg (a:=s.q * 65536) (d:=kV c s) h1.1 (by omega)
 unfold fillV pcV
 omega
theorem opnV_in {c : Cel} {s : Sta} (h : celB c = true) : -8388608 <= opnV c s /\ opnV c s <= 16777216:=by
 have hc:=celB_iff.1 h
 have:=sc_val hc.ocv (fillV c s)
 have:=hc.sh0
 have:=hc.sh1
 unfold opnV openV
 omega
theorem encL_cel (c : Cel) : encL celCells (celD c) = [.si .i64 c.cap,.slc (.sym c.ocv.nx) 1 (fun k=>[.si .i64 (c.ocv.x k)]),.slc (.sym c.ocv.ny) 1 (fun k=>[.si .i64 (c.ocv.y k)]),.si .i64 c.shift,
  .slc (.sym c.cold.nx) 1 (fun k=>[.si .i64 (c.cold.x k)]),.slc (.sym c.cold.ny) 1 (fun k=>[.si .i64 (c.cold.y k)]),.si .i64 c.extra,.si .i64 c.pair,.si .i64 c.keep,.si .i64 c.leak,.si .i64 c.hcap,.si .i64 c.cool,
  .slc (.sym c.stress.nx) 1 (fun k=>[.si .i64 (c.stress.x k)]),.slc (.sym c.stress.ny) 1 (fun k=>[.si .i64 (c.stress.y k)]),.si .i64 c.cyc,.si .i64 c.agel,.si .i64 c.grow]:=rfl
theorem sq_in {a A : Int} (h0 : -A <= a) (h1 : a <= A) : 0 <= a * a /\ a * a <= A * A:=by
 rcases Int.lt_or_le a 0 with h | h
 ·have:=mul_in (a:=-a) (b:=-a) (A:=A) (B:=A) (by omega) (by omega) (by omega) (by omega)
  rwa [Int.neg_mul_neg] at this
 ·exact mul_in h h1 h h1
attribute [local irreducible] FnSat
def lookF : SpecF [.cells 54 celCells] [.own 0 0,staSh] :=
 ⟨fun (c,_) (_,s,_)=>celB (celOf c) = true /\ StOK (celOf c) (staOf s),fun (c,_) (_,s,_)=>.agg [.own 0 0,.si .i64 (staOf s).q,.si .i64 (staOf s).rx,.si .i64 (staOf s).tp,.si .i64 (staOf s).th,.si .i64 (staOf s).ag,.si .i64 (wV (celOf c) (staOf s)),.si .i64 (kV (celOf c) (staOf s)),.si .i64 (rV (celOf c) (staOf s))],
  fun (c,_) _=>encH [.cells 54 celCells] (c,())⟩
set_option maxRecDepth 100000 in
set_option maxHeartbeats 1000000 in
theorem look_ok : FnSpecF Tryz.prog 108 _ _ lookF:=by
 refine FnSpecF.of SCe_ok mixed (U:=0) (I:=fun _ _=>[]) Tryz.func108 rfl (by kernel_rfl) rfl (by decide +kernel) ?_
 rintro ⟨c,⟨⟩⟩ ⟨⟨⟩,s,⟨⟩⟩ hpre
 obtain ⟨c,rfl⟩:=cel_ex c
 obtain ⟨s,rfl⟩:=sta_ex s
 have hp : celB c = true /\ StOK c s:=by
  have h : celB (celOf (celD c)) = true /\ StOK (celOf (celD c)) (staOf (staD s)):=hpre
  rwa [celOf_D,staOf_D] at h
 unfold FnSat
 conv=>arg 2; reduce
 simp [lookF,wearS,roomS,resS,aliveB,getB,encH,encB,encL_cel,ElEq,and_assoc]
 obtain ⟨h1,h2⟩:=hp
 have hc:=celB_iff.1 h1
 have w:=wV_in h1 h2
 unfold wV at w
 have:=hc.cap0
 have:=h2.h1
 have:=h2.a1
 exact ⟨⟨hc.cy0,hc.cy1,hc.al0,hc.al1,h2.h0,by omega,h2.a0,by omega⟩,by omega,hc.cap1,by omega,by omega,h1,h2.t0,h2.t1,by omega,by omega,by unfold wV; rfl,by unfold kV wV; rfl,by unfold rV wV; rfl⟩
noncomputable def SCf : Sums:=⟨SCe.one,(108,mkSumF _ _ lookF) :: SCe.two,SCe.lo,SCe.eqs,SCe.its,SCe.imm⟩
theorem SCf_ok : SumsOK Tryz.prog SCf:=SCe_ok.addTwo Tryz.func108 (by kernel_rfl) (by kernel_rfl) (mkSumF_ok look_ok)
def fillS' : Spec [vwSh]:=⟨fun (v,_)=>VwOK v,fun (v,_)=>.si .i64 (fillV (vwC v) (vwS v))⟩
set_option maxRecDepth 100000 in
theorem vfill_ok : FnSpec Tryz.prog 145 _ fillS':=by
 refine FnSpec.of SCe_ok mixed (U:=0) (I:=fun _=>[]) Tryz.func145 rfl (by kernel_rfl) rfl rfl (by decide +kernel) ?_
 rintro ⟨v,⟨⟩⟩ hpre
 obtain ⟨c,s,rfl,h1,h2⟩:=vw_ex (show VwOK v from hpre)
 have e1:=vwC_D c s
 have e2:=vwS_D c s
 unfold FnSat
 conv=>arg 2; reduce
 simp [fillS',pcS,e1,e2,and_assoc]
 have k:=kV_in h1 h2
 have q:=q_in h2
 exact ⟨by omega,by omega,k.1,by unfold fillV; rfl⟩
noncomputable def SCg : Sums:=⟨(145,mkSum _ fillS') :: SCf.one,SCf.two,SCf.lo,SCf.eqs,SCf.its,SCf.imm⟩
theorem SCg_ok : SumsOK Tryz.prog SCg:=(SCf_ok.cons Tryz.func145 (by kernel_rfl) (by kernel_rfl) vfill_ok)
def vopenS : Spec [vwSh]:=⟨fun (v,_)=>VwOK v,fun (v,_)=>.si .i64 (opnV (vwC v) (vwS v))⟩
set_option maxRecDepth 100000 in
theorem vopen_ok : FnSpec Tryz.prog 132 _ vopenS:=by
 refine FnSpec.of SCg_ok mixed (U:=0) (I:=fun _=>[]) Tryz.func132 rfl (by kernel_rfl) rfl rfl (by decide +kernel) ?_
 rintro ⟨v,⟨⟩⟩ hpre
 obtain ⟨c,s,rfl,h1,h2⟩:=vw_ex (show VwOK v from hpre)
 have e1:=vwC_D c s
 have e2:=vwS_D c s
 unfold FnSat
 conv=>arg 2; reduce
 simp [vopenS,fillS',openS,e1,e2,and_assoc]
 have f:=fillV_in h1 h2
 exact ⟨vw_ok h1 h2,h1,by omega,by omega,by unfold opnV; rfl⟩
noncomputable def SCh : Sums:=⟨(132,mkSum _ vopenS) :: SCg.one,SCg.two,SCg.lo,SCg.eqs,SCg.its,SCg.imm⟩
theorem SCh_ok : SumsOK Tryz.prog SCh:=(SCg_ok.cons Tryz.func132 (by kernel_rfl) (by kernel_rfl) vopen_ok)
def vvoltS : Spec [vwSh,.int .i64]:=⟨fun (v,(i : Int),_)=>VwOK v /\ -1048576 <= i /\ i <= 1048576,fun (v,(i : Int),_)=>.si .i64 (voltV (vwC v) (vwS v) i)⟩
set_option maxRecDepth 100000 in
theorem vvolt_ok : FnSpec Tryz.prog 121 _ vvoltS:=by
 refine FnSpec.of SCh_ok mixed (U:=0) (I:=fun _=>[]) Tryz.func121 rfl (by kernel_rfl) rfl rfl (by decide +kernel) ?_
 rintro ⟨v,(i : Int),⟨⟩⟩ ⟨hv,(i1 : -1048576 <= i),(i2 : i <= 1048576)⟩
 obtain ⟨c,s,rfl,h1,h2⟩:=vw_ex (show VwOK v from hv)
 have e1:=vwC_D c s
 have e2:=vwS_D c s
 unfold FnSat
 conv=>arg 2; reduce
 simp [vvoltS,vopenS,divS,e1,e2,and_assoc]
 have o:=opnV_in (s:=s) h1
 have r:=@rV_in c s
 have m:=mul_ab (a:=i) (b:=rV c s) (A:=1048576) (B:=1048576) i1 i2 r.1 r.2
 have d1:=dvI_le (a:=i * rV c s) (d:=1000) (m:=1099511628) (by decide) (by omega)
 have d2:=dvI_ge (a:=i * rV c s) (d:=1000) (m:=-1099511628) (by decide) (by omega)
 have:=h2.r0
 have:=h2.r1
 exact ⟨vw_ok h1 h2,by omega,by omega,by omega,by omega,by omega,by omega,by omega,by omega,by unfold voltV; rfl⟩
def vheatS : Spec [vwSh,.int .i64]:=⟨fun (v,(i : Int),_)=>VwOK v /\ -1048576 <= i /\ i <= 1048576,fun (v,(i : Int),_)=>.si .i64 (heatV (vwC v) (vwS v) i)⟩
set_option maxRecDepth 100000 in
theorem vheat_ok : FnSpec Tryz.prog 111 _ vheatS:=by
 refine FnSpec.of SCh_ok mixed (U:=0) (I:=fun _=>[]) Tryz.func111 rfl (by kernel_rfl) rfl rfl (by decide +kernel) ?_
 rintro ⟨v,(i : Int),⟨⟩⟩ ⟨hv,(i1 : -1048576 <= i),(i2 : i <= 1048576)⟩
 obtain ⟨c,s,rfl,h1,h2⟩:=vw_ex (show VwOK v from hv)
 have e1:=vwC_D c s
 have e2:=vwS_D c s
 unfold FnSat
 conv=>arg 2; reduce
 simp [vheatS,divS,e1,e2,and_assoc]
 have hc:=celB_iff.1 h1
 have r:=@rV_in c s
 have m1:=sq_in i1 i2
 have m2:=mul_in m1.1 m1.2 r.1 r.2
 have:=h2.r0
 have:=h2.r1
 have m3:=sq_in (a:=s.rx) (A:=8388608) (by omega) (by omega)
 have d1:=dvI_le (a:=i * i * rV c s) (d:=1000000000) (m:=1152921505) (by decide) (by omega)
 have d2:=dvI_nonneg (a:=i * i * rV c s) (d:=1000000000) (by decide) m2.1
 have:=hc.pr1
 refine ⟨by omega,by omega,by omega,by omega,by omega,by omega,fun hp=>?_,fun hp=>?_⟩
 ·have d3:=dvI_le (a:=s.rx * s.rx) (d:=1000 * c.pair) (m:=70368744177664) (by omega) (by omega)
  have d4:=dvI_nonneg (a:=s.rx * s.rx) (d:=1000 * c.pair) (by omega) m3.1
  exact ⟨by omega,by omega,by omega,by omega,by omega,by omega,by omega,by omega,by omega,by unfold heatV; rw [if_pos hp]⟩
 ·unfold heatV
  rw [if_neg (by omega)]
  omega
noncomputable def SCi : Sums:=⟨(111,mkSum _ vheatS) :: (121,mkSum _ vvoltS) :: SCh.one,SCh.two,SCh.lo,SCh.eqs,SCh.its,SCh.imm⟩
theorem SCi_ok : SumsOK Tryz.prog SCi:=((SCh_ok.cons Tryz.func121 (by kernel_rfl) (by kernel_rfl) vvolt_ok).cons Tryz.func111 (by kernel_rfl) (by kernel_rfl) vheat_ok)
@[irreducible] def nxT (c : Cel) (s : Sta) (i a : Int) : Int:=clipV (s.tp + dvI (1000 * heatV c s i) c.hcap + dvI ((a - s.tp) * c.cool) 65536) 0 400000
@[irreducible] def nxH (s : Sta) (i : Int) : Int:=s.th + max i (-i)
@[irreducible] def nxA (c : Cel) (s : Sta) : Int:=s.ag + valL c.stress s.tp
@[irreducible] def nxQ (c : Cel) (s : Sta) (i : Int) : Int:=clipV (s.q - i - c.leak) 0 (roomV c (wearV c (nxH s i) (nxA c s)))
@[irreducible] def nxR (c : Cel) (s : Sta) (i : Int) : Int:=slackV c s.rx (i * c.pair)
@[reducible] def inSh : Sh:=.agg [.int .i64,.int .i64]
def vnextS : Spec [vwSh,inSh]:=⟨fun (v,((i : Int),(a : Int),_),_)=>VwOK v /\ -1048576 <= i /\ i <= 1048576 /\ 0 <= a /\ a <= 400000,fun (v,((i : Int),(a : Int),_),_) =>
 .agg [.si .i64 (nxQ (vwC v) (vwS v) i),.si .i64 (nxR (vwC v) (vwS v) i),.si .i64 (nxT (vwC v) (vwS v) i a),.si .i64 (nxH (vwS v) i),.si .i64 (nxA (vwC v) (vwS v))]⟩
end
end Abs
end Go.Proofs.YtlacopdaibhkkaaGreat

namespace Go.Proofs.YtlacopdaibhkkaaGreat
namespace Abs
open Go Go.RowKit
noncomputable section
attribute [local irreducible] FnSat
theorem heatV_in {c : Cel} {s : Sta} {i : Int} (h1 : celB c = true) (h2 : StOK c s) (i1 : -1048576 <= i) (i2 : i <= 1048576) : 0 <= heatV c s i /\ heatV c s i <= 71530000000000:=by
 have hc:=celB_iff.1 h1
 have r:=@rV_in c s
 have m1:=sq_in i1 i2
 have m2:=mul_in m1.1 m1.2 r.1 r.2
 have:=h2.r0
 have:=h2.r1
 have m3:=sq_in (a:=s.rx) (A:=8388608) (by omega) (by omega)
 have d1:=dvI_le (a:=i * i * rV c s) (d:=1000000000) (m:=1152921505) (by decide) (by omega)
 have d2:=dvI_nonneg (a:=i * i * rV c s) (d:=1000000000) (by decide) m2.1
 unfold heatV
 split
 ·have d3:=dvI_le (a:=s.rx * s.rx) (d:=1000 * c.pair) (m:=70368744177664) (by omega) (by omega)
  have d4:=dvI_nonneg (a:=s.rx * s.rx) (d:=1000 * c.pair) (by omega) m3.1
  omega
 ·omega
set_option maxRecDepth 100000 in
set_option maxHeartbeats 2000000 in
theorem vnext_ok : FnSpec Tryz.prog 79 _ vnextS:=by
 refine FnSpec.of SCi_ok mixed (U:=0) (I:=fun _=>[]) Tryz.func79 rfl (by kernel_rfl) rfl rfl (by decide +kernel) ?_
 rintro ⟨v,⟨(i : Int),(a : Int),⟨⟩⟩,⟨⟩⟩ ⟨hv,(i1 : -1048576 <= i),(i2 : i <= 1048576),(a1 : 0 <= a),(a2 : a <= 400000)⟩
 obtain ⟨c,s,rfl,h1,h2⟩:=vw_ex (show VwOK v from hv)
 have e1:=vwC_D c s
 have e2:=vwS_D c s
 unfold FnSat
 conv=>arg 2; reduce
 simp [vnextS,vheatS,divS,slackS,clipS,cvalS,wearS,roomS,e1,e2,and_assoc]
 have hc:=celB_iff.1 h1
 have hcm:=hc.max
 unfold CelMax at hcm
 have est : atL c.stress s.tp = valL c.stress s.tp:=by
  have:=h2.t0
  have:=h2.t1
  exact atL_val (scB_iff.1 hc.stress).1 (by omega) (by omega)
 rw [est]
 have vs:=sc_val hc.stress s.tp
 have r:=@rV_in c s
 have m1:=sq_in i1 i2
 have m2:=mul_in m1.1 m1.2 r.1 r.2
 have m3:=sq_in (a:=s.rx) (A:=8388608) (by have:=h2.r0; omega) (by have:=h2.r1; omega)
 have hh:=heatV_in h1 h2 i1 i2
 have d1:=dvI_le (a:=1000 * heatV c s i) (d:=c.hcap) (m:=71530000000000000) hc.hc0 (by
  have:=Int.mul_le_mul_of_nonneg_left hc.hc0 (show (0 : Int) <= 71530000000000000 by decide)
  omega)
 have d2:=dvI_nonneg (a:=1000 * heatV c s i) (d:=c.hcap) hc.hc0 (by omega)
 have:=h2.t0
 have:=h2.t1
 have:=h2.h0
 have:=h2.h1
 have:=h2.a0
 have:=h2.a1
 have:=h2.q0
 have q1:=q_in h2
 have k1:=kV_in h1 h2
 have m4:=mul_ab (a:=a - s.tp) (b:=c.cool) (A:=400000) (B:=65536) (by omega) (by omega) hc.co0 hc.co1
 have m5:=mul_ab (a:=i) (b:=c.pair) (A:=1048576) (B:=1048576) i1 i2 hc.pr0 hc.pr1
 have d3:=dvI_le (a:=(a - s.tp) * c.cool) (d:=65536) (m:=400000) (by decide) (by omega)
 have d4:=dvI_ge (a:=(a - s.tp) * c.cool) (d:=65536) (m:=-400000) (by decide) (by omega)
 have:=hc.lk0
 have:=hc.lk1
 have hw : WearOK c (s.th + max i (-i)) (s.ag + valL c.stress s.tp):=⟨hc.cy0,hc.cy1,hc.al0,hc.al1,by omega,by omega,by omega,by omega⟩
 have hw2:=wearV_in hw
 have e3 : wearV c (s.th + max i (-i)) (s.ag + valL c.stress s.tp) = wearV c (nxH s i) (nxA c s):=by unfold nxH nxA; rfl
 exact ⟨by omega,by omega,hc.kp0,hc.kp1,h2.r0,h2.r1,by omega,by omega,vw_ok h1 h2,i1,i2,by omega,by omega,by omega,by omega,hc.hc0,by omega,by omega,by omega,by omega,by omega,by omega,by omega,by omega,
  by omega,by omega,by omega,by omega,by omega,by omega,hcm.2.2.2.2.1,hcm.2.2.2.2.2,by omega,by omega,by omega,by omega,by omega,by omega,hw,by have:=hc.cap0; omega,hc.cap1,by omega,by omega,
  by unfold nxQ; rw [e3],by unfold nxR; rfl,by unfold nxT; rfl,by unfold nxH; rfl,by unfold nxA; rfl⟩
end
end Abs
end Go.Proofs.YtlacopdaibhkkaaGreat

namespace Go.Proofs.YtlacopdaibhkkaaGreat
namespace Abs
open Go Go.RowKit
noncomputable section
attribute [local irreducible] FnSat
@[irreducible] def aV (c : Cel) (s : Sta) (x : Int) : Int:=if csE c s = 0 then x else 0
@[irreducible] def aE (c : Cel) (s : Sta) (e : Int) : Int:=if csE c s = 0 then e else csE c s
def opnS1 : Spec [vwSh]:=⟨fun (v,_)=>VwOK v,fun (v,_)=>.tup [.si .i64 (opnV (vwC v) (vwS v)),.si .i64 0]⟩
set_option maxRecDepth 100000 in
theorem opn_ok1 : FnSpec Tryz.prog 131 _ opnS1:=by
 refine FnSpec.of SCi_ok mixed (U:=0) (I:=fun _=>[]) Tryz.func131 rfl (by kernel_rfl) rfl rfl (by decide +kernel) ?_
 rintro ⟨v,⟨⟩⟩ hpre
 obtain ⟨c,s,rfl,h1,h2⟩:=vw_ex (show VwOK v from hpre)
 have e1:=vwC_D c s
 have e2:=vwS_D c s
 unfold FnSat
 conv=>arg 2; reduce
 simp [opnS1,vopenS,e1,e2,and_assoc]
 exact vw_ok h1 h2
def rsiS1 : Spec [vwSh]:=⟨fun (v,_)=>VwOK v,fun (v,_)=>.tup [.si .i64 (rV (vwC v) (vwS v)),.si .i64 0]⟩
set_option maxRecDepth 100000 in
theorem rsi_ok1 : FnSpec Tryz.prog 133 _ rsiS1:=by
 refine FnSpec.of SCi_ok mixed (U:=0) (I:=fun _=>[]) Tryz.func133 rfl (by kernel_rfl) rfl rfl (by decide +kernel) ?_
 rintro ⟨v,⟨⟩⟩ hpre
 obtain ⟨c,s,rfl,h1,h2⟩:=vw_ex (show VwOK v from hpre)
 have e1:=vwC_D c s
 have e2:=vwS_D c s
 unfold FnSat
 conv=>arg 2; reduce
 simp [rsiS1,e1,e2,and_assoc]
noncomputable def SCj : Sums:=⟨(133,mkSum _ rsiS1) :: (131,mkSum _ opnS1) :: SCi.one,SCi.two,SCi.lo,SCi.eqs,SCi.its,SCi.imm⟩
theorem SCj_ok : SumsOK Tryz.prog SCj:=((SCi_ok.cons Tryz.func131 (by kernel_rfl) (by kernel_rfl) opn_ok1).cons Tryz.func133 (by kernel_rfl) (by kernel_rfl) rsi_ok1)
def opnA : Spec [celSh,staSh,.fn 131 [] []]:=⟨fun (c,_)=>CelMax (celOf c),fun (c,s,_)=>.tup [.si .i64 (aV (celOf c) (staOf s) (opnV (celOf c) (staOf s))),.si .i64 (aE (celOf c) (staOf s) 0)]⟩
set_option maxRecDepth 100000 in
set_option maxHeartbeats 2000000 in
theorem opn_okA : FnSpec Tryz.prog 130 _ opnA:=by
 refine FnSpec.of SCj_ok mixed (U:=0) (I:=fun _=>[]) Tryz.func130 rfl (by kernel_rfl) rfl rfl (by decide +kernel) ?_
 rintro ⟨c,s,x,⟨⟩⟩ hpre
 obtain ⟨c,rfl⟩:=cel_ex c
 obtain ⟨s,rfl⟩:=sta_ex s
 have hpre : CelMax c:=by have : CelMax (celOf (celD c)):=hpre; rwa [celOf_D] at this
 have e1:=vwC_D c s
 have e2:=vwS_D c s
 unfold FnSat
 conv=>arg 2; reduce
 simp [opnA,cstS,lookF,opnS1,e1,e2,and_assoc]
 refine ⟨hpre,fun h=>⟨by unfold aV; rw [if_neg h],by unfold aE; rw [if_neg h]⟩,fun h=>?_⟩
 have k:=csE_iff.1 h
 exact ⟨k.1,k.2,vw_ok k.1 k.2,by unfold aV; rw [if_pos h],by unfold aE; rw [if_pos h]⟩
def rsiA : Spec [celSh,staSh,.fn 133 [] []]:=⟨fun (c,_)=>CelMax (celOf c),fun (c,s,_)=>.tup [.si .i64 (aV (celOf c) (staOf s) (rV (celOf c) (staOf s))),.si .i64 (aE (celOf c) (staOf s) 0)]⟩
set_option maxRecDepth 100000 in
set_option maxHeartbeats 2000000 in
theorem rsi_okA : FnSpec Tryz.prog 130 _ rsiA:=by
 refine FnSpec.of SCj_ok mixed (U:=0) (I:=fun _=>[]) Tryz.func130 rfl (by kernel_rfl) rfl rfl (by decide +kernel) ?_
 rintro ⟨c,s,x,⟨⟩⟩ hpre
 obtain ⟨c,rfl⟩:=cel_ex c
 obtain ⟨s,rfl⟩:=sta_ex s
 have hpre : CelMax c:=by have : CelMax (celOf (celD c)):=hpre; rwa [celOf_D] at this
 have e1:=vwC_D c s
 have e2:=vwS_D c s
 unfold FnSat
 conv=>arg 2; reduce
 simp [rsiA,cstS,lookF,rsiS1,e1,e2,and_assoc]
 refine ⟨hpre,fun h=>⟨by unfold aV; rw [if_neg h],by unfold aE; rw [if_neg h]⟩,fun h=>?_⟩
 have k:=csE_iff.1 h
 exact ⟨k.1,k.2,vw_ok k.1 k.2,by unfold aV; rw [if_pos h],by unfold aE; rw [if_pos h]⟩
noncomputable def SCk : Sums:=⟨(130,(altSum (mkSum _ opnA) (mkSum _ rsiA))) :: SCj.one,SCj.two,SCj.lo,SCj.eqs,SCj.its,SCj.imm⟩
theorem SCk_ok : SumsOK Tryz.prog SCk:=(SCj_ok.add Tryz.func130 (by kernel_rfl) (by kernel_rfl) (altSum_ok (mkSum_ok opn_okA) (mkSum_ok rsi_okA)))
def capS : Spec [celSh,staSh]:=⟨fun (c,_)=>CelMax (celOf c),fun (c,s,_)=>.tup [.si .i64 (aV (celOf c) (staOf s) (kV (celOf c) (staOf s))),.si .i64 (aE (celOf c) (staOf s) 0)]⟩
def opnS : Spec [celSh,staSh]:=⟨fun (c,_)=>CelMax (celOf c),fun (c,s,_)=>.tup [.si .i64 (aV (celOf c) (staOf s) (opnV (celOf c) (staOf s))),.si .i64 (aE (celOf c) (staOf s) 0)]⟩
set_option maxRecDepth 100000 in
theorem opn_ok : FnSpec Tryz.prog 106 _ opnS:=by
 refine FnSpec.of SCk_ok mixed (U:=0) (I:=fun _=>[]) Tryz.func106 rfl (by kernel_rfl) rfl rfl (by decide +kernel) ?_
 rintro ⟨c,s,⟨⟩⟩ hpre
 obtain ⟨c,rfl⟩:=cel_ex c
 obtain ⟨s,rfl⟩:=sta_ex s
 have hpre : CelMax c:=by have : CelMax (celOf (celD c)):=hpre; rwa [celOf_D] at this
 unfold FnSat
 conv=>arg 2; reduce
 simp [opnS,opnA,and_assoc]
 exact hpre
def rsiS : Spec [celSh,staSh]:=⟨fun (c,_)=>CelMax (celOf c),fun (c,s,_)=>.tup [.si .i64 (aV (celOf c) (staOf s) (rV (celOf c) (staOf s))),.si .i64 (aE (celOf c) (staOf s) 0)]⟩
set_option maxRecDepth 100000 in
theorem rsi_ok : FnSpec Tryz.prog 107 _ rsiS:=by
 refine FnSpec.of SCk_ok mixed (U:=0) (I:=fun _=>[]) Tryz.func107 rfl (by kernel_rfl) rfl rfl (by decide +kernel) ?_
 rintro ⟨c,s,⟨⟩⟩ hpre
 obtain ⟨c,rfl⟩:=cel_ex c
 obtain ⟨s,rfl⟩:=sta_ex s
 have hpre : CelMax c:=by have : CelMax (celOf (celD c)):=hpre; rwa [celOf_D] at this
 unfold FnSat
 conv=>arg 2; reduce
 simp [rsiS,rsiA,and_assoc]
 exact hpre
noncomputable def SCl : Sums:=⟨(107,mkSum _ rsiS) :: (106,mkSum _ opnS) :: SCk.one,SCk.two,SCk.lo,SCk.eqs,SCk.its,SCk.imm⟩
theorem SCl_ok : SumsOK Tryz.prog SCl:=((SCk_ok.cons Tryz.func106 (by kernel_rfl) (by kernel_rfl) opn_ok).cons Tryz.func107 (by kernel_rfl) (by kernel_rfl) rsi_ok)
end
end Abs
end Go.Proofs.YtlacopdaibhkkaaGreat

namespace Go.Proofs.YtlacopdaibhkkaaGreat
namespace Abs
open Go Go.RowKit
noncomputable section
attribute [local irreducible] FnSat
noncomputable def SCm : Sums:=⟨SCl.one,SCl.two,SCl.lo,SCl.eqs,SCl.its,SCl.imm⟩
theorem SCm_ok : SumsOK Tryz.prog SCm:=SCl_ok
@[irreducible] def curI (i : Int) : Bool:=isIn (-1048576) i 1048576
theorem curI_iff {i : Int} : curI i = true ↔ -1048576 <= i /\ i <= 1048576:=by unfold curI isIn; simp
@[irreducible] def wiV (i x : Int) : Int:=if curI i = true then x else 0
@[irreducible] def wiE (i : Int) : Int:=if curI i = true then 0 else 3
noncomputable def SCn : Sums:=⟨SCm.one,SCm.two,SCm.lo,SCm.eqs,SCm.its,SCm.imm⟩
theorem SCn_ok : SumsOK Tryz.prog SCn:=SCm_ok
noncomputable def SCo : Sums:=⟨SCn.one,SCn.two,SCn.lo,SCn.eqs,SCn.its,SCn.imm⟩
theorem SCo_ok : SumsOK Tryz.prog SCo:=SCn_ok
noncomputable def SCp : Sums:=⟨SCo.one,SCo.two,SCo.lo,SCo.eqs,SCo.its,SCo.imm⟩
theorem SCp_ok : SumsOK Tryz.prog SCp:=SCo_ok
def volS : Spec [celSh,staSh,.int .i64] :=
 ⟨fun (c,_)=>CelMax (celOf c),fun (c,s,(i : Int),_)=>.tup [.si .i64 (aV (celOf c) (staOf s) (wiV i (voltV (celOf c) (staOf s) i))),.si .i64 (aE (celOf c) (staOf s) (wiE i))]⟩
end
end Abs
end Go.Proofs.YtlacopdaibhkkaaGreat

namespace Go.Proofs.YtlacopdaibhkkaaGreat
namespace Abs
open Go Go.RowKit
noncomputable section
attribute [local irreducible] FnSat
noncomputable def SCq : Sums:=⟨SCp.one,SCp.two,SCp.lo,SCp.eqs,SCp.its,SCp.imm⟩
theorem SCq_ok : SumsOK Tryz.prog SCq:=SCp_ok
noncomputable def SCr : Sums:=⟨SCq.one,SCq.two,SCq.lo,SCq.eqs,SCq.its,SCq.imm⟩
theorem SCr_ok : SumsOK Tryz.prog SCr:=SCq_ok
noncomputable def SCs : Sums:=⟨SCr.one,SCr.two,SCr.lo,SCr.eqs,SCr.its,SCr.imm⟩
theorem SCs_ok : SumsOK Tryz.prog SCs:=SCr_ok
noncomputable def SCt : Sums:=⟨SCs.one,SCs.two,SCs.lo,SCs.eqs,SCs.its,SCs.imm⟩
theorem SCt_ok : SumsOK Tryz.prog SCt:=SCs_ok
end
end Abs
end Go.Proofs.YtlacopdaibhkkaaGreat

namespace Go.Proofs.YtlacopdaibhkkaaGreat
namespace Abs
open Go Go.RowKit
noncomputable section
attribute [local irreducible] FnSat
theorem voltV_in {c : Cel} {s : Sta} {i : Int} (h1 : celB c = true) (h2 : StOK c s) (i1 : -1048576 <= i) (i2 : i <= 1048576) : -2147483648 <= voltV c s i /\ voltV c s i <= 2147483648:=by
 have o:=opnV_in (s:=s) h1
 have r:=@rV_in c s
 have m:=mul_ab (a:=i) (b:=rV c s) (A:=1048576) (B:=1048576) i1 i2 r.1 r.2
 have d1:=dvI_le (a:=i * rV c s) (d:=1000) (m:=1099511628) (by decide) (by omega)
 have d2:=dvI_ge (a:=i * rV c s) (d:=1000) (m:=-1099511628) (by decide) (by omega)
 have:=h2.r0
 have:=h2.r1
 unfold voltV
 omega
noncomputable def SCv : Sums:=⟨SCt.one,SCt.two,SCt.lo,SCt.eqs,SCt.its,SCt.imm⟩
theorem SCv_ok : SumsOK Tryz.prog SCv:=SCt_ok
noncomputable def SCw : Sums:=⟨SCv.one,SCv.two,SCv.lo,SCv.eqs,SCv.its,SCv.imm⟩
theorem SCw_ok : SumsOK Tryz.prog SCw:=SCv_ok
noncomputable def SCx : Sums:=⟨SCw.one,SCw.two,SCw.lo,SCw.eqs,SCw.its,SCw.imm⟩
theorem SCx_ok : SumsOK Tryz.prog SCx:=SCw_ok
noncomputable def SCz : Sums:=⟨SCx.one,SCx.two,SCx.lo,SCx.eqs,SCx.its,SCx.imm⟩
theorem SCz_ok : SumsOK Tryz.prog SCz:=SCx_ok
end
end Abs
end Go.Proofs.YtlacopdaibhkkaaGreat

namespace Go.Proofs.YtlacopdaibhkkaaGreat
namespace Abs
open Go Go.RowKit
noncomputable section
attribute [local irreducible] FnSat
noncomputable def SCs0 : Sums:=⟨(79,mkSum _ vnextS) :: SCz.one,SCz.two,SCz.lo,SCz.eqs,SCz.its,SCz.imm⟩
theorem SCs0_ok : SumsOK Tryz.prog SCs0:=(SCz_ok.cons Tryz.func79 (by kernel_rfl) (by kernel_rfl) vnext_ok)
@[irreducible] def ovr (c : Cel) (s : Sta) (i : Int) : Bool:=decide (1099511627776 < nxH s i) || decide (1099511627776 < nxA c s)
@[irreducible] def inB (i a : Int) : Bool:=isIn (-1048576) i 1048576 && isIn 0 a 400000
theorem inB_iff {i a : Int} : inB i a = true ↔ (-1048576 <= i /\ i <= 1048576) /\ 0 <= a /\ a <= 400000:=by unfold inB isIn; simp
@[irreducible] def stpE (c : Cel) (s : Sta) (i a : Int) : Int:=if inB i a = true then (if ovr c s i = true then 4 else 0) else 3
@[irreducible] def stpV (c : Cel) (s : Sta) (i a x : Int) : Int:=if stpE c s i a = 0 then x else 0
theorem stpV_no {c : Cel} {s : Sta} {i a x : Int} (h : stpE c s i a ≠ 0) : stpV c s i a x = 0:=by unfold stpV; rw [if_neg h]
theorem stpV_yes {c : Cel} {s : Sta} {i a x : Int} (h : stpE c s i a = 0) : stpV c s i a x = x:=by unfold stpV; rw [if_pos h]
theorem aV_no {c : Cel} {s : Sta} {x : Int} (h : ¬csE c s = 0) : aV c s x = 0:=by unfold aV; rw [if_neg h]
theorem aV_yes {c : Cel} {s : Sta} {x : Int} (h : csE c s = 0) : aV c s x = x:=by unfold aV; rw [if_pos h]
theorem aE_no {c : Cel} {s : Sta} {x : Int} (h : ¬csE c s = 0) : aE c s x = csE c s:=by unfold aE; rw [if_neg h]
theorem aE_yes {c : Cel} {s : Sta} {x : Int} (h : csE c s = 0) : aE c s x = x:=by unfold aE; rw [if_pos h]
def stpS1 : Spec [vwSh,.ptr [.int .i64,.int .i64]]:=⟨fun (v,_)=>VwOK v,fun (v,((i : Int),(a : Int),_),_) =>
 .tup [.agg [.si .i64 (stpV (vwC v) (vwS v) i a (nxQ (vwC v) (vwS v) i)),.si .i64 (stpV (vwC v) (vwS v) i a (nxR (vwC v) (vwS v) i)),.si .i64 (stpV (vwC v) (vwS v) i a (nxT (vwC v) (vwS v) i a)),.si .i64 (stpV (vwC v) (vwS v) i a (nxH (vwS v) i)),.si .i64 (stpV (vwC v) (vwS v) i a (nxA (vwC v) (vwS v)))],
  .si .i64 (stpE (vwC v) (vwS v) i a)]⟩
set_option maxRecDepth 100000 in
theorem stp_ok1 : FnSpec Tryz.prog 78 _ stpS1:=by
 refine FnSpec.of SCs0_ok mixed (U:=0) (I:=fun _=>[]) Tryz.func78 rfl (by kernel_rfl) rfl rfl (by decide +kernel) ?_
 rintro ⟨v,⟨(i : Int),(a : Int),⟨⟩⟩,⟨⟩⟩ hv
 obtain ⟨c,s,rfl,h1,h2⟩:=vw_ex (show VwOK v from hv)
 have e1:=vwC_D c s
 have e2:=vwS_D c s
 unfold FnSat
 conv=>arg 2; reduce
 simp [stpS1,vnextS,betS,e1,e2,and_assoc]
 refine ⟨fun h=>?_,fun i1 i2 a1 a2=>⟨vw_ok h1 h2,i1,i2,a1,a2,fun h=>?_,fun g1 g2=>?_⟩⟩
 ·have e : stpE c s i a = 3:=by unfold stpE; rw [if_neg]; rw [inB_iff]; omega
  simp [stpV_no (show stpE c s i a ≠ 0 by omega),e]
 ·have e : stpE c s i a = 4:=by unfold stpE; rw [if_pos (inB_iff.2 ⟨⟨i1,i2⟩,a1,a2⟩),if_pos]; unfold ovr; simpa using h
  simp [stpV_no (show stpE c s i a ≠ 0 by omega),e]
 ·have e : stpE c s i a = 0:=by unfold stpE; rw [if_pos (inB_iff.2 ⟨⟨i1,i2⟩,a1,a2⟩),if_neg]; unfold ovr; simp; omega
  simp [stpV_yes e,e]
noncomputable def SCs1 : Sums:=⟨(78,mkSum _ stpS1) :: SCs0.one,SCs0.two,SCs0.lo,SCs0.eqs,SCs0.its,SCs0.imm⟩
theorem SCs1_ok : SumsOK Tryz.prog SCs1:=(SCs0_ok.cons Tryz.func78 (by kernel_rfl) (by kernel_rfl) stp_ok1)
def stpA : Spec [celSh,staSh,.fn 78 [] [.ptr [.int .i64,.int .i64]]]:=⟨fun (c,_)=>CelMax (celOf c),fun (c,s,(_,((i : Int),(a : Int),_),_),_) =>
 .tup [.agg [.si .i64 (aV (celOf c) (staOf s) (stpV (celOf c) (staOf s) i a (nxQ (celOf c) (staOf s) i))),.si .i64 (aV (celOf c) (staOf s) (stpV (celOf c) (staOf s) i a (nxR (celOf c) (staOf s) i))),
  .si .i64 (aV (celOf c) (staOf s) (stpV (celOf c) (staOf s) i a (nxT (celOf c) (staOf s) i a))),.si .i64 (aV (celOf c) (staOf s) (stpV (celOf c) (staOf s) i a (nxH (staOf s) i))),.si .i64 (aV (celOf c) (staOf s) (stpV (celOf c) (staOf s) i a (nxA (celOf c) (staOf s))))],
  .si .i64 (aE (celOf c) (staOf s) (stpE (celOf c) (staOf s) i a))]⟩
set_option maxRecDepth 100000 in
set_option maxHeartbeats 4000000 in
theorem stp_okA : FnSpec Tryz.prog 77 _ stpA:=by
 refine FnSpec.of SCs1_ok mixed (U:=0) (I:=fun _=>[]) Tryz.func77 rfl (by kernel_rfl) rfl rfl (by decide +kernel) ?_
 rintro ⟨c,s,⟨y,⟨(i : Int),(a : Int),⟨⟩⟩,⟨⟩⟩,⟨⟩⟩ hpre
 obtain ⟨c,rfl⟩:=cel_ex c
 obtain ⟨s,rfl⟩:=sta_ex s
 have hpre : CelMax c:=by have : CelMax (celOf (celD c)):=hpre; rwa [celOf_D] at this
 have e1:=vwC_D c s
 have e2:=vwS_D c s
 unfold FnSat
 conv=>arg 2; reduce
 simp [stpA,cstS,lookF,stpS1,e1,e2,and_assoc]
 refine ⟨hpre,fun h=>by simp [aV_no h,aE_no h],fun h=>?_⟩
 have k:=csE_iff.1 h
 simp [aV_yes h,aE_yes h]
 exact ⟨k.1,k.2,vw_ok k.1 k.2⟩
noncomputable def SCs2 : Sums:=⟨(77,mkSum _ stpA) :: SCs1.one,SCs1.two,SCs1.lo,SCs1.eqs,SCs1.its,SCs1.imm⟩
theorem SCs2_ok : SumsOK Tryz.prog SCs2:=(SCs1_ok.cons Tryz.func77 (by kernel_rfl) (by kernel_rfl) stp_okA)
def stpS : Spec [celSh,staSh,inSh]:=⟨fun (c,_)=>CelMax (celOf c),fun (c,s,((i : Int),(a : Int),_),_) =>
 .tup [.agg [.si .i64 (aV (celOf c) (staOf s) (stpV (celOf c) (staOf s) i a (nxQ (celOf c) (staOf s) i))),.si .i64 (aV (celOf c) (staOf s) (stpV (celOf c) (staOf s) i a (nxR (celOf c) (staOf s) i))),
  .si .i64 (aV (celOf c) (staOf s) (stpV (celOf c) (staOf s) i a (nxT (celOf c) (staOf s) i a))),.si .i64 (aV (celOf c) (staOf s) (stpV (celOf c) (staOf s) i a (nxH (staOf s) i))),.si .i64 (aV (celOf c) (staOf s) (stpV (celOf c) (staOf s) i a (nxA (celOf c) (staOf s))))],
  .si .i64 (aE (celOf c) (staOf s) (stpE (celOf c) (staOf s) i a))]⟩
set_option maxRecDepth 100000 in
set_option maxHeartbeats 4000000 in
theorem stp_ok : FnSpec Tryz.prog 40 _ stpS:=by
 refine FnSpec.of SCs2_ok mixed (U:=0) (I:=fun _=>[]) Tryz.func40 rfl (by kernel_rfl) rfl rfl (by decide +kernel) ?_
 rintro ⟨c,s,⟨(i : Int),(a : Int),⟨⟩⟩,⟨⟩⟩ hpre
 obtain ⟨c,rfl⟩:=cel_ex c
 obtain ⟨s,rfl⟩:=sta_ex s
 have hpre : CelMax c:=by have : CelMax (celOf (celD c)):=hpre; rwa [celOf_D] at this
 unfold FnSat
 conv=>arg 2; reduce
 simp [stpS,stpA,and_assoc]
 exact hpre
noncomputable def SCst : Sums:=⟨(40,mkSum _ stpS) :: SCs2.one,SCs2.two,SCs2.lo,SCs2.eqs,SCs2.its,SCs2.imm⟩
theorem SCst_ok : SumsOK Tryz.prog SCst:=(SCs2_ok.cons Tryz.func40 (by kernel_rfl) (by kernel_rfl) stp_ok)
end
end Abs
end Go.Proofs.YtlacopdaibhkkaaGreat

namespace Go.Proofs.YtlacopdaibhkkaaGreat
namespace Abs
open Go Go.RowKit
noncomputable section
attribute [local irreducible] FnSat
theorem Fn.res {P : Program} {f : FuncId} {args : List AV} {H H' : Heap} {r r' : AV} (h : Fn P f args H r H') (hr : ∀ (C : Cx) (w : World) (v : Value),Rel C w r v -> Rel C w r' v) : Fn P f args H r' H' :=
 fun C w vs h0 h1 h2=>(h C w vs h0 h1 h2).mono fun e w' ⟨v,C',he,h3,h4,h5⟩=>⟨v,C',he,h3,hr _ _ _ h4,h5⟩
structure Two (c : Crv) (a b u v : Int) : Prop where
 nx : c.nx = 2
 ny : c.ny = 2
 x0 : c.x 0 = a
 x1 : c.x 1 = b
 y0 : c.y 0 = u
 y1 : c.y 1 = v
theorem Two.val {c : Crv} {a b u v x : Int} (h : Two c a b u v) (hc : crB c = true) (h0 : a <= x) (h1 : x < b) : valL c x = u + (x - a) * (v - u) / (b - a):=by
 have hs : sgI c x = 0:=sgI_uniq hc (by rw [h.nx]; decide) (by rw [h.x0]; exact h0) (by rw [h.x1]; exact h1)
 unfold valL
 rw [h.nx]
 show (if c.x 1 <= x then _ else _) = _
 rw [h.x1,h.x0,if_neg (by omega),if_neg (by omega),hs]
 unfold pcL
 rw [h.x0,h.x1,h.y0,h.y1]
noncomputable def SCex : Sums:=⟨SCst.one,SCst.two,SCst.lo,SCst.eqs,SCst.its,SCst.imm⟩
theorem SCex_ok : SumsOK Tryz.prog SCex:=SCst_ok
@[reducible] def st5 : List (Option IntKind):=[some .i64,some .i64,some .i64,some .i64,some .i64]
@[reducible] def sp2 : List (Option IntKind):=[some .i64,some .i64]
def eqsC : List (Nat × List (Option IntKind)):=[(58,st5),(187,sp2)]
theorem eqsC_ok : ∀ t ks,findS eqsC t = some ks -> EqOK Tryz.prog t ks:=by
 intro t ks h
 unfold eqsC at h
 simp only [findS] at h
 split at h
 ·rename_i e
  obtain rfl:=Nat.eq_of_beq_eq_true e
  injection h with h; subst h
  exact EqOK.of 3 (by decide) (by kernel_rfl) (by kernel_rfl) (by kernel_rfl)
 ·first
  | cases h; done
  | split at h
    ·rename_i e
     obtain rfl:=Nat.eq_of_beq_eq_true e
     injection h with h; subst h
     exact EqOK.of 3 (by decide) (by kernel_rfl) (by kernel_rfl) (by kernel_rfl)
    ·cases h
noncomputable def SCeq : Sums:=⟨SCex.one,SCex.two,SCex.lo,eqsC,SCex.its,SCex.imm⟩
theorem SCeq_ok : SumsOK Tryz.prog SCeq:=SCex_ok.setEqs eqsC_ok
noncomputable def SCkn : Sums:=⟨SCeq.one,SCeq.two,SCeq.lo,SCeq.eqs,SCeq.its,SCeq.imm⟩
theorem SCkn_ok : SumsOK Tryz.prog SCkn:=SCeq_ok
end
end Abs
end Go.Proofs.YtlacopdaibhkkaaGreat

namespace Go.Proofs.YtlacopdaibhkkaaGreat
namespace Abs
open Go Go.RowKit
noncomputable section
attribute [local irreducible] FnSat
noncomputable def SVa : Sums:=SCkn
theorem SVa_ok : SumsOK Tryz.prog SVa:=SCkn_ok
noncomputable def SVb : Sums:=⟨SVa.one,SVa.two,SVa.lo,SVa.eqs,SVa.its,SVa.imm⟩
theorem SVb_ok : SumsOK Tryz.prog SVb:=SVa_ok
end
end Abs
end Go.Proofs.YtlacopdaibhkkaaGreat

namespace Go.Proofs.YtlacopdaibhkkaaGreat
namespace Abs
open Go Go.RowKit
noncomputable section
attribute [local irreducible] FnSat
set_option maxRecDepth 100000 in
theorem floor_ok : FnSpec Tryz.prog 96 _ divS:=by
 refine FnSpec.of SVb_ok mixed (U:=0) (I:=fun _=>[]) Tryz.func96 rfl (by kernel_rfl) rfl rfl (by decide +kernel) ?_
 rintro ⟨(n : Int),(d : Int),⟨⟩⟩ ⟨(h1 : -4611686018427387904 <= n),(h2 : n <= 4611686018427387904),(h3 : 1 <= d)⟩
 unfold FnSat
 conv=>arg 2; reduce
 simp [divS,and_assoc]
 exact dvI_by h1 h2 h3
set_option maxRecDepth 100000 in
theorem into_ok : FnSpec Tryz.prog 114 _ clipS:=by
 refine FnSpec.of SVb_ok mixed (U:=0) (I:=fun _=>[]) Tryz.func114 rfl (by kernel_rfl) rfl rfl (by decide +kernel) ?_
 rintro ⟨(x : Int),(lo : Int),(hi : Int),⟨⟩⟩ -
 unfold FnSat
 conv=>arg 2; reduce
 simp [clipS,clipV]
set_option maxRecDepth 100000 in
theorem within_ok : FnSpec Tryz.prog 72 _ betS:=by
 refine FnSpec.of SVb_ok mixed (U:=0) (I:=fun _=>[]) Tryz.func72 rfl (by kernel_rfl) rfl rfl (by decide +kernel) ?_
 rintro ⟨(x : Int),(lo : Int),(hi : Int),⟨⟩⟩ -
 unfold FnSat
 conv=>arg 2; reduce
 simp [betS,isIn]
set_option maxRecDepth 100000 in
theorem ris_ok : FnSpec Tryz.prog 129 _ isS:=by
 refine FnSpec.of SVb_ok mixed (U:=0) (I:=fun _=>[]) Tryz.func129 rfl (by kernel_rfl) rfl rfl (by decide +kernel) ?_
 rintro ⟨(x : Int),⟨⟩⟩ -
 unfold FnSat
 conv=>arg 2; reduce
 simp [isS,isQ]
noncomputable def SRa : Sums:=⟨(129,mkSum _ isS) :: (72,mkSum _ betS) :: (114,mkSum _ clipS) :: (96,mkSum _ divS) :: SVb.one,SVb.two,SVb.lo,SVb.eqs,SVb.its,SVb.imm⟩
theorem SRa_ok : SumsOK Tryz.prog SRa:=((((SVb_ok.cons Tryz.func96 (by kernel_rfl) (by kernel_rfl) floor_ok).cons Tryz.func114 (by kernel_rfl) (by kernel_rfl) into_ok).cons Tryz.func72 (by kernel_rfl) (by kernel_rfl) within_ok).cons Tryz.func129 (by kernel_rfl) (by kernel_rfl) ris_ok)
def rcrI : DatL [crvSh] -> Anns:=fun (c,_)=>[
 (6,[],fun fr hp=>⟨Nat,fun g=>⟨frI [.k 3,.s (.si .i64 (icast g)),.k 23,.t 55] fr,hp⟩,Nat × Crv,fun g=>(g,crvOf c),fun (g,c)=>g <= c.nx /\ (∀ j,j < g -> isQ (c.x j) = true /\ isQ (c.y j) = true) /\ ∀ j,j + 1 < g -> c.x j < c.x (j + 1) /\ c.y j <= c.y (j + 1),fun g=>nsub c.1.1 g⟩)]
set_option maxRecDepth 100000 in
theorem rcr_ok : FnSpec Tryz.prog 104 _ crS:=by
 refine FnSpec.of SRa_ok mixed (U:=0) (I:=rcrI) Tryz.func104 rfl (by kernel_rfl) rfl rfl (by decide +kernel) ?_
 rintro ⟨c,⟨⟩⟩ hpre
 obtain ⟨c,rfl⟩:=crv_ex c
 have hpre : c.nx <= maxLen /\ c.ny <= maxLen:=hpre
 obtain ⟨p1,p2⟩:=hpre
 unfold FnSat
 conv=>arg 2; reduce
 simp [crS,isS,ElEq,getB,goneB,aliveB,and_assoc]
 have bad : (crB c = true -> False) -> c.nx <= 64 -> c.ny <= 64 -> 2 = crE c:=fun h h1 h2=>by unfold crE; rw [if_neg (by omega),if_neg (fun hb=>h hb)]
 refine ⟨fun h=>by unfold crE; rw [if_pos (by omega)],fun n1 n2=>⟨fun h=>bad (fun hb=>?_) (by omega) (by omega),fun h1 h2=>⟨⟨0,rfl,by omega,fun j hj=>by omega,fun j hj=>by omega⟩,fun g hg hq hf=>⟨fun hlt=>⟨hlt,fun _=>by omega,fun _ _ _=>hlt,fun _ _ _=>by omega,fun _ _ _=>by omega,fun _ _ _ _=>by omega,fun _ _ _ _=>by omega,fun _ _ _ _=>by omega,fun a b c d=>⟨a,b,c,d⟩,fun a b c=>⟨a,b,c⟩,fun h=>bad (fun hb=>?_) (by omega) (by omega),fun a1 a2 a3=>⟨by omega,by omega,g + 1,by omega,by omega,fun j hj=>?_,fun j hj=>?_,by omega⟩⟩,fun hge=>?_⟩⟩⟩⟩
 ·have:=crB_iff.1 hb; omega
 ·have hb:=crB_iff.1 hb
  rcases h with (h | h) | ⟨h0,h⟩
  ·rw [(hb.2.2.2.1 g hlt).1] at h; cases h
  ·rw [(hb.2.2.2.1 g hlt).2] at h; cases h
  ·have:=hb.2.2.2.2 (g - 1) (by omega)
   rw [show g - 1 + 1 = g by omega] at this
   omega
 ·by_cases h' : j < g
  ·exact hq j h'
  ·obtain rfl : j = g:=by omega
   exact ⟨a1,a2⟩
 ·by_cases h' : j + 1 < g
  ·exact hf j h'
  ·have:=a3 (by omega)
   rw [show j = g - 1 by omega,show g - 1 + 1 = g by omega]
   exact this
 ·exact (crE_iff.2 (crB_iff.2 ⟨by omega,by omega,by omega,fun k hk=>hq k (by omega),fun k hk=>hf k (by omega)⟩)).symm
noncomputable def SRb : Sums:=⟨(104,mkSum _ crS) :: SRa.one,SRa.two,SRa.lo,SRa.eqs,SRa.its,SRa.imm⟩
theorem SRb_ok : SumsOK Tryz.prog SRb:=(SRa_ok.cons Tryz.func104 (by kernel_rfl) (by kernel_rfl) rcr_ok)
set_option maxRecDepth 100000 in
theorem rscale_ok : FnSpec Tryz.prog 73 _ scaleS:=by
 refine FnSpec.of SRb_ok mixed (U:=0) (I:=fun _=>[]) Tryz.func73 rfl (by kernel_rfl) rfl rfl (by decide +kernel) ?_
 rintro ⟨c,(last : Int),(most : Int),⟨⟩⟩ hpre
 obtain ⟨c,rfl⟩:=crv_ex c
 have hpre : c.nx <= maxLen /\ c.ny <= maxLen:=hpre
 obtain ⟨p1,p2⟩:=hpre
 unfold FnSat
 conv=>arg 2; reduce
 simp [scaleS,crS,and_assoc]
 refine ⟨p1,p2,fun h=>?_,fun h=>?_⟩
 ·have hb : crB c = false:=by
   cases hb : crB c with
   | false=>rfl
   | true=>exact absurd (crE_iff.2 hb) h
  unfold scB; rw [hb]; simp
 ·have hb : crB c = true:=crE_iff.1 h
  have h1:=crB_iff.1 hb
  unfold maxLen at p1 p2
  refine ⟨by omega,fun _=>by omega,fun _=>by omega,fun _ _=>by omega,fun _ _ _=>by omega,fun _ _ _=>by omega,?_⟩
  unfold scB
  rw [Bool.eq_iff_iff]
  simp [hb]
def rvalS : Spec [crvSh,.int .i64]:=⟨fun (c,(x : Int),_)=>(crB (crvOf c) = true /\ (crvOf c).x 0 = 0 /\ (crvOf c).x ((crvOf c).nx - 1) <= 400000 /\ 0 <= (crvOf c).y 0 /\ (crvOf c).y ((crvOf c).nx - 1) <= 8388608) /\ -1099511627776 <= x /\ x <= 1099511627776,fun (c,(x : Int),_)=>.si .i64 (valL (crvOf c) x)⟩
def rvalI : DatL [crvSh,.int .i64] -> Anns:=fun (c,(x : Int),_)=>[
 (7,[],fun fr hp=>⟨Nat,fun g=>⟨frI [.k 6,.s (.si .i64 (icast g)),.k 27,.t 10,.k 39] fr,hp⟩,Nat × Crv × Int,fun g=>(g,crvOf c,x),fun (g,c,x)=>g + 1 < c.nx /\ c.x g <= x,fun g=>nsub c.1.1 g⟩)]
set_option maxRecDepth 100000 in
theorem rval_ok : FnSpec Tryz.prog 113 _ rvalS:=by
 refine FnSpec.of SRb_ok mixed (U:=0) (I:=rvalI) Tryz.func113 rfl (by kernel_rfl) rfl rfl (by decide +kernel) ?_
 rintro ⟨c,(x : Int),⟨⟩⟩ hpre
 obtain ⟨c,rfl⟩:=crv_ex c
 have hpre : (crB c = true /\ c.x 0 = 0 /\ c.x (c.nx - 1) <= 400000 /\ 0 <= c.y 0 /\ c.y (c.nx - 1) <= 8388608) /\ -1099511627776 <= x /\ x <= 1099511627776:=by
  have h : (crB (crvOf (crvD c)) = true /\ (crvOf (crvD c)).x 0 = 0 /\ (crvOf (crvD c)).x ((crvOf (crvD c)).nx - 1) <= 400000 /\ 0 <= (crvOf (crvD c)).y 0 /\ (crvOf (crvD c)).y ((crvOf (crvD c)).nx - 1) <= 8388608) /\ -1099511627776 <= x /\ x <= 1099511627776:=hpre
  rwa [show crvOf (crvD c) = c from crvOf_mk c] at h
 obtain ⟨⟨hc,hx0,hxn,hy0,hyn⟩,x1,x2⟩:=hpre
 unfold FnSat
 conv=>arg 2; reduce
 simp [rvalS,divS,and_assoc]
 have hb:=crB_iff.1 hc
 have vlo : x <= c.x 0 -> c.y 0 = valL c x:=fun h=>by
  have hx:=crv_x hc (j:=c.nx - 1) (i:=0) (by omega) (by omega)
  unfold valL
  rw [if_neg (by omega)]
  split
  ·rfl
  ·have e : x = c.x 0:=by omega
   have h2:=crv_x hc (j:=1) (i:=0) (by omega) (by omega)
   rw [sgI_uniq hc (i:=0) (by omega) (by omega) (by show x < c.x 1; omega)]
   unfold pcL
   rw [e,Int.sub_self,Int.zero_mul,Int.zero_ediv,Int.add_zero]
 refine ⟨by omega,fun h=>⟨by omega,vlo h⟩,fun h=>⟨by omega,by omega,by omega,by omega,fun h2=>⟨by omega,by omega,by omega,by omega,?_⟩,fun h2=>⟨⟨0,rfl,by omega,by omega⟩,fun g hg hx=>?_⟩⟩⟩
 ·unfold valL; rw [if_pos h2]
 ·have gx:=hb.2.2.2.2 g hg
  have x0:=crv_x hc (j:=g) (i:=0) (by omega) (by omega)
  have x3:=crv_x hc (j:=c.nx - 1) (i:=g + 1) (by omega) (by omega)
  have y0':=crv_y hc (j:=g) (i:=0) (by omega) (by omega)
  have y3:=crv_y hc (j:=c.nx - 1) (i:=g + 1) (by omega) (by omega)
  refine ⟨by omega,by omega,by omega,by omega,fun h3=>⟨by omega,by omega,g + 1,by omega,by have hne : g + 1 ≠ c.nx - 1:=(fun e=>by rw [e] at h3; omega); omega,h3,by omega⟩,fun h3=>?_⟩
  have m:=mul_in (a:=x - c.x g) (b:=c.y (g + 1) - c.y g) (A:=400000) (B:=8388608) (by omega) (by omega) (by omega) (by omega)
  have pc:=pc_in hc hg hx (by omega)
  have e : c.y g + dvI ((x - c.x g) * (c.y (g + 1) - c.y g)) (c.x (g + 1) - c.x g) = pcL c g x:=by unfold pcL dvI; rfl
  have e2 : pcL c g x = valL c x:=by
   unfold valL
   rw [if_neg (by omega),if_neg (by omega),sgI_uniq hc hg hx h3]
  rw [e]
  exact ⟨by omega,by omega,by omega,by omega,by omega,by omega,by omega,by omega,by omega,by omega,by omega,by omega,by omega,by omega,by omega,by omega,by omega,by omega,by omega,by omega,by omega,by omega,by omega,by omega,by omega,e2⟩
def rwearS : Spec [celSh,.int .i64,.int .i64]:=⟨fun (c,(t : Int),(a : Int),_)=>WearOK (celOf c) t a,fun (c,(t : Int),(a : Int),_)=>.si .i64 (wearV (celOf c) t a)⟩
set_option maxRecDepth 100000 in
theorem rwear_ok : FnSpec Tryz.prog 93 _ rwearS:=by
 refine FnSpec.of SRb_ok mixed (U:=0) (I:=fun _=>[]) Tryz.func93 rfl (by kernel_rfl) rfl rfl (by decide +kernel) ?_
 rintro ⟨c,(t : Int),(a : Int),⟨⟩⟩ hpre
 obtain ⟨c,rfl⟩:=cel_ex c
 have hpre : WearOK c t a:=by have : WearOK (celOf (celD c)) t a:=hpre; rwa [celOf_D] at this
 unfold FnSat
 conv=>arg 2; reduce
 simp [rwearS,divS,and_assoc]
 have h1:=mul_in hpre.t0 hpre.t1 hpre.c0 hpre.c1
 have h2:=mul_in hpre.g0 hpre.g1 hpre.a0 hpre.a1
 have h3:=wearV_in hpre
 have e : dvI (t * c.cyc) 1073741824 + dvI (a * c.agel) 1073741824 = wearV c t a:=by unfold wearV; rfl
 rw [e]
 omega
noncomputable def SRc : Sums:=⟨(93,mkSum _ rwearS) :: (113,mkSum _ rvalS) :: (73,mkSum _ scaleS) :: SRb.one,SRb.two,SRb.lo,SRb.eqs,SRb.its,SRb.imm⟩
theorem SRc_ok : SumsOK Tryz.prog SRc:=(((SRb_ok.cons Tryz.func73 (by kernel_rfl) (by kernel_rfl) rscale_ok).cons Tryz.func113 (by kernel_rfl) (by kernel_rfl) rval_ok).cons Tryz.func93 (by kernel_rfl) (by kernel_rfl) rwear_ok)
def rcapS : Spec [celSh,staSh]:=⟨fun (c,s,_)=>WearOK (celOf c) (staOf s).th (staOf s).ag /\ 0 <= (celOf c).cap /\ (celOf c).cap <= 4294967296,fun (c,s,_)=>.si .i64 (roomV (celOf c) (wearV (celOf c) (staOf s).th (staOf s).ag))⟩
set_option maxRecDepth 100000 in
theorem rcap_ok : FnSpec Tryz.prog 59 _ rcapS:=by
 refine FnSpec.of SRc_ok mixed (U:=0) (I:=fun _=>[]) Tryz.func59 rfl (by kernel_rfl) rfl rfl (by decide +kernel) ?_
 rintro ⟨c,s,⟨⟩⟩ hpre
 obtain ⟨c,rfl⟩:=cel_ex c
 obtain ⟨s,rfl⟩:=sta_ex s
 have hpre : WearOK c s.th s.ag /\ 0 <= c.cap /\ c.cap <= 4294967296:=by have : WearOK (celOf (celD c)) (staOf (staD s)).th (staOf (staD s)).ag /\ 0 <= (celOf (celD c)).cap /\ (celOf (celD c)).cap <= 4294967296:=hpre; rwa [celOf_D,staOf_D] at this
 obtain ⟨hw,c0,c1⟩:=hpre
 unfold FnSat
 conv=>arg 2; reduce
 simp [rcapS,rwearS,and_assoc]
 have:=wearV_in hw
 unfold roomV
 exact ⟨hw,by omega,by omega,rfl⟩
set_option maxRecDepth 100000 in
set_option maxHeartbeats 4000000 in
theorem rcheck_ok : FnSpec Tryz.prog 32 _ ccheckS:=by
 refine FnSpec.of SRc_ok mixed (U:=0) (I:=fun _=>[]) Tryz.func32 rfl (by kernel_rfl) rfl rfl (by decide +kernel) ?_
 rintro ⟨c,⟨⟩⟩ hpre
 obtain ⟨c,rfl⟩:=cel_ex c
 have hpre : CelMax c:=by have : CelMax (celOf (celD c)):=hpre; rwa [celOf_D] at this
 obtain ⟨p1,p2,p3,p4,p5,p6⟩:=hpre
 unfold FnSat
 conv=>arg 2; reduce
 simp [ccheckS,betS,scaleS,and_assoc]
 have no : (CelOK c -> False) -> 2 = errA (celB c):=fun h=>by rw [celB_no h]; simp [errA]
 refine ⟨fun _ _=>⟨p1,p2⟩,fun _ _ _=>⟨p3,p4⟩,fun _ _ _ _=>⟨p5,p6⟩,fun h=>no fun k=>?_,fun q0 q1 h1 h2 h3=>⟨fun h=>no fun k=>?_,fun q2 q3 q4 q5 q6 q7 q8 q9 q10 q11 q12 q13 q14 q15=>⟨fun h=>no fun k=>?_,fun q16 q17 q18 q19 q20 q21=>?_⟩⟩⟩
 ·have:=k.cap0
  have:=k.cap1
  rcases h with (((h | h) | h) | h) | h
  ·omega
  ·omega
  ·rw [k.ocv] at h; cases h
  ·rw [k.cold] at h; cases h
  ·rw [k.stress] at h; cases h
 ·have:=k.sh0
  have:=k.sh1
  have:=k.ex0
  have:=k.ex1
  have:=k.pr0
  have:=k.pr1
  have:=k.lk0
  have:=k.lk1
  have:=k.kp0
  have:=k.kp1
  have:=k.co0
  have:=k.co1
  have:=k.hc0
  have:=k.hc1
  omega
 ·have:=k.cy0
  have:=k.cy1
  have:=k.al0
  have:=k.al1
  have:=k.gr0
  have:=k.gr1
  omega
 ·rw [celB_iff.2 ⟨q0,q1,q2,q3,q4,q5,q6,q7,q8,q9,q10,q11,q12,q13,q14,q15,q16,q17,q18,q19,q20,q21,h1,h2,h3⟩]; simp [errA]
noncomputable def SRd : Sums:=⟨(32,mkSum _ ccheckS) :: (59,mkSum _ rcapS) :: SRc.one,SRc.two,SRc.lo,SRc.eqs,SRc.its,SRc.imm⟩
theorem SRd_ok : SumsOK Tryz.prog SRd:=((SRc_ok.cons Tryz.func59 (by kernel_rfl) (by kernel_rfl) rcap_ok).cons Tryz.func32 (by kernel_rfl) (by kernel_rfl) rcheck_ok)
set_option maxRecDepth 100000 in
set_option maxHeartbeats 4000000 in
theorem rcst_ok : FnSpec Tryz.prog 34 _ cstS:=by
 refine FnSpec.of SRd_ok mixed (U:=0) (I:=fun _=>[]) Tryz.func34 rfl (by kernel_rfl) rfl rfl (by decide +kernel) ?_
 rintro ⟨c,s,⟨⟩⟩ hpre
 obtain ⟨c,rfl⟩:=cel_ex c
 obtain ⟨s,rfl⟩:=sta_ex s
 have hpre : CelMax c:=by have : CelMax (celOf (celD c)):=hpre; rwa [celOf_D] at this
 unfold FnSat
 conv=>arg 2; reduce
 simp [cstS,betS,ccheckS,rcapS,and_assoc]
 refine ⟨hpre,fun h=>(csE_2 h).symm,fun h=>⟨fun t0 t1 h0 h1 a0 a1 r0 r1=>?_,fun h'=>(csE_3 h fun k=>?_).symm,fun t0 t1 h0 h1 a0 a1 r0 r1 q0 q1=>(csE_0 h ⟨t0,t1,h0,h1,a0,a1,r0,r1,q0,q1⟩).symm⟩⟩
 ·have hc:=celB_iff.1 h
  exact ⟨⟨hc.cy0,hc.cy1,hc.al0,hc.al1,h0,by omega,a0,by omega⟩,by have:=hc.cap0; omega,hc.cap1⟩
 ·have:=k.t0
  have:=k.t1
  have:=k.h0
  have:=k.h1
  have:=k.a0
  have:=k.a1
  have:=k.r0
  have:=k.r1
  have:=k.q0
  have:=k.q1
  omega
noncomputable def SRe : Sums:=⟨(34,mkSum _ cstS) :: SRd.one,SRd.two,SRd.lo,SRd.eqs,SRd.its,SRd.imm⟩
theorem SRe_ok : SumsOK Tryz.prog SRe:=(SRd_ok.cons Tryz.func34 (by kernel_rfl) (by kernel_rfl) rcst_ok)
end
end Abs
end Go.Proofs.YtlacopdaibhkkaaGreat

namespace Go.Proofs.YtlacopdaibhkkaaGreat
namespace Abs
open Go Go.RowKit
noncomputable section
structure Pk where
 n : Nat
 m : Nat -> Nat
 c : Nat -> Nat -> Cel
@[irreducible] def Pk.len (p : Pk) : Nat:=p.n
@[irreducible] def Pk.sz (p : Pk) : Nat -> Nat:=p.m
@[irreducible] def Pk.at (p : Pk) : Nat -> Nat -> Cel:=p.c
@[reducible] def grpSh : Sh:=.slice 17 celCells
@[reducible] def pkSh : Sh:=.agg [.slice 1 [grpSh]]
abbrev PkD:=(Nat × (Nat -> (Nat × (Nat -> CelD)) × Unit)) × Unit
@[irreducible] def pkOf (x : PkD) : Pk:=⟨x.1.1,fun i=>(x.1.2 i).1.1,fun i k=>celOf ((x.1.2 i).1.2 k)⟩
@[reducible] def pkD (p : Pk) : PkD:=((p.len,fun i=>((p.sz i,fun k=>celD (p.at i k)),())),())
@[simp] theorem pkOf_D (p : Pk) : pkOf (pkD p) = p:=by
 unfold pkOf pkD Pk.len Pk.sz Pk.at
 simp only [celOf_D]
theorem cel_D (x : CelD) : celD (celOf x) = x:=by
 obtain ⟨c,rfl⟩:=cel_ex x
 rw [celOf_D]
theorem pk_ex (x : Dat pkSh) : ∃ p : Pk,x = pkD p:=⟨pkOf x,by
 unfold pkD pkOf Pk.len Pk.sz Pk.at
 obtain ⟨⟨n,f⟩,⟨⟩⟩:=x
 simp only [cel_D]⟩
structure Sx where
 n : Nat
 m : Nat -> Nat
 s : Nat -> Nat -> Sta
@[irreducible] def Sx.len (p : Sx) : Nat:=p.n
@[irreducible] def Sx.sz (p : Sx) : Nat -> Nat:=p.m
@[irreducible] def Sx.at (p : Sx) : Nat -> Nat -> Sta:=p.s
@[reducible] def stgSh : Sh:=.slice 5 staCells
@[reducible] def sxSh : Sh:=.slice 1 [stgSh]
abbrev SxD:=Nat × (Nat -> (Nat × (Nat -> StaD)) × Unit)
@[irreducible] def sxOf (x : SxD) : Sx:=⟨x.1,fun i=>(x.2 i).1.1,fun i k=>staOf ((x.2 i).1.2 k)⟩
@[reducible] def sxD (p : Sx) : SxD:=(p.len,fun i=>((p.sz i,fun k=>staD (p.at i k)),()))
@[simp] theorem sxOf_D (p : Sx) : sxOf (sxD p) = p:=by
 unfold sxOf sxD Sx.len Sx.sz Sx.at
 simp only [staOf_D]
theorem sta_D (x : StaD) : staD (staOf x) = x:=by
 obtain ⟨c,rfl⟩:=sta_ex x
 rw [staOf_D]
theorem sx_ex (x : Dat sxSh) : ∃ p : Sx,x = sxD p:=⟨sxOf x,by
 unfold sxD sxOf Sx.len Sx.sz Sx.at
 obtain ⟨n,f⟩:=x
 simp only [sta_D]⟩
@[irreducible] def ferB (e : Nat -> Int) (k : Nat) : Bool:=!(decide (e k = 0))
theorem ferB_f {e : Nat -> Int} {k : Nat} : ferB e k = false ↔ e k = 0:=by unfold ferB; simp
theorem ferB_t {e : Nat -> Int} {k : Nat} : ferB e k = true ↔ e k ≠ 0:=by unfold ferB; simp
@[irreducible] def ferE (e : Nat -> Int) (n : Nat) : Int:=if firstN (ferB e) n < n then e (firstN (ferB e) n) else 0
theorem ferE_at {e : Nat -> Int} {n k : Nat} (hk : k < n) (h : ∀ j,j < k -> ferB e j = false) (h2 : e k ≠ 0) : ferE e n = e k:=by
 have hf : firstN (ferB e) n = k:=firstN_uniq (by omega) h fun _=>ferB_t.2 h2
 unfold ferE; rw [hf,if_pos hk]
theorem ferE_no {e : Nat -> Int} {n : Nat} (h : ∀ j,j < n -> ferB e j = false) : ferE e n = 0:=by
 have hf : firstN (ferB e) n = n:=firstN_uniq (Nat.le_refl _) h fun hh=>absurd hh (by omega)
 unfold ferE; rw [hf,if_neg (by omega)]
theorem ferE_0 {e : Nat -> Int} {n : Nat} : ferE e n = 0 ↔ ∀ j,j < n -> e j = 0:=by
 constructor
 ·intro h j hj
  have hle:=firstN_le (ferB e) n
  by_cases hf : firstN (ferB e) n < n
  ·have h1:=ferB_t.1 (firstN_is _ n hf)
   unfold ferE at h
   rw [if_pos hf] at h
   exact absurd h h1
  ·exact ferB_f.1 (firstN_not (ferB e) n j (by omega))
 ·intro h
  exact ferE_no fun j hj=>ferB_f.2 (h j hj)
@[irreducible] def cebB (c : Nat -> Cel) (k : Nat) : Bool:=!(celB (c k))
theorem cebB_f {c : Nat -> Cel} {k : Nat} : cebB c k = false ↔ celB (c k) = true:=by unfold cebB; simp
theorem cebB_t {c : Nat -> Cel} {k : Nat} : cebB c k = true ↔ celB (c k) = false:=by unfold cebB; simp
@[irreducible] def gcE (m : Nat) (c : Nat -> Cel) : Int:=if m < 1 \/ 4 < m then 6 else if anyN (cebB c) m = true then 2 else 0
theorem gcE_6 {m : Nat} {c : Nat -> Cel} (h : m < 1 \/ 4 < m) : gcE m c = 6:=by unfold gcE; rw [if_pos h]
theorem gcE_2 {m k : Nat} {c : Nat -> Cel} (h1 : 1 <= m) (h4 : m <= 4) (hk : k < m) (h : celB (c k) = false) : gcE m c = 2:=by
 unfold gcE; rw [if_neg (by omega),if_pos (anyN_iff.2 ⟨k,hk,cebB_t.2 h⟩)]
theorem gcE_0 {m : Nat} {c : Nat -> Cel} : gcE m c = 0 ↔ (1 <= m /\ m <= 4) /\ ∀ k,k < m -> celB (c k) = true:=by
 unfold gcE
 split
 ·constructor
  ·intro h; omega
  ·rintro ⟨h1,_⟩; omega
 ·rename_i h
  cases ha : anyN (cebB c) m with
  | true =>
    obtain ⟨k,hk,hp⟩:=anyN_iff.1 ha
    simp only [if_true]
    constructor
    ·intro h; omega
    ·rintro ⟨_,h3⟩
     have:=cebB_t.1 hp
     rw [h3 k hk] at this; cases this
  | false =>
    simp only [Bool.false_eq_true,if_false,true_iff]
    exact ⟨by omega,fun k hk=>cebB_f.1 (anyN_false.1 ha k hk)⟩
@[irreducible] def pgE (p : Pk) (i : Nat) : Int:=gcE (p.sz i) (p.at i)
theorem pgE_eq (p : Pk) (i : Nat) : pgE p i = gcE (p.sz i) (p.at i):=by unfold pgE; rfl
@[irreducible] def pkE (p : Pk) : Int:=if p.len < 1 \/ 16 < p.len then 6 else ferE (pgE p) p.len
theorem pkE_6 {p : Pk} (h : p.len < 1 \/ 16 < p.len) : pkE p = 6:=by unfold pkE; rw [if_pos h]
theorem pkE_n {p : Pk} (h : 1 <= p.len) (h' : p.len <= 16) : pkE p = ferE (pgE p) p.len:=by unfold pkE; rw [if_neg (by omega)]
theorem pkE_0 {p : Pk} : pkE p = 0 ↔ (1 <= p.len /\ p.len <= 16) /\ ∀ i,i < p.len -> (1 <= p.sz i /\ p.sz i <= 4) /\ ∀ k,k < p.sz i -> celB (p.at i k) = true:=by
 by_cases h : p.len < 1 \/ 16 < p.len
 ·rw [pkE_6 h]
  constructor
  ·intro h; omega
  ·rintro ⟨h1,_⟩; omega
 ·rw [pkE_n (by omega) (by omega),ferE_0]
  constructor
  ·intro h1; exact ⟨by omega,fun i hi=>gcE_0.1 (by rw [<- pgE_eq]; exact h1 i hi)⟩
  ·rintro ⟨_,h2⟩ i hi; rw [pgE_eq]; exact gcE_0.2 (h2 i hi)
def PkMax (p : Pk) : Prop:=∀ i,i < p.len -> ∀ k,k < p.sz i -> CelMax (p.at i k)
def pckS : Spec [pkSh]:=⟨fun (p,_)=>PkMax (pkOf p),fun (p,_)=>.si .i64 (pkE (pkOf p))⟩
def pckI : DatL [pkSh] -> Anns:=fun (p,_)=>[
 (4,[],fun fr hp=>⟨Nat,fun g=>⟨frI [.k 4,.t 4,.k 13,.s (.si .i64 (icast g)),.t 24] fr,hp⟩,Nat × Pk,fun g=>(g,pkOf p),fun (g,p)=>g <= p.len /\ ∀ j,j < g -> ferB (pgE p) j = false,fun g=>nsub 17 g⟩),
 (9,[],fun fr hp=>⟨Nat,fun k=>⟨frI [.k 5,.t 3,.k 27,.s (.si .i64 (icast k)),.t 10] fr,hp⟩,Nat × Nat × Pk,fun k=>(k,nat (intOf (getL fr 21)),pkOf p),fun (k,i,p)=>k <= p.sz i /\ ∀ j,j < k -> cebB (p.at i) j = false,fun k=>nsub 5 k⟩)]
attribute [local irreducible] FnSat
noncomputable def SL0 : Sums:=⟨S17.one,S17.two,S17.lo,S17.eqs,S17.its,[24,54,58]⟩
theorem SL0_ok : SumsOK Tryz.prog SL0:=S17_ok.setImm _
noncomputable def SL1 : Sums:=⟨(33,mkSum _ cstS) :: (31,mkSum _ ccheckS) :: SL0.one,SL0.two,SL0.lo,SL0.eqs,SL0.its,SL0.imm⟩
theorem SL1_ok : SumsOK Tryz.prog SL1:=((SL0_ok.cons Tryz.func31 (by kernel_rfl) (by kernel_rfl) ccheck_ok).cons Tryz.func33 (by kernel_rfl) (by kernel_rfl) cst_ok)
set_option maxRecDepth 100000 in
set_option maxHeartbeats 2000000 in
theorem pck_ok : FnSpec Tryz.prog 7 _ pckS:=by
 refine FnSpec.of SL1_ok mixed (U:=0) (I:=pckI) Tryz.func7 rfl (by kernel_rfl) rfl rfl (by decide +kernel) ?_
 rintro ⟨p,⟨⟩⟩ hpre
 obtain ⟨p,rfl⟩:=pk_ex p
 have hpre : PkMax p:=by have : PkMax (pkOf (pkD p)):=hpre; rwa [pkOf_D] at this
 unfold FnSat
 conv=>arg 2; reduce
 simp [pckS,ccheckS,ElEq,getB,goneB,aliveB,and_assoc]
 have h6 : p.len < 1 \/ 16 < p.len -> 6 = pkE p:=fun h=>(pkE_6 h).symm
 refine ⟨fun h=>h6 (by omega),fun a1 a2=>⟨⟨0,rfl,by omega,fun j hj=>by omega⟩,fun g hg hall=>⟨fun hlt=>?_,fun hge=>?_⟩⟩⟩
 ·have hE : pgE p g ≠ 0 -> pgE p g = pkE p:=fun h=>by rw [pkE_n (by omega) (by omega),ferE_at hlt hall h]
  have hG:=pgE_eq p g
  refine ⟨hlt,fun h=>?_,fun b1 b2=>⟨⟨0,rfl,by omega,fun j hj=>by omega⟩,fun k hk hal2=>⟨fun hkl=>⟨hkl,hpre g hlt k hkl,fun hf=>?_,fun ht=>⟨by omega,by omega,k + 1,by omega,by omega,fun j hj=>?_,by omega⟩⟩,fun hkg=>⟨by omega,by omega,g + 1,by omega,by omega,fun j hj=>?_,by omega⟩⟩⟩⟩
  ·rw [gcE_6 (by omega)] at hG
   rw [<- hE (by omega),hG]
  ·rw [gcE_2 (by omega) (by omega) hkl hf] at hG
   rw [<- hE (by omega),hG,hf]; simp [errA]
  ·by_cases e : j = k
   ·subst e; exact cebB_f.2 ht
   ·exact hal2 j (by omega)
  ·by_cases e : j = g
   ·subst e
    rw [gcE_0.2 ⟨by omega,fun i hi=>cebB_f.1 (hal2 i (by omega))⟩] at hG
    exact ferB_f.2 hG
   ·exact hall j (by omega)
 ·rw [pkE_n (by omega) (by omega),ferE_no fun j hj=>hall j (by omega)]
noncomputable def SL2 : Sums:=⟨(34,mkSum _ cstS) :: (32,mkSum _ ccheckS) :: (7,mkSum _ pckS) :: SL1.one,SL1.two,SL1.lo,SL1.eqs,SL1.its,SL1.imm⟩
theorem SL2_ok : SumsOK Tryz.prog SL2:=(((SL1_ok.cons Tryz.func7 (by kernel_rfl) (by kernel_rfl) pck_ok).cons Tryz.func32 (by kernel_rfl) (by kernel_rfl) rcheck_ok).cons Tryz.func34 (by kernel_rfl) (by kernel_rfl) rcst_ok)
def rpckI : DatL [pkSh] -> Anns:=fun (p,_)=>[
 (4,[],fun fr hp=>⟨Nat,fun g=>⟨frI [.k 3,.s (.si .i64 (icast g)),.t 2,.k 10,.t 32] fr,hp⟩,Nat × Pk,fun g=>(g,pkOf p),fun (g,p)=>g <= p.len /\ ∀ j,j < g -> ferB (pgE p) j = false,fun g=>nsub 17 g⟩),
 (10,[],fun fr hp=>⟨Nat,fun k=>⟨frI [.k 5,.s (.si .i64 (icast k)),.k 30,.t 12] fr,hp⟩,Nat × Nat × Pk,fun k=>(k,nat (intOf (getL fr 3)),pkOf p),fun (k,i,p)=>k <= p.sz i /\ ∀ j,j < k -> cebB (p.at i) j = false,fun k=>nsub 5 k⟩)]
set_option maxRecDepth 100000 in
set_option maxHeartbeats 2000000 in
theorem rpck_ok : FnSpec Tryz.prog 8 _ pckS:=by
 refine FnSpec.of SL2_ok mixed (U:=0) (I:=rpckI) Tryz.func8 rfl (by kernel_rfl) rfl rfl (by decide +kernel) ?_
 rintro ⟨p,⟨⟩⟩ hpre
 obtain ⟨p,rfl⟩:=pk_ex p
 have hpre : PkMax p:=by have : PkMax (pkOf (pkD p)):=hpre; rwa [pkOf_D] at this
 unfold FnSat
 conv=>arg 2; reduce
 simp [pckS,ccheckS,ElEq,getB,goneB,aliveB,and_assoc]
 have h6 : p.len < 1 \/ 16 < p.len -> 6 = pkE p:=fun h=>(pkE_6 h).symm
 refine ⟨fun h=>h6 (by omega),fun a1 a2=>⟨⟨0,rfl,by omega,fun j hj=>by omega⟩,fun g hg hall=>⟨fun hlt=>?_,fun hge=>?_⟩⟩⟩
 ·have hE : pgE p g ≠ 0 -> pgE p g = pkE p:=fun h=>by rw [pkE_n (by omega) (by omega),ferE_at hlt hall h]
  have hG:=pgE_eq p g
  refine ⟨hlt,fun h=>?_,fun b1 b2=>⟨⟨0,rfl,by omega,fun j hj=>by omega⟩,fun k hk hal2=>⟨fun hkl=>⟨hkl,hpre g hlt k hkl,fun hf=>?_,fun ht=>⟨by omega,by omega,k + 1,by omega,by omega,fun j hj=>?_,by omega⟩⟩,fun hkg=>⟨by omega,by omega,g + 1,by omega,by omega,fun j hj=>?_,by omega⟩⟩⟩⟩
  ·rw [gcE_6 (by omega)] at hG
   rw [<- hE (by omega),hG]
  ·rw [gcE_2 (by omega) (by omega) hkl hf] at hG
   rw [<- hE (by omega),hG]
  ·by_cases e : j = k
   ·subst e; exact cebB_f.2 ht
   ·exact hal2 j (by omega)
  ·by_cases e : j = g
   ·subst e
    rw [gcE_0.2 ⟨by omega,fun i hi=>cebB_f.1 (hal2 i (by omega))⟩] at hG
    exact ferB_f.2 hG
   ·exact hall j (by omega)
 ·rw [pkE_n (by omega) (by omega),ferE_no fun j hj=>hall j (by omega)]
noncomputable def SL3 : Sums:=⟨(8,mkSum _ pckS) :: SL2.one,SL2.two,SL2.lo,SL2.eqs,SL2.its,SL2.imm⟩
theorem SL3_ok : SumsOK Tryz.prog SL3:=(SL2_ok.cons Tryz.func8 (by kernel_rfl) (by kernel_rfl) rpck_ok)
@[irreducible] def sebB (c : Nat -> Cel) (s : Nat -> Sta) (k : Nat) : Bool:=!(stB (c k) (s k))
theorem sebB_f {c : Nat -> Cel} {s : Nat -> Sta} {k : Nat} : sebB c s k = false ↔ StOK (c k) (s k):=by unfold sebB; rw [<- stB_iff]; simp
theorem sebB_t {c : Nat -> Cel} {s : Nat -> Sta} {k : Nat} : sebB c s k = true ↔ ¬ StOK (c k) (s k):=by unfold sebB; rw [<- stB_iff]; simp
@[irreducible] def gsE (m : Nat) (c : Nat -> Cel) (n : Nat) (s : Nat -> Sta) : Int:=if n ≠ m then 20 else if anyN (sebB c s) m = true then 3 else 0
theorem gsE_20 {m n : Nat} {c : Nat -> Cel} {s : Nat -> Sta} (h : n ≠ m) : gsE m c n s = 20:=by unfold gsE; rw [if_pos h]
theorem gsE_3 {m n k : Nat} {c : Nat -> Cel} {s : Nat -> Sta} (h : n = m) (hk : k < m) (hs : ¬ StOK (c k) (s k)) : gsE m c n s = 3:=by
 unfold gsE; rw [if_neg (by omega),if_pos (anyN_iff.2 ⟨k,hk,sebB_t.2 hs⟩)]
theorem gsE_0 {m n : Nat} {c : Nat -> Cel} {s : Nat -> Sta} : gsE m c n s = 0 ↔ n = m /\ ∀ k,k < m -> StOK (c k) (s k):=by
 unfold gsE
 split
 ·constructor
  ·intro h; omega
  ·rintro ⟨h1,_⟩; omega
 ·rename_i h
  cases ha : anyN (sebB c s) m with
  | true =>
    obtain ⟨k,hk,hp⟩:=anyN_iff.1 ha
    simp only [if_true]
    constructor
    ·intro h; omega
    ·rintro ⟨_,h3⟩
     exact absurd (h3 k hk) (sebB_t.1 hp)
  | false =>
    simp only [Bool.false_eq_true,if_false,true_iff]
    exact ⟨by omega,fun k hk=>sebB_f.1 (anyN_false.1 ha k hk)⟩
@[irreducible] def sgE (p : Pk) (s : Sx) (i : Nat) : Int:=gsE (p.sz i) (p.at i) (s.sz i) (s.at i)
theorem sgE_eq (p : Pk) (s : Sx) (i : Nat) : sgE p s i = gsE (p.sz i) (p.at i) (s.sz i) (s.at i):=by unfold sgE; rfl
@[irreducible] def ssE (p : Pk) (s : Sx) : Int:=if pkE p = 0 then (if s.len = p.len then ferE (sgE p s) p.len else 20) else pkE p
theorem ssE_p {p : Pk} {s : Sx} (h : pkE p ≠ 0) : ssE p s = pkE p:=by unfold ssE; rw [if_neg h]
theorem ssE_20 {p : Pk} {s : Sx} (h : pkE p = 0) (h' : s.len ≠ p.len) : ssE p s = 20:=by unfold ssE; rw [if_pos h,if_neg h']
theorem ssE_n {p : Pk} {s : Sx} (h : pkE p = 0) (h' : s.len = p.len) : ssE p s = ferE (sgE p s) p.len:=by unfold ssE; rw [if_pos h,if_pos h']
theorem ssE_0 {p : Pk} {s : Sx} : ssE p s = 0 ↔ pkE p = 0 /\ s.len = p.len /\ ∀ i,i < p.len -> s.sz i = p.sz i /\ ∀ k,k < p.sz i -> StOK (p.at i k) (s.at i k):=by
 by_cases h : pkE p = 0
 ·by_cases h' : s.len = p.len
  ·rw [ssE_n h h',ferE_0]
   constructor
   ·intro h1; exact ⟨h,h',fun i hi=>gsE_0.1 (by rw [<- sgE_eq]; exact h1 i hi)⟩
   ·rintro ⟨_,_,h2⟩ i hi; rw [sgE_eq]; exact gsE_0.2 (h2 i hi)
  ·rw [ssE_20 h h']
   constructor
   ·intro h; omega
   ·rintro ⟨_,h1,_⟩; exact absurd h1 h'
 ·rw [ssE_p h]
  exact ⟨fun h'=>absurd h' h,fun h'=>absurd h'.1 h⟩
def scsS : Spec [pkSh,sxSh]:=⟨fun (p,_)=>PkMax (pkOf p),fun (p,s,_)=>.si .i64 (ssE (pkOf p) (sxOf s))⟩
def scsI : DatL [pkSh,sxSh] -> Anns:=fun (p,s,_)=>[
 (7,[],fun fr hp=>⟨Nat,fun g=>⟨frI [.k 6,.t 5,.k 14,.s (.si .i64 (icast g)),.t 33] fr,hp⟩,Nat × Pk × Sx,fun g=>(g,pkOf p,sxOf s),fun (g,p,s)=>g <= p.len /\ ∀ j,j < g -> ferB (sgE p s) j = false,fun g=>nsub 17 g⟩),
 (12,[],fun fr hp=>⟨Nat,fun k=>⟨frI [.k 8,.t 3,.k 29,.s (.si .i64 (icast k)),.t 18] fr,hp⟩,Nat × Nat × Pk × Sx,fun k=>(k,nat (intOf (getL fr 6)),pkOf p,sxOf s),fun (k,i,p,s)=>k <= p.sz i /\ ∀ j,j < k -> sebB (p.at i) (s.at i) j = false,fun k=>nsub 5 k⟩)]
set_option maxRecDepth 100000 in
set_option maxHeartbeats 2000000 in
theorem scs_ok : FnSpec Tryz.prog 9 _ scsS:=by
 refine FnSpec.of SL3_ok mixed (U:=0) (I:=scsI) Tryz.func9 rfl (by kernel_rfl) rfl rfl (by decide +kernel) ?_
 rintro ⟨p,s,⟨⟩⟩ hpre
 obtain ⟨p,rfl⟩:=pk_ex p
 obtain ⟨s,rfl⟩:=sx_ex s
 have hpre : PkMax p:=by have : PkMax (pkOf (pkD p)):=hpre; rwa [pkOf_D] at this
 unfold FnSat
 conv=>arg 2; reduce
 simp [scsS,pckS,cstS,ElEq,getB,goneB,aliveB,and_assoc]
 refine ⟨hpre,fun h=>(ssE_p h).symm,fun hp=>⟨fun h=>(ssE_20 hp (by omega)).symm,fun hl=>⟨⟨0,rfl,by omega,fun j hj=>by omega⟩,fun g hg hall=>⟨fun hlt=>?_,fun hge=>?_⟩⟩⟩⟩
 ·obtain ⟨⟨n1,n2⟩,hcl⟩:=pkE_0.1 hp
  have hE : sgE p s g ≠ 0 -> sgE p s g = ssE p s:=fun h=>by rw [ssE_n hp (by omega),ferE_at (by omega) hall h]
  have hG:=sgE_eq p s g
  have hgc:=hcl g (by omega)
  refine ⟨by omega,by omega,fun h=>?_,fun hs=>⟨⟨0,rfl,by omega,fun j hj=>by omega⟩,fun k hk hal2=>⟨fun hkl=>⟨by omega,by omega,by omega,hpre g (by omega) k (by omega),fun hne=>?_,fun he=>⟨by omega,by omega,k + 1,by omega,by omega,fun j hj=>?_,by omega⟩⟩,fun hkg=>⟨by omega,by omega,g + 1,by omega,by omega,fun j hj=>?_,by omega⟩⟩⟩⟩
  ·rw [gsE_20 (by omega)] at hG
   rw [<- hE (by omega),hG]
  ·have hb : ¬ StOK (p.at g k) (s.at g k):=fun hh=>hne (csE_0 (hgc.2 k (by omega)) hh)
   rw [gsE_3 (by omega) (by omega) hb] at hG
   rw [<- hE (by omega),hG,csE_3 (hgc.2 k (by omega)) hb]
  ·by_cases e : j = k
   ·subst e; exact sebB_f.2 (csE_iff.1 he).2
   ·exact hal2 j (by omega)
  ·by_cases e : j = g
   ·subst e
    rw [gsE_0.2 ⟨by omega,fun i hi=>sebB_f.1 (hal2 i (by omega))⟩] at hG
    exact ferB_f.2 hG
   ·exact hall j (by omega)
 ·rw [ssE_n hp (by omega),ferE_no fun j hj=>hall j (by omega)]
noncomputable def SL4 : Sums:=⟨(9,mkSum _ scsS) :: SL3.one,SL3.two,SL3.lo,SL3.eqs,SL3.its,SL3.imm⟩
theorem SL4_ok : SumsOK Tryz.prog SL4:=(SL3_ok.cons Tryz.func9 (by kernel_rfl) (by kernel_rfl) scs_ok)
def rscsI : DatL [pkSh,sxSh] -> Anns:=fun (p,s,_)=>[
 (6,[],fun fr hp=>⟨Nat,fun g=>⟨frI [.k 5,.s (.si .i64 (icast g)),.t 1,.k 11,.t 44] fr,hp⟩,Nat × Pk × Sx,fun g=>(g,pkOf p,sxOf s),fun (g,p,s)=>g <= p.len /\ ∀ j,j < g -> ferB (sgE p s) j = false,fun g=>nsub 17 g⟩),
 (11,[],fun fr hp=>⟨Nat,fun k=>⟨frI [.k 6,.s (.si .i64 (icast k)),.k 29,.t 26] fr,hp⟩,Nat × Nat × Pk × Sx,fun k=>(k,nat (intOf (getL fr 5)),pkOf p,sxOf s),fun (k,i,p,s)=>k <= p.sz i /\ ∀ j,j < k -> sebB (p.at i) (s.at i) j = false,fun k=>nsub 5 k⟩)]
set_option maxRecDepth 100000 in
set_option maxHeartbeats 2000000 in
theorem rscs_ok : FnSpec Tryz.prog 10 _ scsS:=by
 refine FnSpec.of SL4_ok mixed (U:=0) (I:=rscsI) Tryz.func10 rfl (by kernel_rfl) rfl rfl (by decide +kernel) ?_
 rintro ⟨p,s,⟨⟩⟩ hpre
 obtain ⟨p,rfl⟩:=pk_ex p
 obtain ⟨s,rfl⟩:=sx_ex s
 have hpre : PkMax p:=by have : PkMax (pkOf (pkD p)):=hpre; rwa [pkOf_D] at this
 unfold FnSat
 conv=>arg 2; reduce
 simp [scsS,pckS,cstS,ElEq,getB,goneB,aliveB,and_assoc]
 refine ⟨hpre,fun h=>⟨hpre,(ssE_p h).symm⟩,fun hp=>⟨fun h=>(ssE_20 hp (by omega)).symm,fun hl=>⟨⟨0,rfl,by omega,fun j hj=>by omega⟩,fun g hg hall=>⟨fun hlt=>?_,fun hge=>?_⟩⟩⟩⟩
 ·obtain ⟨⟨n1,n2⟩,hcl⟩:=pkE_0.1 hp
  have hE : sgE p s g ≠ 0 -> sgE p s g = ssE p s:=fun h=>by rw [ssE_n hp (by omega),ferE_at (by omega) hall h]
  have hG:=sgE_eq p s g
  have hgc:=hcl g (by omega)
  refine ⟨by omega,by omega,fun h=>?_,fun hs=>⟨⟨0,rfl,by omega,fun j hj=>by omega⟩,fun k hk hal2=>⟨by omega,⟨fun hkl=>⟨by omega,by omega,by omega,by omega,hpre g (by omega) k (by omega),fun hne=>?_,fun he=>⟨by omega,by omega,k + 1,by omega,by omega,fun j hj=>?_,by omega⟩⟩,fun hkg=>⟨by omega,by omega,g + 1,by omega,by omega,fun j hj=>?_,by omega⟩⟩⟩⟩⟩
  ·rw [gsE_20 (by omega)] at hG
   rw [<- hE (by omega),hG]
  ·have hb : ¬ StOK (p.at g k) (s.at g k):=fun hh=>hne (csE_0 (hgc.2 k (by omega)) hh)
   rw [gsE_3 (by omega) (by omega) hb] at hG
   rw [<- hE (by omega),hG]
  ·by_cases e : j = k
   ·subst e; exact sebB_f.2 (csE_iff.1 he).2
   ·exact hal2 j (by omega)
  ·by_cases e : j = g
   ·subst e
    rw [gsE_0.2 ⟨by omega,fun i hi=>sebB_f.1 (hal2 i (by omega))⟩] at hG
    exact ferB_f.2 hG
   ·exact hall j (by omega)
 ·rw [ssE_n hp (by omega),ferE_no fun j hj=>hall j (by omega)]
noncomputable def SL5 : Sums:=⟨(10,mkSum _ scsS) :: SL4.one,SL4.two,SL4.lo,SL4.eqs,SL4.its,SL4.imm⟩
theorem SL5_ok : SumsOK Tryz.prog SL5:=(SL4_ok.cons Tryz.func10 (by kernel_rfl) (by kernel_rfl) rscs_ok)
end
end Abs
end Go.Proofs.YtlacopdaibhkkaaGreat

namespace Go.Proofs.YtlacopdaibhkkaaGreat
namespace Abs
open Go Go.RowKit
noncomputable section
attribute [local irreducible] FnSat
noncomputable def SL6 : Sums:=⟨SL5.one,SL5.two,SL5.lo,SL5.eqs,SL5.its,SL5.imm⟩
theorem SL6_ok : SumsOK Tryz.prog SL6:=SL5_ok
noncomputable def SL7 : Sums:=⟨SL6.one,SL6.two,SL6.lo,SL6.eqs,SL6.its,SL6.imm⟩
theorem SL7_ok : SumsOK Tryz.prog SL7:=SL6_ok
@[irreducible] def bigC (c : Cel) : Bool:=decide (70 < c.ocv.nx) || decide (70 < c.ocv.ny) || decide (70 < c.cold.nx) || decide (70 < c.cold.ny) || decide (70 < c.stress.nx) || decide (70 < c.stress.ny)
@[irreducible] def bgC (c : Nat -> Cel) (k : Nat) : Bool:=bigC (c k)
@[irreducible] def bgP (p : Pk) (i : Nat) : Bool:=decide (6 < p.sz i) || anyN (bgC (p.at i)) (p.sz i)
@[irreducible] def bgS (s : Sx) (i : Nat) : Bool:=decide (6 < s.sz i)
@[irreducible] def grB (p : Pk) (s : Sx) : Bool:=decide (20 < p.len) || decide (20 < s.len) || anyN (bgP p) p.len || anyN (bgS s) s.len
def grS : Spec [pkSh,sxSh]:=⟨fun _=>True,fun (p,s,_)=>.sb (grB (pkOf p) (sxOf s))⟩
def pgrI : DatL [pkSh,sxSh] -> Anns:=fun (p,s,_)=>[
 (4,[],fun fr hp=>⟨Nat,fun g=>⟨frI [.k 5,.s (.si .i64 (icast g)),.t 2,.k 10,.t 84] fr,hp⟩,Nat × Pk,fun g=>(g,pkOf p),fun (g,p)=>g <= p.len /\ ∀ j,j < g -> bgP p j = false,fun g=>nsub 21 g⟩),
 (9,[],fun fr hp=>⟨Nat,fun k=>⟨frI [.k 6,.s (.si .i64 (icast k)),.t 1,.k 24,.t 70] fr,hp⟩,Nat × Nat × Pk,fun k=>(k,nat (intOf (getL fr 5)),pkOf p),fun (k,i,p)=>k <= p.sz i /\ ∀ j,j < k -> bgC (p.at i) j = false,fun k=>nsub 7 k⟩),
 (15,[],fun fr hp=>⟨Nat,fun g=>⟨frI [.k 8,.s (.si .i64 (icast g)),.k 81,.t 12] fr,hp⟩,Nat × Sx,fun g=>(g,sxOf s),fun (g,s)=>g <= s.len /\ ∀ j,j < g -> bgS s j = false,fun g=>nsub 21 g⟩)]
set_option maxRecDepth 100000 in
set_option maxHeartbeats 2000000 in
theorem gr_ok : FnSpec Tryz.prog 5 _ grS:=by
 refine FnSpec.of SL7_ok mixed (U:=0) (I:=pgrI) Tryz.func5 rfl (by kernel_rfl) rfl rfl (by decide +kernel) ?_
 rintro ⟨p,s,⟨⟩⟩ -
 obtain ⟨p,rfl⟩:=pk_ex p
 obtain ⟨s,rfl⟩:=sx_ex s
 unfold FnSat
 conv=>arg 2; reduce
 simp [grS,ElEq,getB,goneB,aliveB,and_assoc]
 have hP : ∀ g,g < p.len -> bgP p g = true -> grB p s = true:=fun g a b=>by
  have : anyN (bgP p) p.len = true:=anyN_iff.2 ⟨g,a,b⟩
  unfold grB; rw [this]; simp
 have hPn : ∀ g,bgP p g = false ↔ p.sz g <= 6 /\ ∀ k,k < p.sz g -> bgC (p.at g) k = false:=fun g=>by
  unfold bgP
  rw [Bool.or_eq_false_iff,anyN_false]
  simp
 have hPt : ∀ g,¬ bgP p g = false -> bgP p g = true:=fun g h=>by simpa using h
 have hS : ∀ g,g < s.len -> 6 < s.sz g -> grB p s = true:=fun g a b=>by
  have : anyN (bgS s) s.len = true:=anyN_iff.2 ⟨g,a,by unfold bgS; simpa using b⟩
  unfold grB; rw [this]; simp
 have hC : ∀ g k,bgC (p.at g) k = true ↔ (((((70 < (p.at g k).ocv.nx \/ 70 < (p.at g k).ocv.ny) \/ 70 < (p.at g k).cold.nx) \/ 70 < (p.at g k).cold.ny) \/ 70 < (p.at g k).stress.nx) \/ 70 < (p.at g k).stress.ny):=fun g k=>by
  unfold bgC bigC
  simp only [Bool.or_eq_true,decide_eq_true_eq]
 have hCf : ∀ g k,¬ bgC (p.at g) k = true -> bgC (p.at g) k = false:=fun g k h=>by simpa using h
 refine ⟨fun h=>?_,fun a1 a2=>⟨⟨0,rfl,by omega,fun j hj=>by omega⟩,fun g hg hall=>⟨fun hlt=>⟨hlt,fun h6=>hP g hlt (hPt g fun hh=>by have:=(hPn g).1 hh; omega),fun h6=>⟨⟨0,rfl,by omega,fun j hj=>by omega⟩,fun k hk hal2=>⟨hlt,fun hkl=>⟨hlt,hkl,fun hb=>?_,fun c1 c2 c3 c4 c5 c6=>⟨by omega,by omega,k + 1,by omega,by omega,fun j hj=>?_,by omega⟩⟩,fun hkg=>⟨by omega,by omega,g + 1,by omega,by omega,fun j hj=>?_,by omega⟩⟩⟩⟩,fun hge=>⟨⟨0,rfl,by omega,fun j hj=>by omega⟩,fun q hq hal3=>⟨fun hql=>⟨hql,fun h6=>hS q hql (by omega),fun h6=>⟨by omega,by omega,q + 1,by omega,by omega,fun j hj=>?_,by omega⟩⟩,fun hqg=>?_⟩⟩⟩⟩⟩
 ·unfold grB
  rcases h with h | h
  ·have : decide (20 < p.len) = true:=by simp; omega
   rw [this]; simp
  ·have : decide (20 < s.len) = true:=by simp; omega
   rw [this]; simp
 ·exact hP g hlt (hPt g fun hh=>by have:=((hPn g).1 hh).2 k hkl; rw [(hC g k).2 (by omega)] at this; cases this)
 ·by_cases e : j = k
  ·subst e; exact hCf g j fun hh=>by have:=(hC g j).1 hh; omega
  ·exact hal2 j (by omega)
 ·by_cases e : j = g
  ·subst e; exact (hPn j).2 ⟨by omega,fun i hi=>hal2 i (by omega)⟩
  ·exact hall j (by omega)
 ·by_cases e : j = q
  ·subst e; unfold bgS; simp; omega
  ·exact hal3 j (by omega)
 ·have e1 : anyN (bgP p) p.len = false:=anyN_false.2 fun j hj=>hall j (by omega)
  have e2 : anyN (bgS s) s.len = false:=anyN_false.2 fun j hj=>hal3 j (by omega)
  unfold grB; rw [e1,e2]; simp; omega
noncomputable def SL8 : Sums:=⟨(5,mkSum _ grS) :: SL7.one,SL7.two,SL7.lo,SL7.eqs,SL7.its,SL7.imm⟩
theorem SL8_ok : SumsOK Tryz.prog SL8:=(SL7_ok.cons Tryz.func5 (by kernel_rfl) (by kernel_rfl) gr_ok)
theorem grB_f {p : Pk} {s : Sx} (h : grB p s = false) : p.len <= 20 /\ s.len <= 20 /\ PkMax p /\ (∀ i,i < p.len -> p.sz i <= 6) /\ ∀ i,i < s.len -> s.sz i <= 6:=by
 unfold grB at h
 simp only [Bool.or_eq_false_iff,anyN_false,decide_eq_false_iff_not] at h
 obtain ⟨⟨⟨h1,h2⟩,h3⟩,h4⟩:=h
 refine ⟨by omega,by omega,fun i hi k hk=>?_,fun i hi=>?_,fun i hi=>?_⟩
 ·have:=h3 i hi
  unfold bgP at this
  rw [Bool.or_eq_false_iff,anyN_false] at this
  have:=this.2 k hk
  unfold bgC bigC at this
  simp only [Bool.or_eq_false_iff,decide_eq_false_iff_not] at this
  unfold CelMax maxLen
  omega
 ·have:=h3 i hi
  unfold bgP at this
  rw [Bool.or_eq_false_iff] at this
  have:=this.1
  simp only [decide_eq_false_iff_not] at this
  omega
 ·have:=h4 i hi
  unfold bgS at this
  simp only [decide_eq_false_iff_not] at this
  omega
end
end Abs
end Go.Proofs.YtlacopdaibhkkaaGreat

namespace Go.Proofs.YtlacopdaibhkkaaGreat
namespace Abs
open Go Go.RowKit
noncomputable section
attribute [local irreducible] FnSat
noncomputable def SRf : Sums:=⟨SRe.one,SRe.two,SRe.lo,SRe.eqs,SRe.its,SRe.imm⟩
theorem SRf_ok : SumsOK Tryz.prog SRf:=SRe_ok
@[irreducible] def stA (c : Cel) (s : Sta) (i a : Int) : Sta:=⟨aV c s (stpV c s i a (nxQ c s i)),aV c s (stpV c s i a (nxR c s i)),aV c s (stpV c s i a (nxT c s i a)),aV c s (stpV c s i a (nxH s i)),aV c s (stpV c s i a (nxA c s))⟩
@[irreducible] def stAE (c : Cel) (s : Sta) (i a : Int) : Int:=aE c s (stpE c s i a)
def stpT : Spec [celSh,staSh,inSh]:=⟨fun (c,_)=>CelMax (celOf c),fun (c,s,((i : Int),(a : Int),_),_) =>
 .tup [.agg [.si .i64 (stA (celOf c) (staOf s) i a).q,.si .i64 (stA (celOf c) (staOf s) i a).rx,.si .i64 (stA (celOf c) (staOf s) i a).tp,.si .i64 (stA (celOf c) (staOf s) i a).th,.si .i64 (stA (celOf c) (staOf s) i a).ag],
  .si .i64 (stAE (celOf c) (staOf s) i a)]⟩
theorem stpT_ok : FnSpec Tryz.prog 40 _ stpT:=fun x hx=>by
 have h:=stp_ok x hx
 have e : stpS.res x = stpT.res x:=by
  obtain ⟨c,s,⟨(i : Int),(a : Int),⟨⟩⟩,⟨⟩⟩:=x
  show AV.tup _ = AV.tup _
  unfold stA stAE
  simp
 rw [<- e]; exact h
theorem stA_iff {c : Cel} {s : Sta} {i a : Int} (h : csE c s = 0) : (stAE c s i a = 0 ↔ inB i a = true /\ ovr c s i = false) /\ (stAE c s i a = 0 \/ stAE c s i a = 3 \/ stAE c s i a = 4):=by
 unfold stAE
 rw [aE_yes h]
 unfold stpE
 cases inB i a <;> cases ovr c s i <;> simp
theorem stA_0 {c : Cel} {s : Sta} {i a : Int} (h : csE c s = 0) (h2 : stAE c s i a = 0) : stA c s i a = ⟨nxQ c s i,nxR c s i,nxT c s i a,nxH s i,nxA c s⟩:=by
 have h3 : stpE c s i a = 0:=by unfold stAE at h2; rwa [aE_yes h] at h2
 unfold stA
 simp only [aV_yes h,stpV_yes h3]
theorem stA_ok {c : Cel} {s : Sta} {i a : Int} (h : csE c s = 0) (h2 : stAE c s i a = 0) : StOK c (stA c s i a) /\ -1048576 <= i /\ i <= 1048576 /\ 0 <= a /\ a <= 400000:=by
 have h3:=((stA_iff h).1.1 h2)
 have h4:=inB_iff.1 h3.1
 have h5:=h3.2
 unfold ovr at h5
 simp at h5
 obtain ⟨hc,hs⟩:=csE_iff.1 h
 have hk:=celB_iff.1 hc
 rw [stA_0 h h2]
 refine ⟨?_,h4.1.1,h4.1.2,h4.2.1,h4.2.2⟩
 have vs:=sc_val hk.stress s.tp
 have:=hs.h0
 have:=hs.a0
 have hH : nxH s i = s.th + max i (-i):=by unfold nxH; rfl
 have hA : nxA c s = s.ag + valL c.stress s.tp:=by unfold nxA; rfl
 have hR : -8388608 <= nxR c s i /\ nxR c s i <= 8388608:=by unfold nxR slackV; exact clipV_in (by decide)
 have hT : 0 <= nxT c s i a /\ nxT c s i a <= 400000:=by unfold nxT; exact clipV_in (by decide)
 have hQ : 0 <= nxQ c s i /\ nxQ c s i <= roomV c (wearV c (nxH s i) (nxA c s)):=by
  unfold nxQ
  refine clipV_in ?_
  have:=(@roomV_in c (wearV c (nxH s i) (nxA c s))).1
  omega
 constructor <;> simp only [Sta.q_mk,Sta.rx_mk,Sta.tp_mk,Sta.th_mk,Sta.ag_mk] <;> omega
noncomputable def SRg : Sums:=⟨(40,mkSum _ stpT) :: SRf.one,SRf.two,SRf.lo,SRf.eqs,SRf.its,SRf.imm⟩
theorem SRg_ok : SumsOK Tryz.prog SRg:=(SRf_ok.cons Tryz.func40 (by kernel_rfl) (by kernel_rfl) stpT_ok)
end
end Abs
end Go.Proofs.YtlacopdaibhkkaaGreat

namespace Go.Proofs.YtlacopdaibhkkaaGreat
namespace Abs
open Go Go.RowKit
noncomputable section
attribute [local irreducible] FnSat
@[irreducible] def grI (p : Int -> Bool) (most : Int) : Int:=((firstN (fun k=>!(p ((k : Int) + 1))) most.toNat : Nat) : Int)
structure Mono (p : Int -> Bool) (most : Int) : Prop where
 h0 : 0 <= most
 p0 : p 0 = true
 dn : ∀ i j,0 <= i -> i <= j -> j <= most -> p j = true -> p i = true
theorem grI_uniq {p : Int -> Bool} {most g : Int} (h : Mono p most) (g0 : 0 <= g) (g1 : g <= most) (hp : p g = true) (hn : g < most -> p (g + 1) = false) : grI p most = g:=by
 unfold grI
 have e : firstN (fun k : Nat=>!(p ((k : Int) + 1))) most.toNat = g.toNat:=by
  refine firstN_uniq (by omega) (fun j hj=>?_) (fun hlt=>?_)
  ·have:=h.dn ((j : Int) + 1) g (by omega) (by omega) g1 hp
   simp [this]
  ·have e1 : ((g.toNat : Nat) : Int) + 1 = g + 1:=by omega
   simp only [e1,hn (by omega),Bool.not_false]
 rw [e]; omega
theorem grI_spec {p : Int -> Bool} {most : Int} (h : Mono p most) : 0 <= grI p most /\ grI p most <= most /\ p (grI p most) = true /\ ∀ i,grI p most < i -> i <= most -> p i = false:=by
 have hle:=firstN_le (fun k : Nat=>!(p ((k : Int) + 1))) most.toNat
 have h0:=h.h0
 have hp : p (grI p most) = true:=by
  unfold grI
  cases hf : firstN (fun k : Nat=>!(p ((k : Int) + 1))) most.toNat with
  | zero=>exact h.p0
  | succ m =>
    have:=firstN_not (fun k : Nat=>!(p ((k : Int) + 1))) most.toNat m (by omega)
    simpa using this
 have hb : 0 <= grI p most /\ grI p most <= most:=by unfold grI; omega
 refine ⟨hb.1,hb.2,hp,fun i h1 h2=>?_⟩
 cases hi : p i with
 | false=>rfl
 | true =>
   exfalso
   have hlt : firstN (fun k : Nat=>!(p ((k : Int) + 1))) most.toNat < most.toNat:=by unfold grI at h1; omega
   have:=firstN_is _ _ hlt
   have h3 : p (grI p most + 1) = true:=h.dn _ i (by omega) (by omega) h2 hi
   unfold grI at h3
   simp [h3] at this
@[irreducible] def outP (c : Cel) (s : Sta) (l h a i : Int) : Bool:=decide (l <= voltV c s i) && decide (i + c.leak <= s.q) && decide (nxT c s i a <= h)
@[irreducible] def inP (c : Cel) (s : Sta) (m h a j : Int) : Bool:=decide (voltV c s (-j) <= m) && decide (nxT c s (-j) a <= h) && decide (s.q + j - c.leak <= roomV c (wearV c (nxH s (-j)) (nxA c s)))
theorem outP_iff {c : Cel} {s : Sta} {l h a i : Int} : outP c s l h a i = true ↔ l <= voltV c s i /\ i + c.leak <= s.q /\ nxT c s i a <= h:=by unfold outP; simp [and_assoc]
theorem inP_iff {c : Cel} {s : Sta} {m h a j : Int} : inP c s m h a j = true ↔ voltV c s (-j) <= m /\ nxT c s (-j) a <= h /\ s.q + j - c.leak <= roomV c (wearV c (nxH s (-j)) (nxA c s)):=by unfold inP; simp [and_assoc]
theorem voltV_mono {c : Cel} {s : Sta} {i j : Int} (h : i <= j) : voltV c s j <= voltV c s i:=by
 have:=dvI_mono (d:=1000) (by decide) (Int.mul_le_mul_of_nonneg_right h (@rV_in c s).1)
 unfold voltV
 omega
theorem sq_mono {i j : Int} (h0 : 0 <= i) (h : i <= j) : i * i <= j * j:=Int.mul_le_mul h h h0 (by omega)
theorem heatV_mono {c : Cel} {s : Sta} {i j : Int} (h0 : 0 <= i) (h : i <= j) : heatV c s i <= heatV c s j:=by
 have:=dvI_mono (d:=1000000000) (by decide) (Int.mul_le_mul_of_nonneg_right (sq_mono h0 h) (@rV_in c s).1)
 unfold heatV
 omega
theorem heatV_neg (c : Cel) (s : Sta) (i : Int) : heatV c s (-i) = heatV c s i:=by unfold heatV; rw [Int.neg_mul_neg]
theorem nxT_heat {c : Cel} {s : Sta} {i j a : Int} (hc : celB c = true) (h : heatV c s i <= heatV c s j) : nxT c s i a <= nxT c s j a:=by
 have:=dvI_mono (d:=c.hcap) (celB_iff.1 hc).hc0 (show 1000 * heatV c s i <= 1000 * heatV c s j by omega)
 unfold nxT
 exact clipV_mono (by omega)
theorem out_mono {c : Cel} {s : Sta} {l h a most : Int} (hc : celB c = true) (h0 : 0 <= most) (hp : outP c s l h a 0 = true) : Mono (outP c s l h a) most:=by
 refine ⟨h0,hp,fun i j i0 ij _ hj=>?_⟩
 obtain ⟨h1,h2,h3⟩:=outP_iff.1 hj
 have v:=@voltV_mono c s i j ij
 have t:=nxT_heat (a:=a) hc (@heatV_mono c s i j i0 ij)
 exact outP_iff.2 ⟨by omega,by omega,by omega⟩
theorem in_mono {c : Cel} {s : Sta} {m h a most : Int} (hc : celB c = true) (h0 : 0 <= most) (hp : inP c s m h a 0 = true) : Mono (inP c s m h a) most:=by
 refine ⟨h0,hp,fun i j i0 ij _ hj=>?_⟩
 obtain ⟨h1,h2,h3⟩:=inP_iff.1 hj
 have hk:=celB_iff.1 hc
 have v:=@voltV_mono c s (-j) (-i) (by omega)
 have t:=nxT_heat (c:=c) (s:=s) (i:=-i) (j:=-j) (a:=a) hc (by rw [heatV_neg,heatV_neg]; exact heatV_mono i0 ij)
 have hH : nxH s (-i) <= nxH s (-j):=by unfold nxH; omega
 have m1:=dvI_mono (d:=1073741824) (by decide) (Int.mul_le_mul_of_nonneg_right hH hk.cy0)
 have r : roomV c (wearV c (nxH s (-j)) (nxA c s)) <= roomV c (wearV c (nxH s (-i)) (nxA c s)):=by unfold roomV wearV; omega
 exact inP_iff.2 ⟨by omega,by omega,by omega⟩
@[reducible] def limCells : List Sh:=[.int .i64,.int .i64,.int .i64,.int .i64,.int .i64]
@[reducible] def limSh : Sh:=.agg limCells
@[irreducible] def limB (l m o i h : Int) : Bool:=isIn (-8388608) l 8388608 && isIn (-8388608) m 8388608 && decide (l <= m) && isIn 0 o 1048576 && isIn 0 i 1048576 && isIn 0 h 400000
theorem limB_iff {l m o i h : Int} : limB l m o i h = true ↔ (-8388608 <= l /\ l <= 8388608) /\ (-8388608 <= m /\ m <= 8388608) /\ l <= m /\ (0 <= o /\ o <= 1048576) /\ (0 <= i /\ i <= 1048576) /\ 0 <= h /\ h <= 400000:=by unfold limB isIn; simp [and_assoc]
def limS : Spec [limSh]:=⟨fun _=>True,fun (((l : Int),(m : Int),(o : Int),(i : Int),(h : Int),_),_)=>.si .i64 (errA (limB l m o i h))⟩
set_option maxRecDepth 100000 in
theorem lim_ok : FnSpec Tryz.prog 138 _ limS:=by
 refine FnSpec.of SRg_ok mixed (U:=0) (I:=fun _=>[]) Tryz.func138 rfl (by kernel_rfl) rfl rfl (by decide +kernel) ?_
 rintro ⟨⟨(l : Int),(m : Int),(o : Int),(i : Int),(h : Int),⟨⟩⟩,⟨⟩⟩ -
 unfold FnSat
 conv=>arg 2; reduce
 simp [limS,betS,and_assoc]
 have no : (limB l m o i h = true -> False) -> 2 = errA (limB l m o i h):=fun hh=>by
  cases hb : limB l m o i h with
  | false=>simp [errA]
  | true=>exact (hh hb).elim
 refine ⟨fun hh=>no fun hb=>?_,fun q0 q1 q2 q3 q4 q5 q6 q7 q8 q9 q10=>?_⟩
 ·have:=limB_iff.1 hb; omega
 ·rw [limB_iff.2 ⟨⟨q0,q1⟩,⟨q2,q3⟩,q4,⟨q5,q6⟩,⟨q7,q8⟩,q9,q10⟩]; simp [errA]
set_option maxRecDepth 100000 in
theorem rlim_ok : FnSpec Tryz.prog 89 _ limS:=by
 refine FnSpec.of SRg_ok mixed (U:=0) (I:=fun _=>[]) Tryz.func89 rfl (by kernel_rfl) rfl rfl (by decide +kernel) ?_
 rintro ⟨⟨(l : Int),(m : Int),(o : Int),(i : Int),(h : Int),⟨⟩⟩,⟨⟩⟩ -
 unfold FnSat
 conv=>arg 2; reduce
 simp [limS,betS,and_assoc]
 have no : (limB l m o i h = true -> False) -> 2 = errA (limB l m o i h):=fun hh=>by
  cases hb : limB l m o i h with
  | false=>simp [errA]
  | true=>exact (hh hb).elim
 refine ⟨fun hh=>no fun hb=>?_,fun q0 q1 q2 q3 q4 q5 q6 q7 q8 q9 q10=>?_⟩
 ·have:=limB_iff.1 hb; omega
 ·rw [limB_iff.2 ⟨⟨q0,q1⟩,⟨q2,q3⟩,q4,⟨q5,q6⟩,⟨q7,q8⟩,q9,q10⟩]; simp [errA]
noncomputable def SMa : Sums:=⟨(89,mkSum _ limS) :: (138,mkSum _ limS) :: SRg.one,SRg.two,SRg.lo,SRg.eqs,SRg.its,SRg.imm⟩
theorem SMa_ok : SumsOK Tryz.prog SMa:=((SRg_ok.cons Tryz.func138 (by kernel_rfl) (by kernel_rfl) lim_ok).cons Tryz.func89 (by kernel_rfl) (by kernel_rfl) rlim_ok)
end
end Abs
end Go.Proofs.YtlacopdaibhkkaaGreat

namespace Go.Proofs.YtlacopdaibhkkaaGreat
namespace Abs
open Go Go.RowKit
noncomputable section
attribute [local irreducible] FnSat
set_option maxRecDepth 100000 in
theorem rfill_ok : FnSpec Tryz.prog 95 _ pcS:=by
 refine FnSpec.of SMa_ok mixed (U:=0) (I:=fun _=>[]) Tryz.func95 rfl (by kernel_rfl) rfl rfl (by decide +kernel) ?_
 rintro ⟨(x : Int),(o : Int),⟨⟩⟩ ⟨(h1 : -17592186044416 <= x),(h2 : x <= 17592186044416),(h3 : 1 <= o)⟩
 unfold FnSat
 conv=>arg 2; reduce
 simp [pcS,divS,and_assoc]
 unfold pcV
 omega
theorem val_pre {c : Crv} {last most : Int} (h : scB c last most = true) (h1 : last <= 400000) (h2 : most <= 8388608) : crB c = true /\ c.x 0 = 0 /\ c.x (c.nx - 1) <= 400000 /\ 0 <= c.y 0 /\ c.y (c.nx - 1) <= 8388608:=by
 have h:=scB_iff.1 h
 exact ⟨h.1,h.2.1,by omega,h.2.2.2.1,by omega⟩
def ropenS : Spec [celSh,.int .i64]:=⟨fun (c,(f : Int),_)=>celB (celOf c) = true /\ -1099511627776 <= f /\ f <= 1099511627776,fun (c,(f : Int),_)=>.si .i64 (openV (celOf c) f)⟩
set_option maxRecDepth 100000 in
theorem ropen_ok : FnSpec Tryz.prog 94 _ ropenS:=by
 refine FnSpec.of SMa_ok mixed (U:=0) (I:=fun _=>[]) Tryz.func94 rfl (by kernel_rfl) rfl rfl (by decide +kernel) ?_
 rintro ⟨c,(f : Int),⟨⟩⟩ hpre
 obtain ⟨c,rfl⟩:=cel_ex c
 have hpre : celB c = true /\ -1099511627776 <= f /\ f <= 1099511627776:=by have : celB (celOf (celD c)) = true /\ -1099511627776 <= f /\ f <= 1099511627776:=hpre; rwa [celOf_D] at this
 unfold FnSat
 conv=>arg 2; reduce
 simp [ropenS,rvalS,ElEq,and_assoc]
 obtain ⟨hc,f1,f2⟩:=hpre
 have hc:=celB_iff.1 hc
 have hv:=sc_val hc.ocv f
 have:=hc.sh0
 have:=hc.sh1
 have vp:=val_pre hc.ocv (by decide) (by decide)
 unfold openV
 exact ⟨vp.1,vp.2.1,vp.2.2.1,vp.2.2.2.1,vp.2.2.2.2,f1,f2,by omega,by omega,rfl⟩
def rresS : Spec [celSh,.int .i64,.int .i64]:=⟨fun (c,(t : Int),(w : Int),_)=>celB (celOf c) = true /\ 0 <= t /\ t <= 400000 /\ 0 <= w /\ w <= 17179869184,fun (c,(t : Int),(w : Int),_)=>.si .i64 (resV (celOf c) t w)⟩
set_option maxRecDepth 100000 in
theorem rres_ok : FnSpec Tryz.prog 92 _ rresS:=by
 refine FnSpec.of SMa_ok mixed (U:=0) (I:=fun _=>[]) Tryz.func92 rfl (by kernel_rfl) rfl rfl (by decide +kernel) ?_
 rintro ⟨c,(t : Int),(w : Int),⟨⟩⟩ hpre
 obtain ⟨c,rfl⟩:=cel_ex c
 have hpre : celB c = true /\ 0 <= t /\ t <= 400000 /\ 0 <= w /\ w <= 17179869184:=by have : celB (celOf (celD c)) = true /\ 0 <= t /\ t <= 400000 /\ 0 <= w /\ w <= 17179869184:=hpre; rwa [celOf_D] at this
 unfold FnSat
 conv=>arg 2; reduce
 simp [rresS,rvalS,divS,clipS,ElEq,and_assoc]
 obtain ⟨hc,t0,t1,w0,w1⟩:=hpre
 have hc:=celB_iff.1 hc
 have hv:=sc_val hc.cold (400000 - t)
 have h1:=mul_in w0 w1 hc.gr0 hc.gr1
 have h2:=dvI_le (a:=w * c.grow) (d:=65536) (m:=274877906944) (by decide) (by omega)
 have h3:=dvI_nonneg (a:=w * c.grow) (d:=65536) (by decide) h1.1
 have:=hc.ex0
 have:=hc.ex1
 have vp:=val_pre hc.cold (by decide) (by decide)
 unfold resV
 exact ⟨by omega,by omega,vp.1,vp.2.1,vp.2.2.1,vp.2.2.2.1,vp.2.2.2.2,by omega,by omega,by omega,by omega,by omega,by omega,by omega,by omega,by omega,by omega,rfl⟩
@[irreducible] def secV (r p : Int) : Int:=if 0 < p then dvI (r * r) (1000 * p) else 0
def rsecS : Spec [.int .i64,.int .i64]:=⟨fun ((r : Int),(p : Int),_)=>-8388608 <= r /\ r <= 8388608 /\ 0 <= p /\ p <= 1048576,fun ((r : Int),(p : Int),_)=>.si .i64 (secV r p)⟩
set_option maxRecDepth 100000 in
theorem rsec_ok : FnSpec Tryz.prog 136 _ rsecS:=by
 refine FnSpec.of SMa_ok mixed (U:=0) (I:=fun _=>[]) Tryz.func136 rfl (by kernel_rfl) rfl rfl (by decide +kernel) ?_
 rintro ⟨(r : Int),(p : Int),⟨⟩⟩ ⟨(r1 : -8388608 <= r),(r2 : r <= 8388608),(p1 : 0 <= p),(p2 : p <= 1048576)⟩
 unfold FnSat
 conv=>arg 2; reduce
 simp [rsecS,divS,and_assoc]
 have m3:=sq_in (a:=r) (A:=8388608) r1 r2
 refine ⟨fun h=>?_,fun h=>?_⟩
 ·unfold secV; rw [if_neg (by omega)]
 ·exact ⟨by omega,by omega,by omega,by omega,by omega,by omega,by omega,by unfold secV; rw [if_pos (by omega)]⟩
@[irreducible] def relV (k o i p : Int) : Int:=dvI (1000 * k * o + (65536 - k) * i * p) 65536000
def rrelS : Spec [.int .i64,.int .i64,.int .i64,.int .i64]:=⟨fun ((k : Int),(o : Int),(i : Int),(p : Int),_)=>0 <= k /\ k <= 65536 /\ -8388608 <= o /\ o <= 8388608 /\ -1048576 <= i /\ i <= 1048576 /\ 0 <= p /\ p <= 1048576,
 fun ((k : Int),(o : Int),(i : Int),(p : Int),_)=>.si .i64 (relV k o i p)⟩
set_option maxRecDepth 100000 in
theorem rrel_ok : FnSpec Tryz.prog 115 _ rrelS:=by
 refine FnSpec.of SMa_ok mixed (U:=0) (I:=fun _=>[]) Tryz.func115 rfl (by kernel_rfl) rfl rfl (by decide +kernel) ?_
 rintro ⟨(k : Int),(o : Int),(i : Int),(p : Int),⟨⟩⟩ ⟨(k0 : 0 <= k),(k1 : k <= 65536),(o0 : -8388608 <= o),(o1 : o <= 8388608),(i0 : -1048576 <= i),(i1 : i <= 1048576),(p0 : 0 <= p),(p1 : p <= 1048576)⟩
 unfold FnSat
 conv=>arg 2; reduce
 simp [rrelS,divS,and_assoc]
 have h1:=mul_ab (a:=o) (b:=1000 * k) (A:=8388608) (B:=65536000) o0 o1 (by omega) (by omega)
 have h2:=mul_ab (a:=i) (b:=65536 - k) (A:=1048576) (B:=65536) i0 i1 (by omega) (by omega)
 rw [Int.mul_comm o] at h1
 rw [Int.mul_comm i] at h2
 have h3:=mul_ab (a:=(65536 - k) * i) (b:=p) (A:=68719476736) (B:=1048576) (by omega) (by omega) p0 p1
 have e : dvI (1000 * k * o + (65536 - k) * i * p) 65536000 = relV k o i p:=by unfold relV; rfl
 rw [e]
 repeat' (first | refine And.intro ?_ ?_ | intro _)
 all_goals first | omega | rfl
noncomputable def SRh : Sums:=⟨(115,mkSum _ rrelS) :: (136,mkSum _ rsecS) :: (92,mkSum _ rresS) :: (94,mkSum _ ropenS) :: (95,mkSum _ pcS) :: SMa.one,SMa.two,SMa.lo,SMa.eqs,SMa.its,SMa.imm⟩
theorem SRh_ok : SumsOK Tryz.prog SRh:=(((((SMa_ok.cons Tryz.func95 (by kernel_rfl) (by kernel_rfl) rfill_ok).cons Tryz.func94 (by kernel_rfl) (by kernel_rfl) ropen_ok).cons Tryz.func92 (by kernel_rfl) (by kernel_rfl) rres_ok).cons Tryz.func136 (by kernel_rfl) (by kernel_rfl) rsec_ok).cons Tryz.func115 (by kernel_rfl) (by kernel_rfl) rrel_ok)
def rheatS : Spec [celSh,staSh,.int .i64]:=⟨fun (c,s,(i : Int),_)=>csE (celOf c) (staOf s) = 0 /\ -1048576 <= i /\ i <= 1048576,fun (c,s,(i : Int),_)=>.si .i64 (heatV (celOf c) (staOf s) i)⟩
set_option maxRecDepth 100000 in
theorem rheat_ok : FnSpec Tryz.prog 116 _ rheatS:=by
 refine FnSpec.of SRh_ok mixed (U:=0) (I:=fun _=>[]) Tryz.func116 rfl (by kernel_rfl) rfl rfl (by decide +kernel) ?_
 rintro ⟨c,s,(i : Int),⟨⟩⟩ hpre
 obtain ⟨c,rfl⟩:=cel_ex c
 obtain ⟨s,rfl⟩:=sta_ex s
 have hpre : csE c s = 0 /\ -1048576 <= i /\ i <= 1048576:=by have : csE (celOf (celD c)) (staOf (staD s)) = 0 /\ -1048576 <= i /\ i <= 1048576:=hpre; rwa [celOf_D,staOf_D] at this
 obtain ⟨hcs,i1,i2⟩:=hpre
 obtain ⟨h1,h2⟩:=csE_iff.1 hcs
 unfold FnSat
 conv=>arg 2; reduce
 simp [rheatS,rwearS,rresS,rsecS,divS,and_assoc]
 have hk:=celB_iff.1 h1
 have:=h2.h1
 have:=h2.a1
 have hw : WearOK c s.th s.ag:=⟨hk.cy0,hk.cy1,hk.al0,hk.al1,h2.h0,by omega,h2.a0,by omega⟩
 have hw2:=wearV_in hw
 have ew : wearV c s.th s.ag = wV c s:=by unfold wV; rfl
 have er : resV c s.tp (wearV c s.th s.ag) = rV c s:=by unfold rV; rw [ew]
 have r:=@rV_in c s
 rw [er]
 have m1:=sq_in i1 i2
 have m2:=mul_in m1.1 m1.2 r.1 r.2
 have hh:=heatV_in h1 h2 i1 i2
 have e : dvI (i * i * rV c s) 1000000000 + secV s.rx c.pair = heatV c s i:=by unfold heatV secV; rfl
 rw [e]
 exact ⟨hw,h1,h2.t0,h2.t1,by omega,by omega,by omega,by omega,by omega,by omega,by omega,by omega,h2.r0,h2.r1,hk.pr0,hk.pr1,by omega,by omega,rfl⟩
def rvoltS : Spec [celSh,staSh,.int .i64]:=⟨fun (c,s,(i : Int),_)=>csE (celOf c) (staOf s) = 0 /\ -1048576 <= i /\ i <= 1048576,fun (c,s,(i : Int),_)=>.si .i64 (voltV (celOf c) (staOf s) i)⟩
set_option maxRecDepth 100000 in
theorem rvolt_ok : FnSpec Tryz.prog 58 _ rvoltS:=by
 refine FnSpec.of SRh_ok mixed (U:=0) (I:=fun _=>[]) Tryz.func58 rfl (by kernel_rfl) rfl rfl (by decide +kernel) ?_
 rintro ⟨c,s,(i : Int),⟨⟩⟩ hpre
 obtain ⟨c,rfl⟩:=cel_ex c
 obtain ⟨s,rfl⟩:=sta_ex s
 have hpre : csE c s = 0 /\ -1048576 <= i /\ i <= 1048576:=by have : csE (celOf (celD c)) (staOf (staD s)) = 0 /\ -1048576 <= i /\ i <= 1048576:=hpre; rwa [celOf_D,staOf_D] at this
 obtain ⟨hcs,i1,i2⟩:=hpre
 obtain ⟨h1,h2⟩:=csE_iff.1 hcs
 unfold FnSat
 conv=>arg 2; reduce
 simp [rvoltS,rwearS,rresS,rcapS,pcS,ropenS,divS,and_assoc]
 have hk:=celB_iff.1 h1
 have:=h2.h1
 have:=h2.a1
 have hw : WearOK c s.th s.ag:=⟨hk.cy0,hk.cy1,hk.al0,hk.al1,h2.h0,by omega,h2.a0,by omega⟩
 have hw2:=wearV_in hw
 have ew : wearV c s.th s.ag = wV c s:=by unfold wV; rfl
 have er : resV c s.tp (wearV c s.th s.ag) = rV c s:=by unfold rV; rw [ew]
 have r:=@rV_in c s
 rw [er]
 have m:=mul_ab (a:=i) (b:=rV c s) (A:=1048576) (B:=1048576) i1 i2 r.1 r.2
 have ek : roomV c (wearV c s.th s.ag) = kV c s:=by unfold kV; rw [ew]
 rw [ek]
 have k1:=kV_in h1 h2
 have q1:=q_in h2
 have f1:=fillV_in h1 h2
 have ef : pcV s.q (kV c s) = fillV c s:=by unfold fillV; rfl
 rw [ef]
 have o1:=opnV_in (s:=s) h1
 have eo : openV c (fillV c s) = opnV c s:=by unfold opnV; rfl
 rw [eo]
 have d1:=dvI_le (a:=i * rV c s) (d:=1000) (m:=1099511628) (by decide) (by omega)
 have d2:=dvI_ge (a:=i * rV c s) (d:=1000) (m:=-1099511628) (by decide) (by omega)
 have:=h2.r0
 have:=h2.r1
 have e : opnV c s - s.rx - dvI (i * rV c s) 1000 = voltV c s i:=by unfold voltV; rfl
 rw [e]
 have v:=voltV_in h1 h2 i1 i2
 exact ⟨hw,h1,h2.t0,h2.t1,by omega,by omega,hw,by have:=hk.cap0; omega,hk.cap1,by omega,by omega,by omega,h1,by omega,by omega,by omega,by omega,by omega,by omega,by omega,by omega,by omega,by omega,rfl⟩
noncomputable def SRi : Sums:=⟨(58,mkSum _ rvoltS) :: (116,mkSum _ rheatS) :: SRh.one,SRh.two,SRh.lo,SRh.eqs,SRh.its,SRh.imm⟩
theorem SRi_ok : SumsOK Tryz.prog SRi:=((SRh_ok.cons Tryz.func116 (by kernel_rfl) (by kernel_rfl) rheat_ok).cons Tryz.func58 (by kernel_rfl) (by kernel_rfl) rvolt_ok)
def rnextS : Spec [celSh,staSh,inSh]:=⟨fun (c,s,((i : Int),(a : Int),_),_)=>csE (celOf c) (staOf s) = 0 /\ -1048576 <= i /\ i <= 1048576 /\ 0 <= a /\ a <= 400000,fun (c,s,((i : Int),(a : Int),_),_) =>
 .agg [.si .i64 (nxQ (celOf c) (staOf s) i),.si .i64 (nxR (celOf c) (staOf s) i),.si .i64 (nxT (celOf c) (staOf s) i a),.si .i64 (nxH (staOf s) i),.si .i64 (nxA (celOf c) (staOf s))]⟩
set_option maxRecDepth 100000 in
set_option maxHeartbeats 2000000 in
theorem rnext_ok : FnSpec Tryz.prog 80 _ rnextS:=by
 refine FnSpec.of SRi_ok mixed (U:=0) (I:=fun _=>[]) Tryz.func80 rfl (by kernel_rfl) rfl rfl (by decide +kernel) ?_
 rintro ⟨c,s,⟨(i : Int),(a : Int),⟨⟩⟩,⟨⟩⟩ hpre
 obtain ⟨c,rfl⟩:=cel_ex c
 obtain ⟨s,rfl⟩:=sta_ex s
 have hpre : csE c s = 0 /\ -1048576 <= i /\ i <= 1048576 /\ 0 <= a /\ a <= 400000:=by have : csE (celOf (celD c)) (staOf (staD s)) = 0 /\ -1048576 <= i /\ i <= 1048576 /\ 0 <= a /\ a <= 400000:=hpre; rwa [celOf_D,staOf_D] at this
 obtain ⟨hcs,i1,i2,a1,a2⟩:=hpre
 obtain ⟨h1,h2⟩:=csE_iff.1 hcs
 unfold FnSat
 conv=>arg 2; reduce
 simp [rnextS,rheatS,rvalS,rrelS,rcapS,clipS,divS,ElEq,and_assoc]
 have hk:=celB_iff.1 h1
 have sth : ∀ a b d e f : Int,(staOf (a,b,d,e,f,PUnit.unit)).th = e:=fun a b d e f=>by unfold staOf; simp
 have sag : ∀ a b d e f : Int,(staOf (a,b,d,e,f,PUnit.unit)).ag = f:=fun a b d e f=>by unfold staOf; simp
 simp only [sth,sag]
 have vs:=sc_val hk.stress s.tp
 have hh:=heatV_in h1 h2 i1 i2
 have d1:=dvI_le (a:=1000 * heatV c s i) (d:=c.hcap) (m:=71530000000000000) hk.hc0 (by
  have:=Int.mul_le_mul_of_nonneg_left hk.hc0 (show (0 : Int) <= 71530000000000000 by decide)
  omega)
 have d2:=dvI_nonneg (a:=1000 * heatV c s i) (d:=c.hcap) hk.hc0 (by omega)
 have:=h2.t0
 have:=h2.t1
 have:=h2.h0
 have:=h2.h1
 have:=h2.a0
 have:=h2.a1
 have q1:=q_in h2
 have k1:=kV_in h1 h2
 have m4:=mul_ab (a:=a - s.tp) (b:=c.cool) (A:=400000) (B:=65536) (by omega) (by omega) hk.co0 hk.co1
 have d3:=dvI_le (a:=(a - s.tp) * c.cool) (d:=65536) (m:=400000) (by decide) (by omega)
 have d4:=dvI_ge (a:=(a - s.tp) * c.cool) (d:=65536) (m:=-400000) (by decide) (by omega)
 have:=hk.lk0
 have:=hk.lk1
 have hw : WearOK c (s.th + max i (-i)) (s.ag + valL c.stress s.tp):=⟨hk.cy0,hk.cy1,hk.al0,hk.al1,by omega,by omega,by omega,by omega⟩
 have e3 : wearV c (s.th + max i (-i)) (s.ag + valL c.stress s.tp) = wearV c (nxH s i) (nxA c s):=by unfold nxH nxA; rfl
 have vp:=val_pre hk.stress (by decide) (by decide)
 exact ⟨by omega,by omega,by omega,by omega,vp.1,vp.2.1,vp.2.2.1,vp.2.2.2.1,vp.2.2.2.2,by omega,by omega,by omega,by omega,hk.kp0,hk.kp1,h2.r0,h2.r1,i1,i2,hk.pr0,hk.pr1,hcs,i1,i2,by omega,by omega,by omega,by omega,hk.hc0,by omega,by omega,by omega,by omega,by omega,by omega,by omega,by omega,
  by omega,by omega,by omega,by omega,by omega,by omega,hw,by have:=hk.cap0; omega,hk.cap1,by unfold nxQ; rw [e3],by unfold nxR slackV relV; rw [Int.mul_assoc (65536 - c.keep)],by unfold nxT; rfl,by unfold nxH; rfl,by unfold nxA; rfl⟩
noncomputable def SRj : Sums:=⟨(80,mkSum _ rnextS) :: SRi.one,SRi.two,SRi.lo,SRi.eqs,SRi.its,SRi.imm⟩
theorem SRj_ok : SumsOK Tryz.prog SRj:=(SRi_ok.cons Tryz.func80 (by kernel_rfl) (by kernel_rfl) rnext_ok)
def routS : Spec [celSh,staSh,limSh,.int .i64,.int .i64]:=⟨fun (c,s,_,(a : Int),(i : Int),_)=>csE (celOf c) (staOf s) = 0 /\ 0 <= a /\ a <= 400000 /\ 0 <= i /\ i <= 1048576,fun (c,s,((l : Int),(_ : Int),(_ : Int),(_ : Int),(h : Int),_),(a : Int),(i : Int),_)=>.sb (outP (celOf c) (staOf s) l h a i)⟩
set_option maxRecDepth 100000 in
theorem rout_ok : FnSpec Tryz.prog 91 _ routS:=by
 refine FnSpec.of SRj_ok mixed (U:=0) (I:=fun _=>[]) Tryz.func91 rfl (by kernel_rfl) rfl rfl (by decide +kernel) ?_
 rintro ⟨c,s,⟨(l : Int),(m : Int),(o : Int),(k : Int),(h : Int),⟨⟩⟩,(a : Int),(i : Int),⟨⟩⟩ hpre
 obtain ⟨c,rfl⟩:=cel_ex c
 obtain ⟨s,rfl⟩:=sta_ex s
 have hpre : csE c s = 0 /\ 0 <= a /\ a <= 400000 /\ 0 <= i /\ i <= 1048576:=by have : csE (celOf (celD c)) (staOf (staD s)) = 0 /\ 0 <= a /\ a <= 400000 /\ 0 <= i /\ i <= 1048576:=hpre; rwa [celOf_D,staOf_D] at this
 obtain ⟨hcs,a1,a2,i1,i2⟩:=hpre
 obtain ⟨h1,h2⟩:=csE_iff.1 hcs
 unfold FnSat
 conv=>arg 2; reduce
 simp [routS,rvoltS,rnextS,and_assoc]
 have hk:=celB_iff.1 h1
 have:=hk.lk0
 have:=hk.lk1
 refine ⟨hcs,by omega,i2,fun _=>⟨hcs,by omega,i2,a1,a2⟩,fun _ _=>by omega,?_⟩
 rw [Bool.eq_iff_iff,outP_iff]
 simp only [Bool.and_eq_true,decide_eq_true_eq]
 exact ⟨fun ⟨⟨x,y⟩,z⟩=>⟨x,z,y⟩,fun ⟨x,z,y⟩=>⟨⟨x,y⟩,z⟩⟩
def rinS : Spec [celSh,staSh,limSh,.int .i64,.int .i64]:=⟨fun (c,s,_,(a : Int),(i : Int),_)=>csE (celOf c) (staOf s) = 0 /\ 0 <= a /\ a <= 400000 /\ 0 <= i /\ i <= 1048576,fun (c,s,((_ : Int),(m : Int),(_ : Int),(_ : Int),(h : Int),_),(a : Int),(i : Int),_)=>.sb (inP (celOf c) (staOf s) m h a i)⟩
set_option maxRecDepth 100000 in
theorem rin_ok : FnSpec Tryz.prog 123 _ rinS:=by
 refine FnSpec.of SRj_ok mixed (U:=0) (I:=fun _=>[]) Tryz.func123 rfl (by kernel_rfl) rfl rfl (by decide +kernel) ?_
 rintro ⟨c,s,⟨(l : Int),(m : Int),(o : Int),(k : Int),(h : Int),⟨⟩⟩,(a : Int),(i : Int),⟨⟩⟩ hpre
 obtain ⟨c,rfl⟩:=cel_ex c
 obtain ⟨s,rfl⟩:=sta_ex s
 have hpre : csE c s = 0 /\ 0 <= a /\ a <= 400000 /\ 0 <= i /\ i <= 1048576:=by have : csE (celOf (celD c)) (staOf (staD s)) = 0 /\ 0 <= a /\ a <= 400000 /\ 0 <= i /\ i <= 1048576:=hpre; rwa [celOf_D,staOf_D] at this
 obtain ⟨hcs,a1,a2,i1,i2⟩:=hpre
 obtain ⟨h1,h2⟩:=csE_iff.1 hcs
 unfold FnSat
 conv=>arg 2; reduce
 simp [rinS,rvoltS,rnextS,rcapS,and_assoc]
 have hk:=celB_iff.1 h1
 have:=hk.lk0
 have:=hk.lk1
 have sth : ∀ a b d e f : Int,(staOf (a,b,d,e,f,PUnit.unit)).th = e:=fun a b d e f=>by unfold staOf; simp
 have sag : ∀ a b d e f : Int,(staOf (a,b,d,e,f,PUnit.unit)).ag = f:=fun a b d e f=>by unfold staOf; simp
 simp only [sth,sag]
 have q1:=q_in h2
 have k1:=kV_in h1 h2
 have vs:=sc_val hk.stress s.tp
 have:=h2.h0
 have:=h2.h1
 have:=h2.a0
 have:=h2.a1
 have hH : nxH s (-i) = s.th + max (-i) (- -i):=by unfold nxH; rfl
 have hA : nxA c s = s.ag + valL c.stress s.tp:=by unfold nxA; rfl
 have hw : WearOK c (nxH s (-i)) (nxA c s):=⟨hk.cy0,hk.cy1,hk.al0,hk.al1,by omega,by omega,by omega,by omega⟩
 exact ⟨by omega,by omega,hcs,by omega,by omega,a1,a2,by omega,by omega,hcs,by omega,by omega,fun _ _=>by omega,fun _ _=>by omega,fun _ _=>⟨hw,by have:=hk.cap0; omega,hk.cap1⟩,by unfold inP; rfl⟩
noncomputable def SRk : Sums:=⟨(123,mkSum _ rinS) :: (91,mkSum _ routS) :: SRj.one,SRj.two,SRj.lo,SRj.eqs,SRj.its,SRj.imm⟩
theorem SRk_ok : SumsOK Tryz.prog SRk:=((SRj_ok.cons Tryz.func91 (by kernel_rfl) (by kernel_rfl) rout_ok).cons Tryz.func123 (by kernel_rfl) (by kernel_rfl) rin_ok)
end
end Abs
end Go.Proofs.YtlacopdaibhkkaaGreat

namespace Go.Proofs.YtlacopdaibhkkaaGreat
namespace Abs
open Go Go.RowKit
noncomputable section
attribute [local irreducible] FnSat
noncomputable def HX0 : Sums:=⟨SL8.one,SL8.two,SL8.lo,SL8.eqs,SL8.its,[24,54,58,93,144,2]⟩
theorem HX0_ok : SumsOK Tryz.prog HX0:=SL8_ok.setImm _
noncomputable def HX1 : Sums:=⟨(92,mkSum _ rresS) :: (94,mkSum _ ropenS) :: (95,mkSum _ pcS) :: (96,mkSum _ divS) :: (59,mkSum _ rcapS) :: (93,mkSum _ rwearS) :: (107,mkSum _ rsiS) :: (106,mkSum _ opnS) :: HX0.one,HX0.two,HX0.lo,HX0.eqs,HX0.its,HX0.imm⟩
theorem HX1_ok : SumsOK Tryz.prog HX1:=((((((((HX0_ok.cons Tryz.func106 (by kernel_rfl) (by kernel_rfl) opn_ok).cons Tryz.func107 (by kernel_rfl) (by kernel_rfl) rsi_ok).cons Tryz.func93 (by kernel_rfl) (by kernel_rfl) rwear_ok).cons Tryz.func59 (by kernel_rfl) (by kernel_rfl) rcap_ok).cons Tryz.func96 (by kernel_rfl) (by kernel_rfl) floor_ok).cons Tryz.func95 (by kernel_rfl) (by kernel_rfl) rfill_ok).cons Tryz.func94 (by kernel_rfl) (by kernel_rfl) ropen_ok).cons Tryz.func92 (by kernel_rfl) (by kernel_rfl) rres_ok)
set_option maxRecDepth 100000 in
set_option maxHeartbeats 2000000 in
theorem roO_ok : FnSpec Tryz.prog 117 _ opnS:=by
 refine FnSpec.of HX1_ok mixed (U:=0) (I:=fun _=>[]) Tryz.func117 rfl (by kernel_rfl) rfl rfl (by decide +kernel) ?_
 rintro ⟨c,s,⟨⟩⟩ hpre
 obtain ⟨c,rfl⟩:=cel_ex c
 obtain ⟨s,rfl⟩:=sta_ex s
 have hpre : CelMax c:=by have : CelMax (celOf (celD c)):=hpre; rwa [celOf_D] at this
 unfold FnSat
 conv=>arg 2; reduce
 simp [opnS,cstS,rcapS,pcS,ropenS,rwearS,and_assoc]
 refine ⟨hpre,fun h=>⟨hpre,(aV_no h).symm,(aE_no h).symm⟩,fun h=>?_⟩
 obtain ⟨hb,S⟩:=csE_iff.1 h
 have hc:=celB_iff.1 hb
 have hw : WearOK c s.th s.ag:=⟨hc.cy0,hc.cy1,hc.al0,hc.al1,S.h0,by have:=S.h1; omega,S.a0,by have:=S.a1; omega⟩
 have hw2:=wearV_in hw
 have hr:=roomV_in (c:=c) (w:=wearV c s.th s.ag)
 have hf : kV c s = roomV c (wearV c s.th s.ag):=by unfold kV wV; rfl
 have hf2 : fillV c s = pcV s.q (roomV c (wearV c s.th s.ag)):=by unfold fillV; rw [hf]
 have hp : 0 <= pcV s.q (roomV c (wearV c s.th s.ag)) /\ pcV s.q (roomV c (wearV c s.th s.ag)) <= 65536:=by
  have:=dvI_nonneg (a:=s.q * 65536) (d:=roomV c (wearV c s.th s.ag)) hr.1 (by have:=S.q0; omega)
  unfold pcV; omega
 have:=S.q0
 have:=S.q1
 have:=hr.2 hw2.1 hc.cap0
 have:=hc.cap0
 have:=hc.cap1
 rw [aV_yes h,aE_yes h]
 exact ⟨hw,by omega,hc.cap1,by omega,by omega,hr.1,hb,by omega,by omega,by unfold opnV; rw [hf2],rfl⟩
set_option maxRecDepth 100000 in
set_option maxHeartbeats 2000000 in
theorem roR_ok : FnSpec Tryz.prog 118 _ rsiS:=by
 refine FnSpec.of HX1_ok mixed (U:=0) (I:=fun _=>[]) Tryz.func118 rfl (by kernel_rfl) rfl rfl (by decide +kernel) ?_
 rintro ⟨c,s,⟨⟩⟩ hpre
 obtain ⟨c,rfl⟩:=cel_ex c
 obtain ⟨s,rfl⟩:=sta_ex s
 have hpre : CelMax c:=by have : CelMax (celOf (celD c)):=hpre; rwa [celOf_D] at this
 unfold FnSat
 conv=>arg 2; reduce
 simp [rsiS,cstS,rresS,rwearS,and_assoc]
 refine ⟨hpre,fun h=>⟨hpre,(aV_no h).symm,(aE_no h).symm⟩,fun h=>?_⟩
 obtain ⟨hb,S⟩:=csE_iff.1 h
 have hc:=celB_iff.1 hb
 have hw : WearOK c s.th s.ag:=⟨hc.cy0,hc.cy1,hc.al0,hc.al1,S.h0,by have:=S.h1; omega,S.a0,by have:=S.a1; omega⟩
 have hw2:=wearV_in hw
 rw [aV_yes h,aE_yes h]
 exact ⟨hw,hb,S.t0,S.t1,hw2.1,by omega,by unfold rV wV; rfl,rfl⟩
noncomputable def HX2 : Sums:=⟨(118,mkSum _ rsiS) :: (117,mkSum _ opnS) :: HX1.one,HX1.two,HX1.lo,HX1.eqs,HX1.its,HX1.imm⟩
theorem HX2_ok : SumsOK Tryz.prog HX2:=((HX1_ok.cons Tryz.func117 (by kernel_rfl) (by kernel_rfl) roO_ok).cons Tryz.func118 (by kernel_rfl) (by kernel_rfl) roR_ok)
@[irreducible] def sA (c : Nat -> Cel) (s : Nat -> Sta) (k : Nat) : Int:=opnV (c k) (s k) - (s k).rx
theorem sA_eq (c : Nat -> Cel) (s : Nat -> Sta) (k : Nat) : sA c s k = opnV (c k) (s k) - (s k).rx:=by unfold sA; rfl
@[irreducible] def sR (c : Nat -> Cel) (s : Nat -> Sta) (k : Nat) : Int:=max 1 (rV (c k) (s k))
theorem sR_eq (c : Nat -> Cel) (s : Nat -> Sta) (k : Nat) : sR c s k = max 1 (rV (c k) (s k)):=by unfold sR; rfl
@[irreducible] def dwV (a r v : Int) : Int:=dvI ((a - v) * 1000) r
theorem dwV_eq (a r v : Int) : dwV a r v = dvI ((a - v) * 1000) r:=by unfold dwV; rfl
structure SrcOK (n : Nat) (a r : Nat -> Int) : Prop where
 n4 : n <= 4
 a0 : ∀ k,k < n -> -33554432 <= a k /\ a k <= 33554432
 r0 : ∀ k,k < n -> 1 <= r k /\ r k <= 1048576
@[irreducible] def dwN (a r : Nat -> Int) (v : Int) (k : Nat) : Int:=dwV (a k) (r k) v
theorem dwN_eq (a r : Nat -> Int) (v : Int) (k : Nat) : dwN a r v k = dwV (a k) (r k) v:=by unfold dwN; rfl
theorem dwV_in {a r v : Int} (h1 : -33554432 <= a) (h2 : a <= 33554432) (h3 : 1 <= r) (v1 : -1099511627777 <= v) (v2 : v <= 1099511627777) : -1125899906842624 <= dwV a r v /\ dwV a r v <= 1125899906842624:=by
 rw [dwV_eq]
 exact ⟨dvI_ge h3 (by have:=Int.mul_le_mul_of_nonneg_left h3 (show (0 : Int) <= 1125899906842624 by omega); omega),dvI_le h3 (by have:=Int.mul_le_mul_of_nonneg_left h3 (show (0 : Int) <= 1125899906842624 by omega); omega)⟩
theorem dwV_mono {a r v w : Int} (h3 : 1 <= r) (h : v <= w) : dwV a r w <= dwV a r v:=by rw [dwV_eq,dwV_eq]; exact dvI_mono h3 (by omega)
@[irreducible] def dwS (a r : Nat -> Int) (n : Nat) (v : Int) : Int:=sumN (dwN a r v) n
theorem dwS_0 (a r : Nat -> Int) (v : Int) : dwS a r 0 v = 0:=by unfold dwS; simp
theorem dwS_s (a r : Nat -> Int) (n : Nat) (v : Int) : dwS a r (n + 1) v = dwS a r n v + dwV (a n) (r n) v:=by unfold dwS; rw [sumN_succ,dwN_eq]
theorem dwS_in {n : Nat} {a r : Nat -> Int} {v : Int} (h : SrcOK n a r) (v1 : -1099511627777 <= v) (v2 : v <= 1099511627777) : ∀ k,k <= n -> -(k * 1125899906842624) <= dwS a r k v /\ dwS a r k v <= k * 1125899906842624
 | 0,_=>by rw [dwS_0]; omega
 | k + 1,hk=>by
   have ih:=dwS_in h v1 v2 k (by omega)
   have:=h.a0 k (by omega)
   have:=dwV_in (v:=v) this.1 this.2 (h.r0 k (by omega)).1 v1 v2
   rw [dwS_s]; omega
theorem dwS_mono {n : Nat} {a r : Nat -> Int} {v w : Int} (h : SrcOK n a r) (hv : v <= w) : ∀ k,k <= n -> dwS a r k w <= dwS a r k v
 | 0,_=>by rw [dwS_0,dwS_0]; omega
 | k + 1,hk=>by
   have ih:=dwS_mono h hv k (by omega)
   have:=dwV_mono (a:=a k) (h.r0 k (by omega)).1 hv
   rw [dwS_s,dwS_s]; omega
theorem dwS_low {n : Nat} {a r : Nat -> Int} (h : SrcOK n a r) : ∀ k,k <= n -> k * 1000000000 <= dwS a r k (-1099511627776)
 | 0,_=>by rw [dwS_0]; omega
 | k + 1,hk=>by
   have ih:=dwS_low h k (by omega)
   have a1:=h.a0 k (by omega)
   have a2:=h.r0 k (by omega)
   have : 1000000000 <= dwV (a k) (r k) (-1099511627776):=by
    rw [dwV_eq]
    exact dvI_ge a2.1 (by omega)
   rw [dwS_s]; omega
theorem dwS_high {n : Nat} {a r : Nat -> Int} (h : SrcOK n a r) : ∀ k,k <= n -> dwS a r k 1099511627776 <= -(k * 1000000000)
 | 0,_=>by rw [dwS_0]; omega
 | k + 1,hk=>by
   have ih:=dwS_high h k (by omega)
   have a1:=h.a0 k (by omega)
   have a2:=h.r0 k (by omega)
   have : dwV (a k) (r k) 1099511627776 <= -1000000000:=by
    rw [dwV_eq]
    exact dvI_le a2.1 (by omega)
   rw [dwS_s]; omega
@[irreducible] def shP (a r : Nat -> Int) (n : Nat) (i v : Int) : Bool:=decide (dwS a r n v <= i)
theorem shP_t {a r : Nat -> Int} {n : Nat} {i v : Int} : shP a r n i v = true ↔ dwS a r n v <= i:=by unfold shP; simp
theorem shP_f {a r : Nat -> Int} {n : Nat} {i v : Int} : shP a r n i v = false ↔ i < dwS a r n v:=by unfold shP; simp
def fsZ (P : Int -> Bool) (a : Int) : Nat -> Int
 | 0=>a
 | n + 1=>if P a = true then a else fsZ P (a + 1) n
theorem fsZ_in (P : Int -> Bool) : ∀ (n : Nat) (a : Int),a <= fsZ P a n /\ fsZ P a n <= a + n /\ (∀ y,a <= y -> y < fsZ P a n -> P y = false) /\ (fsZ P a n < a + n -> P (fsZ P a n) = true)
 | 0,a=>⟨by rw [fsZ]; omega,by rw [fsZ]; omega,fun y h1 h2=>by rw [fsZ] at h2; omega,fun h=>by rw [fsZ] at h; omega⟩
 | n + 1,a=>by
   rw [fsZ]
   by_cases h : P a = true
   ·rw [if_pos h]; exact ⟨by omega,by omega,fun y h1 h2=>by omega,fun _=>h⟩
   ·rw [if_neg h]
    obtain ⟨h1,h2,h3,h4⟩:=fsZ_in P n (a + 1)
    refine ⟨by omega,by omega,fun y y1 y2=>?_,fun hh=>h4 (by omega)⟩
    by_cases e : y = a
    ·subst e; simpa using h
    ·exact h3 y (by omega) y2
structure ShOK' (a r : Nat -> Int) (n : Nat) (i v : Int) : Prop where
 lo : -1099511627776 < v
 hi : v <= 1099511627776
 y : dwS a r n v <= i
 no : i < dwS a r n (v - 1)
open Classical in
@[irreducible] def shV (a r : Nat -> Int) (n : Nat) (i : Int) : Int:=if h : ∃ v,ShOK' a r n i v then Classical.choose h else 0
abbrev ShOK (a r : Nat -> Int) (n : Nat) (i : Int) : Prop:=ShOK' a r n i (shV a r n i)
theorem sh_ex {a r : Nat -> Int} {n : Nat} {i : Int} (h : SrcOK n a r) (hn : 1 <= n) (i1 : -1048576 <= i) (i2 : i <= 1048576) : ∃ v,ShOK' a r n i v:=by
 have hN : (((2199023255552 : Int).toNat : Nat) : Int) = 2199023255552:=Int.toNat_of_nonneg (by omega)
 generalize (2199023255552 : Int).toNat = N at hN
 obtain ⟨h1,h2,h3,h4⟩:=fsZ_in (shP a r n i) N (-1099511627776)
 generalize fsZ (shP a r n i) (-1099511627776) N = v at *
 have el:=dwS_low h n (Nat.le_refl _)
 have eh:=dwS_high h n (Nat.le_refl _)
 have hy : dwS a r n v <= i:=by
  by_cases hh : v < 1099511627776
  ·exact shP_t.1 (h4 (by omega))
  ·rw [show v = 1099511627776 by omega]; omega
 have hlo : v ≠ -1099511627776:=fun hh=>by rw [hh] at hy; omega
 exact ⟨v,by omega,by omega,hy,shP_f.1 (h3 _ (by omega) (by omega))⟩
theorem shOK {a r : Nat -> Int} {n : Nat} {i : Int} (h : SrcOK n a r) (hn : 1 <= n) (i1 : -1048576 <= i) (i2 : i <= 1048576) : ShOK a r n i:=by
 have he:=sh_ex h hn i1 i2
 have e : shV a r n i = Classical.choose he:=by unfold shV; rw [dif_pos he]
 unfold ShOK
 rw [e]
 exact Classical.choose_spec he
theorem shP_iff {a r : Nat -> Int} {n : Nat} {i v : Int} (h : SrcOK n a r) (K : ShOK a r n i) : shP a r n i v = true ↔ shV a r n i <= v:=by
 rw [shP_t]
 constructor
 ·intro hv
  apply Classical.byContradiction
  intro hh
  have:=dwS_mono h (show v <= shV a r n i - 1 by omega) n (Nat.le_refl _)
  have:=K.no
  omega
 ·intro hv
  have:=dwS_mono h hv n (Nat.le_refl _)
  have:=K.y
  omega
def lfN0 (a r : Nat -> Int) (n : Nat) (i : Int) : Nat -> Int
 | 0=>i - dwS a r n (shV a r n i)
 | k + 1=>lfN0 a r n i k - min (lfN0 a r n i k) (dwV (a k) (r k) (shV a r n i - 1) - dwV (a k) (r k) (shV a r n i))
@[irreducible] def lfN (a r : Nat -> Int) (n : Nat) (i : Int) (k : Nat) : Int:=lfN0 a r n i k
theorem lfN_0 (a r : Nat -> Int) (n : Nat) (i : Int) : lfN a r n i 0 = i - dwS a r n (shV a r n i):=by unfold lfN; rfl
theorem lfN_s (a r : Nat -> Int) (n : Nat) (i : Int) (k : Nat) : lfN a r n i (k + 1) = lfN a r n i k - min (lfN a r n i k) (dwV (a k) (r k) (shV a r n i - 1) - dwV (a k) (r k) (shV a r n i)):=by unfold lfN; rfl
@[irreducible] def shO (a r : Nat -> Int) (n : Nat) (i : Int) (k : Nat) : Int:=dwV (a k) (r k) (shV a r n i) + min (lfN a r n i k) (dwV (a k) (r k) (shV a r n i - 1) - dwV (a k) (r k) (shV a r n i))
theorem shO_eq (a r : Nat -> Int) (n : Nat) (i : Int) (k : Nat) : shO a r n i k = dwV (a k) (r k) (shV a r n i) + min (lfN a r n i k) (dwV (a k) (r k) (shV a r n i - 1) - dwV (a k) (r k) (shV a r n i)):=by unfold shO; rfl
theorem lfN_in {a r : Nat -> Int} {n : Nat} {i : Int} (h : SrcOK n a r) (K : ShOK a r n i) (i2 : i <= 1048576) : ∀ k,k <= n -> 0 <= lfN a r n i k /\ lfN a r n i k <= 4503599627370496 + 1048576
 | 0,_=>by
   have:=dwS_in h (v:=shV a r n i) (by have:=K.lo; omega) (by have:=K.hi; omega) n (Nat.le_refl _)
   have:=K.y
   have:=h.n4
   rw [lfN_0]; omega
 | k + 1,hk=>by
   have ih:=lfN_in h K i2 k (by omega)
   have:=dwV_mono (a:=a k) (r:=r k) (v:=shV a r n i - 1) (w:=shV a r n i) (h.r0 k (by omega)).1 (by omega)
   rw [lfN_s]; omega
@[reducible] def srcSh : Sh:=.slice 2 [.int .i64,.int .i64]
def drwS : Spec [.agg [.int .i64,.int .i64],.int .i64]:=⟨fun (((a : Int),(r : Int),_),(v : Int),_)=>-33554432 <= a /\ a <= 33554432 /\ 1 <= r /\ -1099511627777 <= v /\ v <= 1099511627777,fun (((a : Int),(r : Int),_),(v : Int),_)=>.si .i64 (dwV a r v)⟩
set_option maxRecDepth 100000 in
theorem drw_ok : FnSpec Tryz.prog 82 _ drwS:=by
 refine FnSpec.of HX2_ok mixed (U:=0) (I:=fun _=>[]) Tryz.func82 rfl (by kernel_rfl) rfl rfl (by decide +kernel) ?_
 rintro ⟨⟨(a : Int),(r : Int),⟨⟩⟩,(v : Int),⟨⟩⟩ ⟨(a1 : -33554432 <= a),(a2 : a <= 33554432),(r1 : 1 <= r),(v1 : -1099511627777 <= v),(v2 : v <= 1099511627777)⟩
 unfold FnSat
 conv=>arg 2; reduce
 simp [drwS,dwV_eq,and_assoc]
 obtain ⟨b1,b2,b3,b4,b5⟩:=dvI_by (n:=(a - v) * 1000) (d:=r) (by omega) (by omega) r1
 exact ⟨by omega,by omega,by omega,by omega,b1,b2,b3,b4,b5⟩
noncomputable def HX3 : Sums:=⟨(82,mkSum _ drwS) :: HX2.one,HX2.two,HX2.lo,HX2.eqs,HX2.its,HX2.imm⟩
theorem HX3_ok : SumsOK Tryz.prog HX3:=(HX2_ok.cons Tryz.func82 (by kernel_rfl) (by kernel_rfl) drw_ok)
def suS : Spec [.int .i64,.ptr [srcSh]]:=⟨fun ((v : Int),((n,el),_),_)=>SrcOK n (fun k=>(el k).1) (fun k=>(el k).2.1) /\ -1099511627777 <= v /\ v <= 1099511627777,fun ((v : Int),((n,el),_),_)=>.si .i64 (dwS (fun k=>(el k).1) (fun k=>(el k).2.1) n v)⟩
def suI : DatL [.int .i64,.ptr [srcSh]] -> Anns:=fun ((v : Int),((n,el),_),_)=>[
 (3,[],fun fr hp=>⟨Nat,fun g=>⟨frI [.k 4,.s (.si .i64 (dwS (fun k=>(el k).1) (fun k=>(el k).2.1) g v)),.t 2,.k 2,.s (.si .i64 (icast g)),.t 10] fr,hp⟩,Nat × Nat,fun g=>(g,n),fun (g,n)=>g <= n,fun g=>nsub 5 g⟩)]
set_option maxRecDepth 100000 in
theorem su_ok : FnSpec Tryz.prog 81 _ suS:=by
 refine FnSpec.of HX3_ok mixed (U:=0) (I:=suI) Tryz.func81 rfl (by kernel_rfl) rfl rfl (by decide +kernel) ?_
 rintro ⟨(v : Int),⟨⟨n,el⟩,⟨⟩⟩,⟨⟩⟩ ⟨(h : SrcOK n (fun k=>(el k).1) (fun k=>(el k).2.1)),(v1 : -1099511627777 <= v),(v2 : v <= 1099511627777)⟩
 obtain ⟨a,r,rfl⟩ : ∃ a r : Nat -> Int,el = fun k=>(a k,r k,()):=⟨fun k=>(el k).1,fun k=>(el k).2.1,rfl⟩
 have h : SrcOK n a r:=h
 unfold FnSat
 conv=>arg 2; reduce
 simp [suS,drwS,ElEq,getB,goneB,aliveB,and_assoc]
 have ea : (fun k=>a k) = a:=rfl
 have er : (fun k=>r k) = r:=rfl
 simp only [ea,er]
 have n4:=h.n4
 refine ⟨⟨0,(dwS_0 a r v).symm,rfl,by omega⟩,fun g hg=>⟨fun hlt=>?_,fun hge=>by rw [show g = n by omega]⟩⟩
 have a0:=h.a0 g hlt
 have r0:=h.r0 g hlt
 have b0:=dwS_in h v1 v2 g hg
 have b1:=dwV_in (v:=v) a0.1 a0.2 r0.1 v1 v2
 exact ⟨hlt,a0.1,a0.2,r0.1,v1,v2,by omega,by omega,by omega,by omega,g + 1,(dwS_s a r g v).symm,by omega,by omega,by omega⟩
noncomputable def HX4 : Sums:=⟨(81,mkSum _ suS) :: HX3.one,HX3.two,HX3.lo,HX3.eqs,HX3.its,HX3.imm⟩
theorem HX4_ok : SumsOK Tryz.prog HX4:=(HX3_ok.cons Tryz.func81 (by kernel_rfl) (by kernel_rfl) su_ok)
def ltsS : Spec [.int .i64,.ptr [.fn 81 [] [.ptr [srcSh]]],.ptr [.int .i64]]:=⟨fun ((v : Int),((_,((n,el),_),_),_),((i : Int),_),_)=>SrcOK n (fun k=>(el k).1) (fun k=>(el k).2.1) /\ -1099511627777 <= v /\ v <= 1099511627777,fun ((v : Int),((_,((n,el),_),_),_),((i : Int),_),_)=>.sb (shP (fun k=>(el k).1) (fun k=>(el k).2.1) n i v)⟩
set_option maxRecDepth 100000 in
theorem lts_ok : FnSpec Tryz.prog 83 _ ltsS:=by
 refine FnSpec.of HX4_ok mixed (U:=0) (I:=fun _=>[]) Tryz.func83 rfl (by kernel_rfl) rfl rfl (by decide +kernel) ?_
 rintro ⟨(v : Int),⟨⟨z,⟨⟨n,el⟩,⟨⟩⟩,⟨⟩⟩,⟨⟩⟩,⟨(i : Int),⟨⟩⟩,⟨⟩⟩ ⟨(h : SrcOK n (fun k=>(el k).1) (fun k=>(el k).2.1)),(v1 : -1099511627777 <= v),(v2 : v <= 1099511627777)⟩
 obtain ⟨a,r,rfl⟩ : ∃ a r : Nat -> Int,el = fun k=>(a k,r k,()):=⟨fun k=>(el k).1,fun k=>(el k).2.1,rfl⟩
 have h : SrcOK n a r:=h
 unfold FnSat
 conv=>arg 2; reduce
 simp [ltsS,suS,ElEq,getB,goneB,aliveB,and_assoc]
 exact ⟨h,v1,v2,by unfold shP; rfl⟩
noncomputable def HX5 : Sums:=⟨(83,mkSum _ ltsS) :: HX4.one,HX4.two,HX4.lo,HX4.eqs,HX4.its,HX4.imm⟩
theorem HX5_ok : SumsOK Tryz.prog HX5:=(HX4_ok.cons Tryz.func83 (by kernel_rfl) (by kernel_rfl) lts_ok)
@[reducible] def lsfSh : Sh:=.fn 83 [] [.ptr [.fn 81 [] [.ptr [srcSh]]],.ptr [.int .i64]]
def lstS : Spec [.int .i64,.int .i64,lsfSh]:=⟨fun ((lo : Int),(hi : Int),(_,((_,((n,el),_),_),_),((i : Int),_),_),_)=>SrcOK n (fun k=>(el k).1) (fun k=>(el k).2.1) /\ 1 <= n /\ lo = -1099511627776 /\ hi = 1099511627776 /\ -1048576 <= i /\ i <= 1048576,fun ((lo : Int),(hi : Int),(_,((_,((n,el),_),_),_),((i : Int),_),_),_)=>.si .i64 (shV (fun k=>(el k).1) (fun k=>(el k).2.1) n i)⟩
def lstI : DatL [.int .i64,.int .i64,lsfSh] -> Anns:=fun ((lo : Int),(hi : Int),(_,((_,((n,el),_),_),_),((i : Int),_),_),_)=>[
 (1,[],fun fr hp=>⟨Int × Int,fun g=>⟨frI [.s (.si .i64 g.1),.s (.si .i64 g.2),.k 5,.t 17] fr,hp⟩,Int × Int × Int,fun g=>(g.1,g.2,shV (fun k=>(el k).1) (fun k=>(el k).2.1) n i),fun ((l : Int),(h : Int),(v : Int))=>l <= v /\ v <= h /\ -1099511627776 <= l /\ h <= 1099511627776,fun g=>nat (isub g.2 g.1)⟩)]
set_option maxRecDepth 100000 in
theorem lst_ok : FnSpec Tryz.prog 52 _ lstS:=by
 refine FnSpec.of HX5_ok mixed (U:=0) (I:=lstI) Tryz.func52 rfl (by kernel_rfl) rfl rfl (by decide +kernel) ?_
 rintro ⟨(lo : Int),(hi : Int),⟨y,⟨⟨z,⟨⟨n,el⟩,⟨⟩⟩,⟨⟩⟩,⟨⟩⟩,⟨(i : Int),⟨⟩⟩,⟨⟩⟩,⟨⟩⟩ ⟨(h : SrcOK n (fun k=>(el k).1) (fun k=>(el k).2.1)),(hn : 1 <= n),(e1 : lo = -1099511627776),(e2 : hi = 1099511627776),(i1 : -1048576 <= i),(i2 : i <= 1048576)⟩
 obtain ⟨a,r,rfl⟩ : ∃ a r : Nat -> Int,el = fun k=>(a k,r k,()):=⟨fun k=>(el k).1,fun k=>(el k).2.1,rfl⟩
 have h : SrcOK n a r:=h
 unfold FnSat
 conv=>arg 2; reduce
 simp [lstS,ltsS,ElEq,getB,goneB,aliveB,and_assoc]
 have ea : (fun k=>a k) = a:=rfl
 have er : (fun k=>r k) = r:=rfl
 simp only [ea,er]
 have K:=shOK h hn i1 i2
 have k1:=K.lo
 have k2:=K.hi
 have hi0:=fun v=>shP_iff (v:=v) h K
 have hsh : ∀ x : Int,ishr x 1 = x / 2:=fun x=>by unfold ishr; exact Int.fdiv_eq_ediv_of_nonneg x (by decide)
 simp only [hsh]
 have hif : ∀ v,shP a r n i v = false -> v < shV a r n i:=fun v hv=>by
  apply Classical.byContradiction
  intro hh
  rw [(hi0 v).2 (by omega)] at hv; cases hv
 generalize shV a r n i = V at *
 refine ⟨by omega,by omega,by omega,by omega,fun l u a1 a2 a3 a4=>⟨fun hlt=>⟨by omega,by omega,by decide,by omega,by omega,h,by omega,by omega,fun ht=>?_,fun hf=>?_⟩,fun hge=>by omega⟩⟩
 ·have:=(hi0 _).1 ht
  exact ⟨a1,this,a3,by omega,by omega⟩
 ·have:=hif _ hf
  exact ⟨by omega,by omega,by omega,a2,by omega,a4,by omega⟩
noncomputable def HX6 : Sums:=⟨(52,mkSum _ lstS) :: HX5.one,HX5.two,HX5.lo,HX5.eqs,HX5.its,HX5.imm⟩
theorem HX6_ok : SumsOK Tryz.prog HX6:=(HX5_ok.cons Tryz.func52 (by kernel_rfl) (by kernel_rfl) lst_ok)
def shS : Spec [srcSh,.int .i64]:=⟨fun ((n,el),(i : Int),_)=>SrcOK n (fun k=>(el k).1) (fun k=>(el k).2.1) /\ 1 <= n /\ -1048576 <= i /\ i <= 1048576,fun ((n,el),(i : Int),_)=>.tup [.slc (.sym n) 1 (fun k=>[.si .i64 (shO (fun k=>(el k).1) (fun k=>(el k).2.1) n i k)]),.si .i64 (shV (fun k=>(el k).1) (fun k=>(el k).2.1) n i)]⟩
@[irreducible] def shF (a r : Nat -> Int) (n : Nat) (i : Int) (g k : Nat) : Int:=if k < g then shO a r n i k else 0
theorem shF_in {a r : Nat -> Int} {n : Nat} {i : Int} {g k : Nat} (h : k < g) : shF a r n i g k = shO a r n i k:=by unfold shF; rw [if_pos h]
theorem shF_out {a r : Nat -> Int} {n : Nat} {i : Int} {g k : Nat} (h : g <= k) : shF a r n i g k = 0:=by unfold shF; rw [if_neg (by omega)]
def shI : DatL [srcSh,.int .i64] -> Anns:=fun ((n,el),(i : Int),_)=>[
 (2097152 + 2,[(6,0,0)],fun _ _=>⟨Unit,fun _=>⟨[],[]⟩,Unit,fun _=>(),fun _=>True,fun _=>0⟩),
 (6,[],fun fr hp=>⟨Nat,fun g=>⟨frI [.k 8,.s (.si .i64 (lfN (fun k=>(el k).1) (fun k=>(el k).2.1) n i g)),.k 1,.t 3,.k 13,.s (.si .i64 (icast g)),.t 34] fr,setB hp 1 (.row 2 1 (.sym n) (fun k=>[.si .i64 (shF (fun k=>(el k).1) (fun k=>(el k).2.1) n i g k)]))⟩,Nat × Nat,fun g=>(g,n),fun (g,n)=>g <= n,fun g=>nsub 5 g⟩)]
set_option maxRecDepth 100000 in
set_option maxHeartbeats 2000000 in
theorem sh_ok : FnSpec Tryz.prog 43 _ shS:=by
 refine FnSpec.of HX6_ok mixed (U:=0) (I:=shI) Tryz.func43 rfl (by kernel_rfl) rfl rfl (by decide +kernel) ?_
 rintro ⟨⟨n,el⟩,(i : Int),⟨⟩⟩ ⟨(h : SrcOK n (fun k=>(el k).1) (fun k=>(el k).2.1)),(hn : 1 <= n),(i1 : -1048576 <= i),(i2 : i <= 1048576)⟩
 obtain ⟨a,r,rfl⟩ : ∃ a r : Nat -> Int,el = fun k=>(a k,r k,()):=⟨fun k=>(el k).1,fun k=>(el k).2.1,rfl⟩
 have h : SrcOK n a r:=h
 unfold FnSat
 conv=>arg 2; reduce
 simp [shS,lstS,suS,drwS,ElEq,getB,goneB,aliveB,maxRow,and_assoc]
 have ea : (fun k=>a k) = a:=rfl
 have er : (fun k=>r k) = r:=rfl
 simp only [ea,er]
 have n4:=h.n4
 have K:=shOK h hn i1 i2
 have k1:=K.lo
 have k2:=K.hi
 have k3:=dwS_in h (v:=shV a r n i) (by omega) (by omega) n (Nat.le_refl _)
 have hl0:=lfN_0 a r n i
 have hls:=lfN_s a r n i
 have hso:=shO_eq a r n i
 have hli:=fun k hk=>lfN_in h K i2 k hk
 generalize shV a r n i = V at *
 refine ⟨h,hn,i1,i2,h,by omega,by omega,by omega,by omega,by omega,⟨0,hl0.symm,rfl,fun j hj=>(shF_out (by omega)).symm,by omega⟩,fun g hg=>⟨fun hlt=>?_,fun hge=>?_⟩⟩
 ·have a0:=h.a0 g hlt
  have r0:=h.r0 g hlt
  have d0:=dwV_in (v:=V) a0.1 a0.2 r0.1 (by omega) (by omega)
  have d1:=dwV_in (v:=V - 1) a0.1 a0.2 r0.1 (by omega) (by omega)
  have dm:=dwV_mono (a:=a g) (r:=r g) (v:=V - 1) (w:=V) r0.1 (by omega)
  have hl:=hli g hg
  have hs1:=hls g
  have ho1:=hso g
  generalize dwV (a g) (r g) V = D0 at *
  generalize dwV (a g) (r g) (V - 1) = D1 at *
  generalize lfN a r n i g = L at *
  refine ⟨hlt,a0.1,a0.2,r0.1,by omega,by omega,hlt,by omega,by omega,a0.1,a0.2,r0.1,by omega,by omega,hlt,by omega,by omega,hlt,by omega,by omega,hlt,by omega,by omega,by omega,by omega,g + 1,hs1.symm,by omega,fun j hj=>?_,by omega,by omega⟩
  by_cases e : j = g
  ·subst e; rw [if_pos rfl,shF_in (by omega),ho1]
  ·rw [if_neg e,if_neg e]
   by_cases hjg : j < g
   ·rw [shF_in hjg,shF_in (by omega)]
   ·rw [shF_out (by omega),shF_out (by omega)]
 ·exact fun j hj=>shF_in (by omega)
noncomputable def HX7 : Sums:=⟨(43,mkSum _ shS) :: HX6.one,HX6.two,HX6.lo,HX6.eqs,HX6.its,HX6.imm⟩
theorem HX7_ok : SumsOK Tryz.prog HX7:=(HX6_ok.cons Tryz.func43 (by kernel_rfl) (by kernel_rfl) sh_ok)
def srcsS : Spec [grpSh,stgSh]:=⟨fun ((m,c),(n,s),_)=>m = n /\ m <= 4 /\ ∀ k,k < m -> csE (celOf (c k)) (staOf (s k)) = 0,fun ((m,c),(_,s),_)=>.slc (.sym m) 2 (fun k=>[.si .i64 (sA (fun k=>celOf (c k)) (fun k=>staOf (s k)) k),.si .i64 (sR (fun k=>celOf (c k)) (fun k=>staOf (s k)) k)])⟩
@[irreducible] def sAf (c : Nat -> Cel) (s : Nat -> Sta) (g k : Nat) : Int:=if k < g then sA c s k else 0
@[irreducible] def sRf (c : Nat -> Cel) (s : Nat -> Sta) (g k : Nat) : Int:=if k < g then sR c s k else 0
def srcsI : DatL [grpSh,stgSh] -> Anns:=fun ((m,c),(_,s),_)=>[
 (3,[],fun fr hp=>⟨Nat,fun g=>⟨frI [.k 6,.t 6,.k 5,.s (.si .i64 (icast g)),.t 37] fr,setB hp 0 (.row 144 2 (.sym m) (fun k=>[.si .i64 (sAf (fun k=>celOf (c k)) (fun k=>staOf (s k)) g k),.si .i64 (sRf (fun k=>celOf (c k)) (fun k=>staOf (s k)) g k)]))⟩,Nat × Nat,fun g=>(g,m),fun (g,m)=>g <= m,fun g=>nsub 5 g⟩)]
set_option maxRecDepth 100000 in
set_option maxHeartbeats 2000000 in
theorem srcs_ok : FnSpec Tryz.prog 76 _ srcsS:=by
 refine FnSpec.of HX7_ok mixed (U:=0) (I:=srcsI) Tryz.func76 rfl (by kernel_rfl) rfl rfl (by decide +kernel) ?_
 rintro ⟨⟨m,c⟩,⟨n,s⟩,⟨⟩⟩ hpre
 obtain ⟨C,rfl⟩ : ∃ C : Nat -> Cel,c = fun k=>celD (C k):=⟨fun k=>celOf (c k),by funext k; exact (cel_D (c k)).symm⟩
 obtain ⟨S,rfl⟩ : ∃ S : Nat -> Sta,s = fun k=>staD (S k):=⟨fun k=>staOf (s k),by funext k; exact (sta_D (s k)).symm⟩
 obtain ⟨h1,h2,h3⟩ : m = n /\ m <= 4 /\ ∀ k,k < m -> csE (celOf (celD (C k))) (staOf (staD (S k))) = 0:=hpre
 simp only [celOf_D,staOf_D] at h3
 subst h1
 unfold FnSat
 conv=>arg 2; reduce
 simp [srcsS,opnS,rsiS,ElEq,getB,goneB,aliveB,maxRow,and_assoc]
 have eC : (fun k=>C k) = C:=rfl
 have eS : (fun k=>S k) = S:=rfl
 simp only [eC,eS]
 have fA : ∀ g k,sAf C S g k = if k < g then sA C S k else 0:=fun g k=>by unfold sAf; rfl
 have fR : ∀ g k,sRf C S g k = if k < g then sR C S k else 0:=fun g k=>by unfold sRf; rfl
 simp only [fA,fR]
 refine ⟨by omega,⟨0,rfl,fun j hj=>by simp,by omega⟩,fun g hg=>⟨fun hlt=>?_,fun hge j hj=>by rw [if_pos (by omega),if_pos (by omega)]; exact ⟨rfl,rfl⟩⟩⟩
 have h:=h3 g hlt
 obtain ⟨hb,hs⟩:=csE_iff.1 h
 have hm:=(celB_iff.1 hb).max
 have ho:=opnV_in (s:=S g) hb
 have:=hs.r0
 have:=hs.r1
 rw [aV_yes h,aV_yes h]
 refine ⟨hlt,hm,hlt,hm,hlt,by omega,by omega,hlt,by omega,by omega,g + 1,by omega,fun j hj=>?_,by omega,by omega⟩
 by_cases e : j = g
 ·subst e
  rw [if_pos rfl,if_pos rfl,if_pos (by omega),if_pos (by omega),sA_eq,sR_eq]
  exact ⟨rfl,rfl⟩
 ·rw [if_neg e,if_neg e]
  by_cases hjg : j < g
  ·rw [if_pos hjg,if_pos hjg,if_pos (by omega),if_pos (by omega)]; exact ⟨rfl,rfl⟩
  ·rw [if_neg hjg,if_neg hjg,if_neg (by omega),if_neg (by omega)]; exact ⟨rfl,rfl⟩
noncomputable def HX8 : Sums:=⟨(76,mkSum _ srcsS) :: HX7.one,HX7.two,HX7.lo,HX7.eqs,HX7.its,HX7.imm⟩
theorem HX8_ok : SumsOK Tryz.prog HX8:=(HX7_ok.cons Tryz.func76 (by kernel_rfl) (by kernel_rfl) srcs_ok)
end
end Abs
end Go.Proofs.YtlacopdaibhkkaaGreat

namespace Go.Proofs.YtlacopdaibhkkaaGreat
namespace Abs
open Go Go.RowKit
noncomputable section
attribute [local irreducible] FnSat
theorem src_ok {m : Nat} {c : Nat -> Cel} {s : Nat -> Sta} (h4 : m <= 4) (h : ∀ k,k < m -> celB (c k) = true /\ StOK (c k) (s k)) : SrcOK m (sA c s) (sR c s):=by
 refine ⟨h4,fun k hk=>?_,fun k hk=>?_⟩
 ·have ho:=opnV_in (s:=s k) (h k hk).1
  have:=(h k hk).2.r0
  have:=(h k hk).2.r1
  rw [sA_eq]; omega
 ·have:=rV_in (c:=c k) (s:=s k)
  rw [sR_eq]; omega
structure SsOK (p : Pk) (s : Sx) : Prop where
 n : 1 <= p.len /\ p.len <= 16
 l : s.len = p.len
 m : ∀ i,i < p.len -> (1 <= p.sz i /\ p.sz i <= 4) /\ s.sz i = p.sz i
 c : ∀ i,i < p.len -> ∀ k,k < p.sz i -> celB (p.at i k) = true /\ StOK (p.at i k) (s.at i k)
theorem ssOK {p : Pk} {s : Sx} (h : ssE p s = 0) : SsOK p s:=by
 obtain ⟨h1,h2,h3⟩:=ssE_0.1 h
 obtain ⟨n1,hcl⟩:=pkE_0.1 h1
 exact ⟨n1,h2,fun i hi=>⟨(hcl i hi).1,(h3 i hi).1⟩,fun i hi k hk=>⟨(hcl i hi).2 k hk,(h3 i hi).2 k hk⟩⟩
theorem SsOK.src {p : Pk} {s : Sx} (h : SsOK p s) {i : Nat} (hi : i < p.len) : SrcOK (p.sz i) (sA (p.at i) (s.at i)) (sR (p.at i) (s.at i)):=src_ok (h.m i hi).1.2 (h.c i hi)
def wirS : Spec [pkSh,sxSh]:=⟨fun (p,s,_)=>PkMax (pkOf p) /\ ssE (pkOf p) (sxOf s) ≠ 0,fun (p,s,_)=>.tup [.v (.pointer none),.si .i64 (ssE (pkOf p) (sxOf s))]⟩
set_option maxRecDepth 100000 in
set_option maxHeartbeats 2000000 in
theorem wir_ok : FnSpec Tryz.prog 35 _ wirS:=by
 refine FnSpec.of HX8_ok mixed (U:=0) (I:=fun _=>[]) Tryz.func35 rfl (by kernel_rfl) rfl rfl (by decide +kernel) ?_
 rintro ⟨p,s,⟨⟩⟩ hpre
 obtain ⟨p,rfl⟩:=pk_ex p
 obtain ⟨s,rfl⟩:=sx_ex s
 have hpre : PkMax p /\ ssE p s ≠ 0:=by have : PkMax (pkOf (pkD p)) /\ ssE (pkOf (pkD p)) (sxOf (sxD s)) ≠ 0:=hpre; rwa [pkOf_D,sxOf_D] at this
 unfold FnSat
 conv=>arg 2; reduce
 simp [wirS,scsS,ElEq,getB,goneB,aliveB,and_assoc]
 exact hpre
@[irreducible] def wA (p : Pk) (s : Sx) (i k : Nat) : Int:=sA (p.at i) (s.at i) k
@[irreducible] def wR (p : Pk) (s : Sx) (i k : Nat) : Int:=sR (p.at i) (s.at i) k
def wirC (p : Pk) (s : Sx) : List AV:=[.slc (.sym p.len) 1 (fun i=>[.slc (.sym (p.sz i)) 17 (fun k=>encL celCells (celD (p.at i k)))]),.slc (.sym s.len) 1 (fun i=>[.slc (.sym (s.sz i)) 5 (fun k=>encL staCells (staD (s.at i k)))]),.row 1]
def wirL (p : Pk) (s : Sx) (i : Nat) : List AV:=[.slc (.sym (p.sz i)) 2 (fun k=>[.si .i64 (wA p s i k),.si .i64 (wR p s i k)])]
def wirN : SpecN [pkSh,sxSh]:=⟨fun (p,s,_)=>PkMax (pkOf p) /\ ssE (pkOf p) (sxOf s) = 0,fun _=>.tup [.own 0 0,.li .i64 0],fun (p,s,_)=>[.cells 96 (wirC (pkOf p) (sxOf s)),.row 93 1 (.sym (pkOf p).len) (wirL (pkOf p) (sxOf s))]⟩
def wirI : DatL [pkSh,sxSh] -> Anns:=fun (p,s,_)=>[
 (2097152 + 5,[(7,93,128 + 5)],fun _ _=>⟨Unit,fun _=>⟨[],[]⟩,Unit,fun _=>(),fun _=>True,fun _=>0⟩),
 (4194304 + 8,[],fun _ _=>⟨Unit,fun _=>⟨[],[]⟩,Unit,fun _=>(),fun _=>True,fun _=>0⟩),
 (6,[],fun fr hp=>⟨Nat,fun g=>⟨frI [.k 8,.t 2,.k 13,.s (.si .i64 (icast g)),.t 21] fr,setB hp 1 (.row 93 1 (.sym g) (wirL (pkOf p) (sxOf s)))⟩,Nat × Nat,fun g=>(g,(pkOf p).len),fun (g,n)=>g <= n,fun g=>nsub 17 g⟩)]
set_option maxRecDepth 100000 in
set_option maxHeartbeats 2000000 in
theorem wirN_ok : FnSpecN Tryz.prog 35 _ wirN:=by
 refine FnSpecN.of HX8_ok mixed (U:=0) (I:=wirI) Tryz.func35 rfl (by kernel_rfl) rfl rfl (by decide +kernel) ?_
 rintro ⟨p,s,⟨⟩⟩ hpre
 obtain ⟨p,rfl⟩:=pk_ex p
 obtain ⟨s,rfl⟩:=sx_ex s
 have hpre : PkMax p /\ ssE p s = 0:=by have : PkMax (pkOf (pkD p)) /\ ssE (pkOf (pkD p)) (sxOf (sxD s)) = 0:=hpre; rwa [pkOf_D,sxOf_D] at this
 unfold FnSat
 conv=>arg 2; reduce
 simp [wirN,wirC,wirL,scsS,srcsS,ElEq,getB,goneB,aliveB,maxRow,and_assoc]
 obtain ⟨hP,h0⟩:=hpre
 have S:=ssOK h0
 have n16:=S.n
 have hl:=S.l
 refine ⟨hP,h0,fun _=>⟨⟨0,rfl,rfl,fun j=>by omega,by omega⟩,fun g hg=>⟨fun hlt=>?_,fun hge=>?_⟩⟩⟩
 ·have hm:=S.m g hlt
  refine ⟨hlt,by omega,hm.2.symm,hm.1.2,fun k hk=>csE_iff.2 (S.c g hlt k hk),by omega,by omega,by omega,g + 1,by omega,rfl,fun j hj=>app_one hj (fun _=>rfl) (fun e=>?_),by omega,by omega⟩
  subst e
  unfold wA wR
  rfl
 ·obtain rfl : g = p.len:=by omega
  refine ⟨fun j _=>rfl,?_⟩
  exact ⟨fun j _=>rfl,rfl⟩
@[irreducible] def plO (p : Pk) (s : Sx) (g : Nat) (i : Int) (k : Nat) : Int:=shO (sA (p.at g) (s.at g)) (sR (p.at g) (s.at g)) (p.sz g) i k
theorem plO_eq (p : Pk) (s : Sx) (g : Nat) (i : Int) (k : Nat) : plO p s g i k = shO (sA (p.at g) (s.at g)) (sR (p.at g) (s.at g)) (p.sz g) i k:=by unfold plO; rfl
@[irreducible] def plV (p : Pk) (s : Sx) (g : Nat) (i : Int) : Int:=shV (sA (p.at g) (s.at g)) (sR (p.at g) (s.at g)) (p.sz g) i
theorem plV_eq (p : Pk) (s : Sx) (g : Nat) (i : Int) : plV p s g i = shV (sA (p.at g) (s.at g)) (sR (p.at g) (s.at g)) (p.sz g) i:=by unfold plV; rfl
@[irreducible] def ovP (x : Nat -> Int) (k : Nat) : Bool:=!(isIn (-1048576) (x k) 1048576)
theorem ovP_f {x : Nat -> Int} {k : Nat} : ovP x k = false ↔ -1048576 <= x k /\ x k <= 1048576:=by unfold ovP; simp
theorem ovP_t {x : Nat -> Int} {k : Nat} (h : x k < -1048576 \/ 1048576 < x k) : ovP x k = true:=by
 cases h' : ovP x k with
 | true=>rfl
 | false=>have:=ovP_f.1 h'; omega
@[irreducible] def splE (p : Pk) (s : Sx) (g i : Int) : Int:=if ssE p s = 0 then (if (g < 0 \/ (p.len : Int) <= g) \/ i < -1048576 \/ 1048576 < i then 3 else if anyN (ovP (plO p s g.toNat i)) (p.sz g.toNat) = true then 4 else 0) else ssE p s
theorem splE_e {p : Pk} {s : Sx} {g i : Int} (h : ssE p s ≠ 0) : splE p s g i = ssE p s:=by unfold splE; rw [if_neg h]
theorem splE_3 {p : Pk} {s : Sx} {g i : Int} (h : ssE p s = 0) (h' : (g < 0 \/ (p.len : Int) <= g) \/ i < -1048576 \/ 1048576 < i) : splE p s g i = 3:=by unfold splE; rw [if_pos h,if_pos h']
theorem splE_n {p : Pk} {s : Sx} {g i : Int} (h : ssE p s = 0) (h' : ¬ ((g < 0 \/ (p.len : Int) <= g) \/ i < -1048576 \/ 1048576 < i)) : splE p s g i = if anyN (ovP (plO p s g.toNat i)) (p.sz g.toNat) = true then 4 else 0:=by unfold splE; rw [if_pos h,if_neg h']
theorem splE_0 {p : Pk} {s : Sx} {g i : Int} : splE p s g i = 0 ↔ ssE p s = 0 /\ ((0 <= g /\ g < (p.len : Int)) /\ -1048576 <= i /\ i <= 1048576) /\ ∀ k,k < p.sz g.toNat -> -1048576 <= plO p s g.toNat i k /\ plO p s g.toNat i k <= 1048576:=by
 by_cases h : ssE p s = 0
 ·by_cases h' : (g < 0 \/ (p.len : Int) <= g) \/ i < -1048576 \/ 1048576 < i
  ·rw [splE_3 h h']
   constructor
   ·intro h; omega
   ·rintro ⟨_,h1,_⟩; omega
  ·rw [splE_n h h']
   cases ha : anyN (ovP (plO p s g.toNat i)) (p.sz g.toNat) with
   | true =>
     obtain ⟨k,hk,hp⟩:=anyN_iff.1 ha
     simp only [if_true]
     constructor
     ·intro h; omega
     ·rintro ⟨_,_,h3⟩
      rw [ovP_f.2 (h3 k hk)] at hp; cases hp
   | false =>
     simp only [Bool.false_eq_true,if_false,true_iff]
     exact ⟨h,by omega,fun k hk=>ovP_f.1 (anyN_false.1 ha k hk)⟩
 ·rw [splE_e h]
  exact ⟨fun h'=>absurd h' h,fun h'=>absurd h'.1 h⟩
@[irreducible] def splN (p : Pk) (s : Sx) (g i : Int) : Nat:=okN (splE p s g i) (p.sz g.toNat)
@[irreducible] def splV (p : Pk) (s : Sx) (g i : Int) : Int:=okI (splE p s g i) (plV p s g.toNat i)
@[irreducible] def splO (p : Pk) (s : Sx) (g i : Int) (k : Nat) : Int:=plO p s g.toNat i k
def splR : DatL [pkSh,sxSh,.int .i64,.int .i64] -> AV:=fun (p,s,(g : Int),(i : Int),_)=>.tup [.slc (.sym (splN (pkOf p) (sxOf s) g i)) 1 (fun k=>[.si .i64 (splO (pkOf p) (sxOf s) g i k)]),.si .i64 (splV (pkOf p) (sxOf s) g i),.si .i64 (splE (pkOf p) (sxOf s) g i)]
def splS : Spec [pkSh,sxSh,.int .i64,.int .i64]:=⟨fun (p,_)=>PkMax (pkOf p),splR⟩
def splSe : Spec [pkSh,sxSh,.int .i64,.int .i64]:=⟨fun (p,s,_)=>PkMax (pkOf p) /\ ssE (pkOf p) (sxOf s) ≠ 0,splR⟩
def splSo : Spec [pkSh,sxSh,.int .i64,.int .i64]:=⟨fun (p,s,_)=>PkMax (pkOf p) /\ ssE (pkOf p) (sxOf s) = 0,splR⟩
def posS : Spec [.int .i64]:=⟨fun _=>True,fun ((x : Int),_)=>.sb (isIn (-1048576) x 1048576)⟩
set_option maxRecDepth 100000 in
theorem ppos_ok : FnSpec Tryz.prog 36 _ posS:=by
 refine FnSpec.of HX8_ok mixed (U:=0) (I:=fun _=>[]) Tryz.func36 rfl (by kernel_rfl) rfl rfl (by decide +kernel) ?_
 rintro ⟨(x : Int),⟨⟩⟩ -
 unfold FnSat
 conv=>arg 2; reduce
 simp [posS,and_assoc]
noncomputable def HXe : Sums:=⟨(35,mkSum _ wirS) :: (36,mkSum _ posS) :: HX8.one,HX8.two,HX8.lo,HX8.eqs,HX8.its,HX8.imm⟩
theorem HXe_ok : SumsOK Tryz.prog HXe:=((HX8_ok.cons Tryz.func36 (by kernel_rfl) (by kernel_rfl) ppos_ok).cons Tryz.func35 (by kernel_rfl) (by kernel_rfl) wir_ok)
noncomputable def HXo : Sums:=⟨(35,mkSumN _ wirN) :: (36,mkSum _ posS) :: HX8.one,HX8.two,HX8.lo,HX8.eqs,HX8.its,HX8.imm⟩
theorem HXo_ok : SumsOK Tryz.prog HXo:=((HX8_ok.cons Tryz.func36 (by kernel_rfl) (by kernel_rfl) ppos_ok).add Tryz.func35 (by kernel_rfl) (by kernel_rfl) (mkSumN_ok wirN_ok))
set_option maxRecDepth 100000 in
theorem spl_e : FnSpec Tryz.prog 18 _ splSe:=by
 refine FnSpec.of HXe_ok mixed (U:=0) (I:=fun _=>[]) Tryz.func18 rfl (by kernel_rfl) rfl rfl (by decide +kernel) ?_
 rintro ⟨p,s,(g : Int),(i : Int),⟨⟩⟩ hpre
 obtain ⟨p,rfl⟩:=pk_ex p
 obtain ⟨s,rfl⟩:=sx_ex s
 have hpre : PkMax p /\ ssE p s ≠ 0:=by have : PkMax (pkOf (pkD p)) /\ ssE (pkOf (pkD p)) (sxOf (sxD s)) ≠ 0:=hpre; rwa [pkOf_D,sxOf_D] at this
 unfold FnSat
 conv=>arg 2; reduce
 simp [splSe,splR,wirS,ElEq,getB,goneB,aliveB,and_assoc]
 obtain ⟨hP,h0⟩:=hpre
 refine ⟨hP,h0,fun h=>⟨?_,?_,(splE_e h0).symm⟩,fun h=>absurd h h0⟩
 ·unfold splN; rw [splE_e h0,okN_e h0]
 ·unfold splV; rw [splE_e h0,okI_e h0]
def splI : DatL [pkSh,sxSh,.int .i64,.int .i64] -> Anns:=fun (p,s,(g : Int),(i : Int),_)=>[
 (8,[],fun fr hp=>⟨Nat,fun k=>⟨frI [.k 16,.t 1,.k 36,.s (.si .i64 (icast k)),.t 9] fr,hp⟩,Nat × Nat × (Nat -> Int),fun k=>(k,(pkOf p).sz (nat g),splO (pkOf p) (sxOf s) g i),fun (k,n,x)=>k <= n /\ ∀ j,j < k -> ovP x j = false,fun k=>nsub 5 k⟩)]
set_option maxRecDepth 100000 in
set_option maxHeartbeats 2000000 in
theorem spl_o : FnSpec Tryz.prog 18 _ splSo:=by
 refine FnSpec.of HXo_ok mixed (U:=0) (I:=splI) Tryz.func18 rfl (by kernel_rfl) rfl rfl (by decide +kernel) ?_
 rintro ⟨p,s,(g : Int),(i : Int),⟨⟩⟩ hpre
 obtain ⟨p,rfl⟩:=pk_ex p
 obtain ⟨s,rfl⟩:=sx_ex s
 have hpre : PkMax p /\ ssE p s = 0:=by have : PkMax (pkOf (pkD p)) /\ ssE (pkOf (pkD p)) (sxOf (sxD s)) = 0:=hpre; rwa [pkOf_D,sxOf_D] at this
 unfold FnSat
 conv=>arg 2; reduce
 simp [splSo,splR,wirN,wirC,wirL,shS,posS,ElEq,getB,goneB,aliveB,and_assoc]
 obtain ⟨hP,h0⟩:=hpre
 have S:=ssOK h0
 have hl:=S.l
 refine ⟨hP,h0,fun h=>?_,fun g1 g2 i1 i2=>?_⟩
 ·have he:=splE_3 (i:=i) (g:=g) h0 (by omega)
  refine ⟨?_,?_,he.symm⟩
  ·unfold splN; rw [he,okN_e (by omega)]
  ·unfold splV; rw [he,okI_e (by omega)]
 have hgl : g.toNat < p.len:=by omega
 have hm:=S.m _ hgl
 have hO : SrcOK (p.sz g.toNat) (fun k=>wA p s g.toNat k) (fun k=>wR p s g.toNat k):=by unfold wA wR; exact S.src hgl
 have hA : (fun k=>wA p s g.toNat k) = sA (p.at g.toNat) (s.at g.toNat):=by funext k; unfold wA; rfl
 have hR : (fun k=>wR p s g.toNat k) = sR (p.at g.toNat) (s.at g.toNat):=by funext k; unfold wR; rfl
 have hX : ∀ k,shO (fun k=>wA p s g.toNat k) (fun k=>wR p s g.toNat k) (p.sz g.toNat) i k = splO p s g i k:=fun k=>by rw [hA,hR,<- plO_eq]; unfold splO; rfl
 have hV : shV (fun k=>wA p s g.toNat k) (fun k=>wR p s g.toNat k) (p.sz g.toNat) i = plV p s g.toNat i:=by rw [hA,hR,<- plV_eq]
 simp only [hX,hV]
 have hE:=splE_n (i:=i) (g:=g) h0 (by omega)
 have hXo : plO p s g.toNat i = splO p s g i:=by funext k; unfold splO; rfl
 rw [hXo] at hE
 refine ⟨g1,by omega,hO,hm.1.1,i1,i2,⟨0,rfl,by omega,fun j hj=>by omega⟩,fun k hk hall=>⟨fun hlt=>⟨hlt,fun hb=>?_,fun x1 x2=>⟨by omega,by omega,k + 1,by omega,by omega,fun j hj=>?_,by omega⟩⟩,fun hge=>?_⟩⟩
 ·rw [if_pos (anyN_iff.2 ⟨k,hlt,ovP_t hb⟩)] at hE
  refine ⟨?_,?_,hE.symm⟩
  ·unfold splN; rw [hE,okN_e (by omega)]
  ·unfold splV; rw [hE,okI_e (by omega)]
 ·by_cases e : j = k
  ·subst e; exact ovP_f.2 ⟨x1,x2⟩
  ·exact hall j (by omega)
 ·rw [if_neg (by rw [anyN_false.2 fun j hj=>hall j (by omega)]; exact Bool.false_ne_true)] at hE
  refine ⟨?_,fun j _=>trivial,?_,hE.symm⟩
  ·unfold splN; rw [okN_0 hE]
  ·unfold splV; rw [okI_0 hE]
theorem spl_ok : FnSpec Tryz.prog 18 _ splS:=fun x hx=>by
 by_cases h : ssE (pkOf x.1) (sxOf x.2.1) = 0
 ·exact spl_o x ⟨hx,h⟩
 ·exact spl_e x ⟨hx,h⟩
noncomputable def HY1 : Sums:=⟨(18,mkSum _ splS) :: HX8.one,HX8.two,HX8.lo,HX8.eqs,HX8.its,HX8.imm⟩
theorem HY1_ok : SumsOK Tryz.prog HY1:=(HX8_ok.cons Tryz.func18 (by kernel_rfl) (by kernel_rfl) spl_ok)
def rdrwS : Spec [celSh,staSh,.int .i64]:=⟨fun (c,s,(v : Int),_)=>csE (celOf c) (staOf s) = 0 /\ -1099511627777 <= v /\ v <= 1099511627777,fun (c,s,(v : Int),_)=>.si .i64 (dwV (isub (opnV (celOf c) (staOf s)) (staOf s).rx) (imax 1 (rV (celOf c) (staOf s))) v)⟩
set_option maxRecDepth 100000 in
set_option maxHeartbeats 2000000 in
theorem rdrw_ok : FnSpec Tryz.prog 85 _ rdrwS:=by
 refine FnSpec.of HY1_ok mixed (U:=0) (I:=fun _=>[]) Tryz.func85 rfl (by kernel_rfl) rfl rfl (by decide +kernel) ?_
 rintro ⟨c,s,(v : Int),⟨⟩⟩ hpre
 obtain ⟨c,rfl⟩:=cel_ex c
 obtain ⟨s,rfl⟩:=sta_ex s
 have hpre : csE c s = 0 /\ -1099511627777 <= v /\ v <= 1099511627777:=by have : csE (celOf (celD c)) (staOf (staD s)) = 0 /\ -1099511627777 <= v /\ v <= 1099511627777:=hpre; rwa [celOf_D,staOf_D] at this
 unfold FnSat
 conv=>arg 2; reduce
 simp [rdrwS,opnS,rsiS,divS,and_assoc]
 obtain ⟨h,v1,v2⟩:=hpre
 obtain ⟨hb,hs⟩:=csE_iff.1 h
 have hm:=(celB_iff.1 hb).max
 have ho:=opnV_in (s:=s) hb
 have hr:=rV_in (c:=c) (s:=s)
 have:=hs.r0
 have:=hs.r1
 rw [aV_yes h,aV_yes h,dwV_eq]
 exact ⟨hm,by omega,by omega,by omega,by omega,by omega,by omega,by omega,by omega,by omega,rfl⟩
noncomputable def HY2 : Sums:=⟨(85,mkSum _ rdrwS) :: HY1.one,HY1.two,HY1.lo,HY1.eqs,HY1.its,HY1.imm⟩
theorem HY2_ok : SumsOK Tryz.prog HY2:=(HY1_ok.cons Tryz.func85 (by kernel_rfl) (by kernel_rfl) rdrw_ok)
def GrpOK (m n : Nat) (c : Nat -> CelD) (s : Nat -> StaD) : Prop:=m = n /\ m <= 4 /\ ∀ k,k < m -> csE (celOf (c k)) (staOf (s k)) = 0
def rsuS : Spec [grpSh,stgSh,.int .i64]:=⟨fun ((m,c),(n,s),(v : Int),_)=>GrpOK m n c s /\ -1099511627777 <= v /\ v <= 1099511627777,fun ((m,c),(_,s),(v : Int),_)=>.si .i64 (dwS (sA (fun k=>celOf (c k)) (fun k=>staOf (s k))) (sR (fun k=>celOf (c k)) (fun k=>staOf (s k))) m v)⟩
def rsuI : DatL [grpSh,stgSh,.int .i64] -> Anns:=fun ((m,c),(_,s),(v : Int),_)=>[
 (3,[],fun fr hp=>⟨Nat,fun g=>⟨frI [.k 7,.s (.si .i64 (dwS (sA (fun k=>celOf (c k)) (fun k=>staOf (s k))) (sR (fun k=>celOf (c k)) (fun k=>staOf (s k))) g v)),.s (.si .i64 (icast g)),.t 19] fr,hp⟩,Nat × Nat,fun g=>(g,m),fun (g,m)=>g <= m,fun g=>nsub 5 g⟩)]
set_option maxRecDepth 100000 in
set_option maxHeartbeats 2000000 in
theorem rsu_ok : FnSpec Tryz.prog 84 _ rsuS:=by
 refine FnSpec.of HY2_ok mixed (U:=0) (I:=rsuI) Tryz.func84 rfl (by kernel_rfl) rfl rfl (by decide +kernel) ?_
 rintro ⟨⟨m,c⟩,⟨n,s⟩,(v : Int),⟨⟩⟩ hpre
 obtain ⟨C,rfl⟩ : ∃ C : Nat -> Cel,c = fun k=>celD (C k):=⟨fun k=>celOf (c k),by funext k; exact (cel_D (c k)).symm⟩
 obtain ⟨S,rfl⟩ : ∃ S : Nat -> Sta,s = fun k=>staD (S k):=⟨fun k=>staOf (s k),by funext k; exact (sta_D (s k)).symm⟩
 obtain ⟨⟨h1,h2,h3⟩,v1,v2⟩ : (m = n /\ m <= 4 /\ ∀ k,k < m -> csE (celOf (celD (C k))) (staOf (staD (S k))) = 0) /\ -1099511627777 <= v /\ v <= 1099511627777:=hpre
 simp only [celOf_D,staOf_D] at h3
 subst h1
 unfold FnSat
 conv=>arg 2; reduce
 simp [rsuS,rdrwS,ElEq,getB,goneB,aliveB,and_assoc]
 have eC : (fun k=>C k) = C:=rfl
 have eS : (fun k=>S k) = S:=rfl
 simp only [eC,eS]
 have hO : SrcOK m (sA C S) (sR C S):=src_ok h2 fun k hk=>csE_iff.1 (h3 k hk)
 have hD : ∀ g v,dwV (opnV (C g) (S g) - (S g).rx) (max 1 (rV (C g) (S g))) v = dwV (sA C S g) (sR C S g) v:=fun g v=>by rw [sA_eq,sR_eq]
 simp only [hD]
 generalize sA C S = a at *
 generalize sR C S = r at *
 refine ⟨⟨0,(dwS_0 a r v).symm,rfl,by omega⟩,fun g hg=>⟨fun hlt=>?_,fun hge=>by rw [show g = m by omega]⟩⟩
 have a0:=hO.a0 g hlt
 have r0:=hO.r0 g hlt
 have b0:=dwS_in hO v1 v2 g hg
 have b1:=dwV_in (v:=v) a0.1 a0.2 r0.1 v1 v2
 exact ⟨hlt,h3 g hlt,v1,v2,by omega,by omega,by omega,by omega,g + 1,(dwS_s a r g v).symm,by omega,by omega,by omega⟩
noncomputable def HY3 : Sums:=⟨(84,mkSum _ rsuS) :: HY2.one,HY2.two,HY2.lo,HY2.eqs,HY2.its,HY2.imm⟩
theorem HY3_ok : SumsOK Tryz.prog HY3:=(HY2_ok.cons Tryz.func84 (by kernel_rfl) (by kernel_rfl) rsu_ok)
def rspS : Spec [grpSh,stgSh,.int .i64]:=⟨fun ((m,c),(n,s),(i : Int),_)=>GrpOK m n c s /\ 1 <= m /\ -1048576 <= i /\ i <= 1048576,fun ((m,c),(_,s),(i : Int),_)=>.tup [.slc (.sym m) 1 (fun k=>[.si .i64 (shO (sA (fun k=>celOf (c k)) (fun k=>staOf (s k))) (sR (fun k=>celOf (c k)) (fun k=>staOf (s k))) m i k)]),.si .i64 (shV (sA (fun k=>celOf (c k)) (fun k=>staOf (s k))) (sR (fun k=>celOf (c k)) (fun k=>staOf (s k))) m i)]⟩
def rspI : DatL [grpSh,stgSh,.int .i64] -> Anns:=fun ((m,c),(_,s),(i : Int),_)=>[
 (2,[],fun fr hp=>⟨Int × Int,fun g=>⟨frI [.k 8,.s (.si .i64 g.1),.s (.si .i64 g.2),.t 1,.k 5,.t 66] fr,hp⟩,Int × Int × Int,fun g=>(g.1,g.2,shV (sA (fun k=>celOf (c k)) (fun k=>staOf (s k))) (sR (fun k=>celOf (c k)) (fun k=>staOf (s k))) m i),fun ((l : Int),(h : Int),(v : Int))=>l < v /\ v <= h /\ -1099511627776 <= l /\ h <= 1099511627776,fun g=>nat (isub g.2 g.1)⟩),
 (10,[(12,2,1)],fun fr hp=>⟨Nat,fun g=>⟨frI [.k 11,.s (.si .i64 (lfN (sA (fun k=>celOf (c k)) (fun k=>staOf (s k))) (sR (fun k=>celOf (c k)) (fun k=>staOf (s k))) m i g)),.k 1,.s (.si .i64 (icast g)),.t 2,.k 24,.t 42] fr,setB hp 0 (.row 2 1 (.sym g) (fun k=>[.si .i64 (shO (sA (fun k=>celOf (c k)) (fun k=>staOf (s k))) (sR (fun k=>celOf (c k)) (fun k=>staOf (s k))) m i k)]))⟩,Nat × Nat,fun g=>(g,m),fun (g,m)=>g <= m,fun g=>nsub 5 g⟩)]
set_option maxRecDepth 100000 in
set_option maxHeartbeats 2000000 in
theorem rsp_ok : FnSpec Tryz.prog 44 _ rspS:=by
 refine FnSpec.of HY3_ok mixed (U:=0) (I:=rspI) Tryz.func44 rfl (by kernel_rfl) rfl rfl (by decide +kernel) ?_
 rintro ⟨⟨m,c⟩,⟨n,s⟩,(i : Int),⟨⟩⟩ hpre
 obtain ⟨C,rfl⟩ : ∃ C : Nat -> Cel,c = fun k=>celD (C k):=⟨fun k=>celOf (c k),by funext k; exact (cel_D (c k)).symm⟩
 obtain ⟨S,rfl⟩ : ∃ S : Nat -> Sta,s = fun k=>staD (S k):=⟨fun k=>staOf (s k),by funext k; exact (sta_D (s k)).symm⟩
 obtain ⟨⟨h1,h2,h3⟩,hm1,i1,i2⟩ : (m = n /\ m <= 4 /\ ∀ k,k < m -> csE (celOf (celD (C k))) (staOf (staD (S k))) = 0) /\ 1 <= m /\ -1048576 <= i /\ i <= 1048576:=hpre
 simp only [celOf_D,staOf_D] at h3
 subst h1
 unfold FnSat
 conv=>arg 2; reduce
 simp [rspS,rsuS,rdrwS,GrpOK,ElEq,getB,goneB,aliveB,maxRow,and_assoc]
 have eC : (fun k=>C k) = C:=rfl
 have eS : (fun k=>S k) = S:=rfl
 simp only [eC,eS]
 have hO : SrcOK m (sA C S) (sR C S):=src_ok h2 fun k hk=>csE_iff.1 (h3 k hk)
 have hD : ∀ g v,dwV (opnV (C g) (S g) - (S g).rx) (max 1 (rV (C g) (S g))) v = dwV (sA C S g) (sR C S g) v:=fun g v=>by rw [sA_eq,sR_eq]
 simp only [hD]
 generalize sA C S = a at *
 generalize sR C S = r at *
 have K:=shOK hO hm1 i1 i2
 have k1:=K.lo
 have k2:=K.hi
 have hi0:=fun v=>shP_iff (v:=v) hO K
 have hit : ∀ v,dwS a r m v <= i -> shV a r m i <= v:=fun v hv=>(hi0 v).1 (shP_t.2 hv)
 have hif : ∀ v,i < dwS a r m v -> v < shV a r m i:=fun v hv=>by
  apply Classical.byContradiction
  intro hh
  have:=shP_t.1 ((hi0 v).2 (by omega))
  omega
 have k3:=dwS_in hO (v:=shV a r m i) (by omega) (by omega) m (Nat.le_refl _)
 have hl0:=lfN_0 a r m i
 have hls:=lfN_s a r m i
 have hso:=shO_eq a r m i
 have hli:=fun k hk=>lfN_in hO K i2 k hk
 generalize shV a r m i = V at *
 refine ⟨by omega,by omega,fun l u a1 a2 a3 a4=>⟨by omega,by omega,fun hlt=>?_,fun hge=>?_⟩⟩
 ·have ht : (u - l).tdiv 2 = (u - l) / 2:=Int.tdiv_eq_ediv_of_nonneg (by omega)
  rw [ht]
  refine ⟨by omega,by omega,by omega,by omega,by omega,by omega,h2,h3,by omega,by omega,fun hy=>?_,fun hn=>?_⟩
  ·have:=hit _ hy
   exact ⟨a1,this,a3,by omega,by omega⟩
  ·have:=hif _ hn
   exact ⟨this,a2,by omega,a4,by omega⟩
 obtain rfl : u = V:=by omega
 refine ⟨h2,h3,by omega,by omega,by omega,by omega,⟨0,hl0.symm,rfl,rfl,fun j=>by omega,by omega⟩,fun g hg=>⟨fun hlt=>?_,fun hge2=>?_⟩⟩
 ·have a0:=hO.a0 g hlt
  have r0:=hO.r0 g hlt
  have d0:=dwV_in (v:=u) a0.1 a0.2 r0.1 (by omega) (by omega)
  have d1:=dwV_in (v:=u - 1) a0.1 a0.2 r0.1 (by omega) (by omega)
  have dm:=dwV_mono (a:=a g) (r:=r g) (v:=u - 1) (w:=u) r0.1 (by omega)
  have hl:=hli g hg
  have hs1:=hls g
  have ho1:=hso g
  generalize dwV (a g) (r g) u = D0 at *
  generalize dwV (a g) (r g) (u - 1) = D1 at *
  generalize lfN a r m i g = L at *
  have hcs:=h3 g hlt
  exact ⟨hlt,hcs,by omega,by omega,hlt,by omega,by omega,hcs,by omega,by omega,by omega,by omega,by omega,by omega,by omega,by omega,by omega,by omega,by omega,g + 1,hs1.symm,by omega,rfl,fun j hj=>app_one hj (fun _=>rfl) (fun e=>by subst e; rw [ho1]; rfl),by omega,by omega⟩
 ·exact ⟨by omega,rfl⟩
@[irreducible] def fitL (x : Nat -> Int) (n : Nat) : Bool:=!(anyN (ovP x) n)
theorem fitL_t {x : Nat -> Int} {n : Nat} (h : ∀ k,k < n -> ovP x k = false) : fitL x n = true:=by unfold fitL; rw [anyN_false.2 h]; rfl
theorem fitL_f {x : Nat -> Int} {n k : Nat} (hk : k < n) (h : ovP x k = true) : fitL x n = false:=by unfold fitL; rw [anyN_iff.2 ⟨k,hk,h⟩]; rfl
def rftS : Spec [.slice 1 [.int .i64]]:=⟨fun ((n,_),_)=>n <= maxLen,fun ((n,x),_)=>.sb (fitL (fun k=>(x k).1) n)⟩
def rftI : DatL [.slice 1 [.int .i64]] -> Anns:=fun ((n,x),_)=>[
 (2,[],fun fr hp=>⟨Nat,fun k=>⟨frI [.k 3,.s (.si .i64 (icast k)),.t 18] fr,hp⟩,Nat × Nat × (Nat -> Bool),fun k=>(n,k,ovP (fun k=>(x k).1)),fun (n,k,p)=>k <= n /\ ∀ j,j < k -> p j = false,fun k=>nsub n k⟩)]
set_option maxRecDepth 100000 in
theorem rft_ok : FnSpec Tryz.prog 45 _ rftS:=by
 refine FnSpec.of HY3_ok mixed (U:=0) (I:=rftI) Tryz.func45 rfl (by kernel_rfl) rfl rfl (by decide +kernel) ?_
 rintro ⟨⟨n,x'⟩,⟨⟩⟩ (hn : n <= maxLen)
 obtain ⟨x,rfl⟩ : ∃ x : Nat -> Int,x' = fun k=>(x k,()):=⟨fun k=>(x' k).1,rfl⟩
 unfold maxLen at hn
 unfold FnSat
 conv=>arg 2; reduce
 simp [rftS,ElEq,getB,goneB,aliveB,and_assoc]
 have e1 : (fun k=>x k) = x:=rfl
 simp only [e1]
 refine ⟨⟨0,rfl,by omega,fun j hj=>by omega⟩,fun g hg hall=>⟨fun hlt=>⟨hlt,fun _=>hlt,fun hb=>fitL_f hlt (ovP_t hb),fun x1 x2=>⟨by omega,by omega,g + 1,by omega,by omega,fun j hj=>?_,by omega⟩⟩,fun hge=>fitL_t fun j hj=>hall j (by omega)⟩⟩
 by_cases e : j = g
 ·subst e; exact ovP_f.2 ⟨x1,x2⟩
 ·exact hall j (by omega)
end
end Abs
end Go.Proofs.YtlacopdaibhkkaaGreat

namespace Go.Proofs.YtlacopdaibhkkaaGreat
namespace Abs
open Go Go.RowKit
theorem lfN_max {n : Nat} {a r : Nat -> Int} {i : Int} (h : SrcOK n a r) (K : ShOK a r n i) : ∀ k,k <= n -> lfN a r n i k = max 0 (i - dwS a r n (shV a r n i) - (dwS a r k (shV a r n i - 1) - dwS a r k (shV a r n i)))
 | 0,_=>by
   have:=K.y
   rw [lfN_0,dwS_0,dwS_0]; omega
 | k + 1,hk=>by
   have ih:=lfN_max h K k (by omega)
   have dm:=dwV_mono (a:=a k) (r:=r k) (v:=shV a r n i - 1) (w:=shV a r n i) (h.r0 k (by omega)).1 (by omega)
   rw [lfN_s,ih,dwS_s,dwS_s]
   omega
theorem shO_b {n : Nat} {a r : Nat -> Int} {i : Int} (h : SrcOK n a r) (K : ShOK a r n i) {k : Nat} (hk : k < n) : dwV (a k) (r k) (shV a r n i) <= shO a r n i k /\ shO a r n i k <= dwV (a k) (r k) (shV a r n i - 1):=by
 have dm:=dwV_mono (a:=a k) (r:=r k) (v:=shV a r n i - 1) (w:=shV a r n i) (h.r0 k hk).1 (by omega)
 have hl:=lfN_max h K k (by omega)
 rw [shO_eq]
 omega
theorem shO_mono {n : Nat} {a r : Nat -> Int} {i j : Int} (h : SrcOK n a r) (K : ShOK a r n i) (L : ShOK a r n j) (hij : i <= j) {k : Nat} (hk : k < n) : shO a r n i k <= shO a r n j k:=by
 have hv : shV a r n j <= shV a r n i:=(shP_iff h L).1 (shP_t.2 (by have:=K.y; omega))
 have b1:=shO_b h K hk
 have b2:=shO_b h L hk
 by_cases e : shV a r n j = shV a r n i
 ·have l1:=lfN_max h K k (by omega)
  have l2:=lfN_max h L k (by omega)
  have o1:=shO_eq a r n i k
  have o2:=shO_eq a r n j k
  rw [e] at l2 o2
  omega
 ·have:=dwV_mono (a:=a k) (r:=r k) (v:=shV a r n j) (w:=shV a r n i - 1) (h.r0 k hk).1 (by omega)
  omega
end Abs
end Go.Proofs.YtlacopdaibhkkaaGreat

namespace Go.Proofs.YtlacopdaibhkkaaGreat
namespace Abs
open Go Go.RowKit
noncomputable section
attribute [local irreducible] FnSat
@[reducible] def wirCells : List Sh:=[.slice 1 [grpSh],sxSh,.slice 1 [srcSh]]
def wirX (p : Pk) (s : Sx) : List AV:=[.slc (.sym p.len) 1 (fun i=>[.slc (.sym (p.sz i)) 17 (fun k=>encL celCells (celD (p.at i k)))]),.slc (.sym s.len) 1 (fun i=>[.slc (.sym (s.sz i)) 5 (fun k=>encL staCells (staD (s.at i k)))]),.slc (.sym p.len) 1 (wirL p s)]
def wirP : Spec [pkSh,sxSh]:=⟨fun (p,s,_)=>PkMax (pkOf p) /\ ssE (pkOf p) (sxOf s) = 0,fun (p,s,_)=>.tup [.xp (wirX (pkOf p) (sxOf s)),.li .i64 0]⟩
def wirPI : DatL [pkSh,sxSh] -> Anns:=fun (p,s,_)=>[
 (2097152 + 5,[(7,93,128 + 5)],fun _ _=>⟨Unit,fun _=>⟨[],[]⟩,Unit,fun _=>(),fun _=>True,fun _=>0⟩),
 (4194304 + 8,[],fun _ _=>⟨Unit,fun _=>⟨[],[]⟩,Unit,fun _=>(),fun _=>True,fun _=>0⟩),
 (2097152 + 10,[(7,0,128 + 6),(7,0,0)],fun _ _=>⟨Unit,fun _=>⟨[],[]⟩,Unit,fun _=>(),fun _=>True,fun _=>0⟩),
 (6,[],fun fr hp=>⟨Nat,fun g=>⟨frI [.k 8,.t 2,.k 13,.s (.si .i64 (icast g)),.t 21] fr,setB hp 1 (.row 93 1 (.sym g) (wirL (pkOf p) (sxOf s)))⟩,Nat × Nat,fun g=>(g,(pkOf p).len),fun (g,n)=>g <= n,fun g=>nsub 17 g⟩)]
set_option maxRecDepth 100000 in
set_option maxHeartbeats 2000000 in
theorem wirP_ok : FnSpec Tryz.prog 35 _ wirP:=by
 refine FnSpec.of HX8_ok mixed (U:=0) (I:=wirPI) Tryz.func35 rfl (by kernel_rfl) rfl rfl (by decide +kernel) ?_
 rintro ⟨p,s,⟨⟩⟩ hpre
 obtain ⟨p,rfl⟩:=pk_ex p
 obtain ⟨s,rfl⟩:=sx_ex s
 have hpre : PkMax p /\ ssE p s = 0:=by have : PkMax (pkOf (pkD p)) /\ ssE (pkOf (pkD p)) (sxOf (sxD s)) = 0:=hpre; rwa [pkOf_D,sxOf_D] at this
 unfold FnSat
 conv=>arg 2; reduce
 simp [wirP,wirX,wirL,ownIn,ownIn.ownInL,scsS,srcsS,ElEq,getB,goneB,aliveB,maxRow,and_assoc]
 obtain ⟨hP,h0⟩:=hpre
 have S:=ssOK h0
 have n16:=S.n
 have hl:=S.l
 refine ⟨hP,h0,fun _=>⟨⟨0,rfl,rfl,fun j=>by omega,by omega⟩,fun g hg=>⟨fun hlt=>?_,fun hge=>?_⟩⟩⟩
 ·have hm:=S.m g hlt
  refine ⟨hlt,by omega,hm.2.symm,hm.1.2,fun k hk=>csE_iff.2 (S.c g hlt k hk),by omega,by omega,by omega,g + 1,by omega,rfl,fun j hj=>app_one hj (fun _=>rfl) (fun e=>?_),by omega,by omega⟩
  subst e
  unfold wA wR
  rfl
 ·obtain rfl : g = p.len:=by omega
  exact ⟨fun j _=>rfl,fun j _=>rfl,rfl⟩
structure Wx where
 n0 : Nat
 m0 : Nat -> Nat
 a0 : Nat -> Nat -> Int
 r0 : Nat -> Nat -> Int
@[irreducible] def Wx.n (w : Wx) : Nat:=w.n0
@[irreducible] def Wx.m (w : Wx) : Nat -> Nat:=w.m0
@[irreducible] def Wx.a (w : Wx) : Nat -> Nat -> Int:=w.a0
@[irreducible] def Wx.r (w : Wx) : Nat -> Nat -> Int:=w.r0
abbrev WxD:=Nat × (Nat -> (Nat × (Nat -> Int × Int × Unit)) × Unit)
@[irreducible] def wxOf (x : WxD) : Wx:=⟨x.1,fun i=>(x.2 i).1.1,fun i k=>((x.2 i).1.2 k).1,fun i k=>((x.2 i).1.2 k).2.1⟩
@[reducible] def wxD (w : Wx) : WxD:=(w.n,fun i=>((w.m i,fun k=>(w.a i k,w.r i k,())),()))
@[simp] theorem wxOf_D (w : Wx) : wxOf (wxD w) = w:=by unfold wxOf wxD Wx.n Wx.m Wx.a Wx.r; rfl
theorem wx_ex (x : WxD) : ∃ w : Wx,x = wxD w:=⟨wxOf x,by unfold wxOf wxD Wx.n Wx.m Wx.a Wx.r; rfl⟩
structure WxOK (w : Wx) : Prop where
 n : w.n <= 16
 s : ∀ i,i < w.n -> SrcOK (w.m i) (w.a i) (w.r i) /\ 1 <= w.m i
@[irreducible] def swO (w : Wx) (i : Int) (g k : Nat) : Int:=shO (w.a g) (w.r g) (w.m g) i k
theorem swO_eq (w : Wx) (i : Int) (g k : Nat) : swO w i g k = shO (w.a g) (w.r g) (w.m g) i k:=by unfold swO; rfl
@[irreducible] def swV (w : Wx) (i : Int) (g : Nat) : Int:=shV (w.a g) (w.r g) (w.m g) i
theorem swV_eq (w : Wx) (i : Int) (g : Nat) : swV w i g = shV (w.a g) (w.r g) (w.m g) i:=by unfold swV; rfl
@[irreducible] def swT (w : Wx) (i : Int) (g : Nat) : Int:=sumN (swV w i) g
theorem swT_0 (w : Wx) (i : Int) : swT w i 0 = 0:=by unfold swT; simp
theorem swT_s (w : Wx) (i : Int) (g : Nat) : swT w i (g + 1) = swT w i g + swV w i g:=by unfold swT; rw [sumN_succ]
def pfB0 (x : Nat -> Int) : Nat -> Bool
 | 0=>true
 | k + 1=>pfB0 x k && isIn (-1048576) (x k) 1048576
@[irreducible] def pfB (x : Nat -> Int) (k : Nat) : Bool:=pfB0 x k
theorem pfB_0 (x : Nat -> Int) : pfB x 0 = true:=by unfold pfB; rfl
theorem pfB_s (x : Nat -> Int) (k : Nat) : pfB x (k + 1) = (pfB x k && isIn (-1048576) (x k) 1048576):=by unfold pfB; rfl
theorem pfB_t {x : Nat -> Int} : ∀ {n : Nat},pfB x n = true ↔ ∀ k,k < n -> -1048576 <= x k /\ x k <= 1048576
 | 0=>by rw [pfB_0]; simp
 | n + 1=>by
   rw [pfB_s,Bool.and_eq_true,pfB_t (n:=n)]
   simp only [isIn_eq,Bool.and_eq_true,decide_eq_true_eq]
   constructor
   ·rintro ⟨h1,h2⟩ k hk
    by_cases e : k = n
    ·subst e; exact h2
    ·exact h1 k (by omega)
   ·intro h; exact ⟨fun k hk=>h k (by omega),h n (by omega)⟩
theorem fitL_pf {x : Nat -> Int} {n : Nat} : fitL x n = pfB x n:=by
 cases h : pfB x n with
 | true=>exact fitL_t fun k hk=>ovP_f.2 (pfB_t.1 h k hk)
 | false =>
   cases h2 : fitL x n with
   | false=>rfl
   | true =>
     have : pfB x n = true:=pfB_t.2 fun k hk=>by
      cases h3 : ovP x k with
      | false=>exact ovP_f.1 h3
      | true=>rw [fitL_f hk h3] at h2; cases h2
     rw [this] at h; cases h
def gokA0 (w : Wx) (i : Int) : Nat -> Bool
 | 0=>true
 | g + 1=>gokA0 w i g && pfB (swO w i g) (w.m g)
@[irreducible] def gokA (w : Wx) (i : Int) (g : Nat) : Bool:=gokA0 w i g
theorem gokA_0 (w : Wx) (i : Int) : gokA w i 0 = true:=by unfold gokA; rfl
theorem gokA_s (w : Wx) (i : Int) (g : Nat) : gokA w i (g + 1) = (gokA w i g && pfB (swO w i g) (w.m g)):=by unfold gokA; rfl
@[irreducible] def gokC (w : Wx) (i : Int) (g k : Nat) : Bool:=gokA w i g && pfB (swO w i g) k
theorem gokC_eq (w : Wx) (i : Int) (g k : Nat) : gokC w i g k = (gokA w i g && pfB (swO w i g) k):=by unfold gokC; rfl
@[irreducible] def swL (w : Wx) (g k : Nat) : Nat:=if k < g then w.m k else 0
@[irreducible] def swE (w : Wx) (i : Int) (g k j : Nat) : List AV:=if k < g then [.si .i64 (swO w i k j)] else []
def swS : Spec [.ptr wirCells,.int .i64]:=⟨fun ((_,_,w,_),(i : Int),_)=>WxOK (wxOf w) /\ -1048576 <= i /\ i <= 1048576,fun ((_,_,w,_),(i : Int),_)=>.tup [.slc (.sym (wxOf w).n) 1 (fun g=>[.slc (.sym ((wxOf w).m g)) 1 (fun k=>[.si .i64 (swO (wxOf w) i g k)])]),.si .i64 (swT (wxOf w) i (wxOf w).n),.sb (gokA (wxOf w) i (wxOf w).n)]⟩
def swI : DatL [.ptr wirCells,.int .i64] -> Anns:=fun ((_,_,w,_),(i : Int),_)=>[
 (2097152 + 2,[(7,1,7)],fun _ _=>⟨Unit,fun _=>⟨[],[]⟩,Unit,fun _=>(),fun _=>True,fun _=>0⟩),
 (3,[],fun fr hp=>⟨Nat,fun g=>⟨frI [.k 8,.s (.si .i64 (swT (wxOf w) i g)),.s (.sb (gokA (wxOf w) i g)),.t 6,.k 11,.s (.si .i64 (icast g)),.t 33] fr,setB hp 0 (.row 40 1 (.sym (wxOf w).n) (fun k=>[.slc (.sym (swL (wxOf w) g k)) 1 (swE (wxOf w) i g k)]))⟩,Nat × Wx,fun g=>(g,wxOf w),fun (g,w)=>g <= w.n,fun g=>nsub 17 g⟩),
 (7,[],fun fr hp=>⟨Nat,fun k=>⟨frI [.k 9,.s (.sb (gokC (wxOf w) i (nat (intOf (getL fr 10))) k)),.k 5,.t 1,.k 24,.s (.si .i64 (icast k)),.t 20] fr,hp⟩,Nat × Nat × Wx,fun k=>(k,nat (intOf (getL fr 10)),wxOf w),fun (k,g,w)=>k <= w.m g,fun k=>nsub 5 k⟩)]
noncomputable def HZ0 : Sums:=⟨(36,mkSum _ posS) :: HX8.one,HX8.two,HX8.lo,HX8.eqs,HX8.its,HX8.imm⟩
theorem HZ0_ok : SumsOK Tryz.prog HZ0:=(HX8_ok.cons Tryz.func36 (by kernel_rfl) (by kernel_rfl) ppos_ok)
set_option maxRecDepth 100000 in
set_option maxHeartbeats 2000000 in
theorem sw_ok : FnSpec Tryz.prog 37 _ swS:=by
 refine FnSpec.of HZ0_ok mixed (U:=0) (I:=swI) Tryz.func37 rfl (by kernel_rfl) rfl rfl (by decide +kernel) ?_
 rintro ⟨⟨p,s,w,⟨⟩⟩,(i : Int),⟨⟩⟩ hpre
 obtain ⟨w,rfl⟩:=wx_ex w
 obtain ⟨hW,i1,i2⟩ : WxOK w /\ -1048576 <= i /\ i <= 1048576:=by have : WxOK (wxOf (wxD w)) /\ -1048576 <= i /\ i <= 1048576:=hpre; rwa [wxOf_D] at this
 unfold FnSat
 conv=>arg 2; reduce
 simp [swS,shS,posS,ElEq,getB,goneB,aliveB,maxRow,and_assoc]
 have ea : ∀ g,(fun k=>w.a g k) = w.a g:=fun g=>rfl
 have er : ∀ g,(fun k=>w.r g k) = w.r g:=fun g=>rfl
 simp only [ea,er]
 have n16:=hW.n
 have hX : ∀ g k,shO (w.a g) (w.r g) (w.m g) i k = swO w i g k:=fun g k=>(swO_eq w i g k).symm
 have hV : ∀ g,shV (w.a g) (w.r g) (w.m g) i = swV w i g:=fun g=>(swV_eq w i g).symm
 simp only [hX,hV]
 have hL : ∀ g k,swL w g k = if k < g then w.m k else 0:=fun g k=>by unfold swL; rfl
 have hEy : ∀ g k,k < g -> swE w i g k = fun j=>[AV.si .i64 (swO w i k j)]:=fun g k h=>by funext j; unfold swE; rw [if_pos h]
 have hEn : ∀ g k,¬ k < g -> swE w i g k = fun _=>[]:=fun g k h=>by funext j; unfold swE; rw [if_neg h]
 simp only [hL]
 have hTb : ∀ g,g <= w.n -> -(g * 1099511627776) <= swT w i g /\ swT w i g <= g * 1099511627776:=fun g=>by
  induction g with
  | zero=>intro _; rw [swT_0]; omega
  | succ g ih =>
    intro h
    have ih:=ih (by omega)
    have K:=shOK (hW.s g (by omega)).1 (hW.s g (by omega)).2 i1 i2
    have k1:=K.lo
    have k2:=K.hi
    rw [hV] at k1 k2
    rw [swT_s]; omega
 refine ⟨by omega,⟨0,(swT_0 w i).symm,gokA_0 w i,rfl,fun j hj=>⟨by rw [if_neg (by omega)],by rw [hEn _ _ (by omega)]⟩,by omega⟩,fun g hg=>⟨fun hlt=>?_,fun hge=>⟨fun j hj=>⟨by rw [if_pos (by omega)],hEy _ _ (by omega)⟩,by rw [show g = w.n by omega]; exact ⟨rfl,rfl⟩⟩⟩⟩
 have hs:=hW.s g hlt
 have h4:=hs.1.n4
 refine ⟨hlt,hs.1,hs.2,i1,i2,⟨0,by rw [gokC_eq,pfB_0,Bool.and_true],rfl,by omega⟩,fun k hk=>⟨fun hkl=>⟨hkl,by omega,by omega,k + 1,by rw [gokC_eq,gokC_eq,pfB_s,isIn_eq,Bool.and_assoc],by omega,by omega,by omega⟩,fun hkg=>?_⟩⟩
 have K:=shOK hs.1 hs.2 i1 i2
 have k1:=K.lo
 have k2:=K.hi
 rw [hV] at k1 k2
 have hT:=hTb g hg
 refine ⟨hlt,by omega,by omega,by omega,by omega,g + 1,(swT_s w i g).symm,by rw [gokC_eq,gokA_s,show k = w.m g by omega],by omega,fun j hj=>?_,by omega,by omega⟩
 unfold updE
 by_cases e : j = g
 ·subst e; rw [if_pos rfl,if_pos (by omega),hEy _ _ (by omega)]; rfl
 ·rw [if_neg e]
  by_cases h : j < g
  ·show nrmL [AV.slc (LN.sym (if j < g then w.m j else 0)) 1 (swE w i g j)] = _
   rw [if_pos h,if_pos (by omega),hEy _ _ h,hEy _ _ (by omega)]; rfl
  ·show nrmL [AV.slc (LN.sym (if j < g then w.m j else 0)) 1 (swE w i g j)] = _
   rw [if_neg h,if_neg (by omega),hEn _ _ h,hEn _ _ (by omega)]; rfl
noncomputable def HZ1 : Sums:=⟨HZ0.one,HZ0.two,HZ0.lo,HZ0.eqs,HZ0.its,HZ0.imm ++ [38,46]⟩
theorem HZ1_ok : SumsOK Tryz.prog HZ1:=HZ0_ok.setImm _
@[irreducible] def wOf (p : Pk) (s : Sx) : Wx:=⟨p.len,p.sz,fun g=>sA (p.at g) (s.at g),fun g=>sR (p.at g) (s.at g)⟩
@[simp] theorem wOf_n (p : Pk) (s : Sx) : (wOf p s).n = p.len:=by unfold wOf Wx.n; rfl
@[simp] theorem wOf_m (p : Pk) (s : Sx) : (wOf p s).m = p.sz:=by unfold wOf Wx.m; rfl
@[simp] theorem wOf_a (p : Pk) (s : Sx) (g : Nat) : (wOf p s).a g = sA (p.at g) (s.at g):=by unfold wOf Wx.a; rfl
@[simp] theorem wOf_r (p : Pk) (s : Sx) (g : Nat) : (wOf p s).r g = sR (p.at g) (s.at g):=by unfold wOf Wx.r; rfl
@[simp] theorem wx_wir (p : Pk) (s : Sx) : wxOf (p.len,fun i=>((p.sz i,fun k=>(wA p s i k,wR p s i k,())),())) = wOf p s:=by
 unfold wxOf wOf wA wR; rfl
theorem SsOK.w {p : Pk} {s : Sx} (h : SsOK p s) : WxOK (wOf p s):=⟨by rw [wOf_n]; exact h.n.2,fun i hi=>by
 rw [wOf_n] at hi
 rw [wOf_m,wOf_a,wOf_r]
 exact ⟨h.src hi,(h.m i hi).1.1⟩⟩
def wrmS : Spec [.int .i64]:=⟨fun _=>True,fun ((x : Int),_)=>.sb (isIn 0 x 400000)⟩
set_option maxRecDepth 100000 in
theorem wrm_ok : FnSpec Tryz.prog 50 _ wrmS:=by
 refine FnSpec.of HZ1_ok mixed (U:=0) (I:=fun _=>[]) Tryz.func50 rfl (by kernel_rfl) rfl rfl (by decide +kernel) ?_
 rintro ⟨(x : Int),⟨⟩⟩ -
 unfold FnSat
 conv=>arg 2; reduce
 simp [wrmS,and_assoc]
noncomputable def HZ2 : Sums:=⟨(37,mkSum _ swS) :: (50,mkSum _ wrmS) :: HZ1.one,HZ1.two,HZ1.lo,HZ1.eqs,HZ1.its,HZ1.imm⟩
theorem HZ2_ok : SumsOK Tryz.prog HZ2:=((HZ1_ok.cons Tryz.func50 (by kernel_rfl) (by kernel_rfl) wrm_ok).cons Tryz.func37 (by kernel_rfl) (by kernel_rfl) sw_ok)
@[irreducible] def cuE (w : Wx) (i a : Int) : Int:=if (i < -1048576 \/ 1048576 < i) \/ a < 0 \/ 400000 < a then 3 else if gokA w i w.n = true then 0 else 4
theorem cuE_3 {w : Wx} {i a : Int} (h : (i < -1048576 \/ 1048576 < i) \/ a < 0 \/ 400000 < a) : cuE w i a = 3:=by unfold cuE; rw [if_pos h]
theorem cuE_4 {w : Wx} {i a : Int} (h : ¬ ((i < -1048576 \/ 1048576 < i) \/ a < 0 \/ 400000 < a)) (h' : gokA w i w.n = false) : cuE w i a = 4:=by unfold cuE; rw [if_neg h,h']; rfl
theorem cuE_0 {w : Wx} {i a : Int} (h : ¬ ((i < -1048576 \/ 1048576 < i) \/ a < 0 \/ 400000 < a)) (h' : gokA w i w.n = true) : cuE w i a = 0:=by unfold cuE; rw [if_neg h,if_pos h']
theorem cuE_iff {w : Wx} {i a : Int} : cuE w i a = 0 ↔ ((-1048576 <= i /\ i <= 1048576) /\ 0 <= a /\ a <= 400000) /\ gokA w i w.n = true:=by
 unfold cuE
 split
 ·constructor
  ·intro h; omega
  ·rintro ⟨h1,_⟩; omega
 ·split
  ·rename_i h; exact ⟨fun _=>⟨by omega,h⟩,fun _=>rfl⟩
  ·rename_i h; exact ⟨fun h=>by omega,fun h'=>absurd h'.2 h⟩
def curS : Spec [.ptr wirCells,inSh]:=⟨fun ((_,_,w,_),_)=>WxOK (wxOf w),fun ((_,_,w,_),((i : Int),(a : Int),_),_)=>.tup [.slc (.sym (okN (cuE (wxOf w) i a) (wxOf w).n)) 1 (fun g=>[.slc (.sym ((wxOf w).m g)) 1 (fun k=>[.si .i64 (swO (wxOf w) i g k)])]),.si .i64 (cuE (wxOf w) i a)]⟩
set_option maxRecDepth 100000 in
set_option maxHeartbeats 2000000 in
theorem cur_ok : FnSpec Tryz.prog 39 _ curS:=by
 refine FnSpec.of HZ2_ok mixed (U:=0) (I:=fun _=>[]) Tryz.func39 rfl (by kernel_rfl) rfl rfl (by decide +kernel) ?_
 rintro ⟨⟨p,s,w,⟨⟩⟩,⟨(i : Int),(a : Int),⟨⟩⟩,⟨⟩⟩ hpre
 obtain ⟨w,rfl⟩:=wx_ex w
 have hW : WxOK w:=by have : WxOK (wxOf (wxD w)):=hpre; rwa [wxOf_D] at this
 unfold FnSat
 conv=>arg 2; reduce
 simp [curS,swS,posS,wrmS,ElEq,getB,goneB,aliveB,and_assoc]
 refine ⟨fun h=>?_,fun i1 i2 a1 a2=>⟨hW,i1,i2,fun hf=>?_,fun ht=>?_⟩⟩
 ·have e:=cuE_3 (w:=w) (i:=i) (a:=a) (by omega)
  exact ⟨by rw [e,okN_e (by omega)],e.symm⟩
 ·have e:=cuE_4 (w:=w) (i:=i) (a:=a) (by omega) hf
  exact ⟨by rw [e,okN_e (by omega)],e.symm⟩
 ·have e:=cuE_0 (w:=w) (i:=i) (a:=a) (by omega) ht
  exact ⟨by rw [e,okN_0 rfl],e.symm⟩
noncomputable def HZ3 : Sums:=⟨(39,mkSum _ curS) :: HZ2.one,HZ2.two,HZ2.lo,HZ2.eqs,HZ2.its,HZ2.imm⟩
theorem HZ3_ok : SumsOK Tryz.prog HZ3:=(HZ2_ok.cons Tryz.func39 (by kernel_rfl) (by kernel_rfl) cur_ok)
noncomputable def HZe : Sums:=⟨(35,mkSum _ wirS) :: HZ3.one,HZ3.two,HZ3.lo,HZ3.eqs,HZ3.its,HZ3.imm⟩
theorem HZe_ok : SumsOK Tryz.prog HZe:=(HZ3_ok.cons Tryz.func35 (by kernel_rfl) (by kernel_rfl) wir_ok)
noncomputable def HZo : Sums:=⟨(35,mkSum _ wirP) :: HZ3.one,HZ3.two,HZ3.lo,HZ3.eqs,HZ3.its,HZ3.imm⟩
theorem HZo_ok : SumsOK Tryz.prog HZo:=(HZ3_ok.cons Tryz.func35 (by kernel_rfl) (by kernel_rfl) wirP_ok)
end
end Abs
end Go.Proofs.YtlacopdaibhkkaaGreat

namespace Go.Proofs.YtlacopdaibhkkaaGreat
namespace Abs
open Go Go.RowKit
noncomputable section
attribute [local irreducible] FnSat
def rcurS : Spec [celSh,staSh,.int .i64]:=⟨fun (c,_)=>CelMax (celOf c),fun (c,s,(i : Int),_)=>.si .i64 (aE (celOf c) (staOf s) (wiE i))⟩
set_option maxRecDepth 100000 in
set_option maxHeartbeats 2000000 in
theorem rcur_ok : FnSpec Tryz.prog 57 _ rcurS:=by
 refine FnSpec.of SRk_ok mixed (U:=0) (I:=fun _=>[]) Tryz.func57 rfl (by kernel_rfl) rfl rfl (by decide +kernel) ?_
 rintro ⟨c,s,(i : Int),⟨⟩⟩ hpre
 obtain ⟨c,rfl⟩:=cel_ex c
 obtain ⟨s,rfl⟩:=sta_ex s
 have hpre : CelMax c:=by have : CelMax (celOf (celD c)):=hpre; rwa [celOf_D] at this
 unfold FnSat
 conv=>arg 2; reduce
 simp [rcurS,cstS,betS,and_assoc]
 refine ⟨hpre,fun h=>⟨hpre,(aE_no h).symm⟩,fun h=>⟨fun h'=>?_,fun i1 i2=>?_⟩⟩
 ·rw [aE_yes h]
  unfold wiE
  rw [if_neg (by rw [curI_iff]; omega)]
 ·rw [aE_yes h]
  unfold wiE
  rw [if_pos (curI_iff.2 ⟨i1,i2⟩)]
noncomputable def SEv1 : Sums:=⟨(57,mkSum _ rcurS) :: SRk.one,SRk.two,SRk.lo,SRk.eqs,SRk.its,SRk.imm⟩
theorem SEv1_ok : SumsOK Tryz.prog SEv1:=(SRk_ok.cons Tryz.func57 (by kernel_rfl) (by kernel_rfl) rcur_ok)
theorem aEw_0 {c : Cel} {s : Sta} {i : Int} (h : aE c s (wiE i) = 0) : csE c s = 0 /\ curI i = true:=by
 by_cases hc : csE c s = 0
 ·rw [aE_yes hc] at h
  refine ⟨hc,?_⟩
  cases hi : curI i with
  | true=>rfl
  | false=>unfold wiE at h; rw [hi] at h; simp at h
 ·rw [aE_no hc] at h; exact absurd h hc
theorem aEw_no {c : Cel} {s : Sta} {i x : Int} (h : ¬aE c s (wiE i) = 0) : aV c s (wiV i x) = 0:=by
 by_cases hc : csE c s = 0
 ·rw [aV_yes hc]
  rw [aE_yes hc] at h
  unfold wiE at h
  unfold wiV
  split at h
  ·exact absurd rfl h
  ·rename_i h'; rw [if_neg h']
 ·exact aV_no hc
set_option maxRecDepth 100000 in
set_option maxHeartbeats 2000000 in
theorem rvol_ok : FnSpec Tryz.prog 25 _ volS:=by
 refine FnSpec.of SEv1_ok mixed (U:=0) (I:=fun _=>[]) Tryz.func25 rfl (by kernel_rfl) rfl rfl (by decide +kernel) ?_
 rintro ⟨c,s,(i : Int),⟨⟩⟩ hpre
 obtain ⟨c,rfl⟩:=cel_ex c
 obtain ⟨s,rfl⟩:=sta_ex s
 have hpre : CelMax c:=by have : CelMax (celOf (celD c)):=hpre; rwa [celOf_D] at this
 unfold FnSat
 conv=>arg 2; reduce
 simp [volS,rcurS,rvoltS,and_assoc]
 refine ⟨hpre,fun h=>⟨hpre,(aEw_no h).symm⟩,fun h=>?_⟩
 obtain ⟨hc,hi⟩:=aEw_0 h
 have hi':=curI_iff.1 hi
 refine ⟨hc,hi'.1,hi'.2,?_,h.symm⟩
 rw [aV_yes hc]; unfold wiV; rw [if_pos hi]
set_option maxRecDepth 100000 in
set_option maxHeartbeats 2000000 in
theorem rcpt_ok : FnSpec Tryz.prog 26 _ capS:=by
 refine FnSpec.of SEv1_ok mixed (U:=0) (I:=fun _=>[]) Tryz.func26 rfl (by kernel_rfl) rfl rfl (by decide +kernel) ?_
 rintro ⟨c,s,⟨⟩⟩ hpre
 obtain ⟨c,rfl⟩:=cel_ex c
 obtain ⟨s,rfl⟩:=sta_ex s
 have hpre : CelMax c:=by have : CelMax (celOf (celD c)):=hpre; rwa [celOf_D] at this
 unfold FnSat
 conv=>arg 2; reduce
 simp [capS,cstS,rcapS,and_assoc]
 refine ⟨hpre,fun h=>⟨hpre,(aV_no h).symm,(aE_no h).symm⟩,fun h=>?_⟩
 obtain ⟨hc,hs⟩:=csE_iff.1 h
 have hk:=celB_iff.1 hc
 have:=hk.cap0
 have:=hk.cap1
 have:=hs.h0
 have:=hs.h1
 have:=hs.a0
 have:=hs.a1
 rw [aV_yes h,aE_yes h]
 refine ⟨⟨hk.cy0,hk.cy1,hk.al0,hk.al1,by omega,by omega,by omega,by omega⟩,by omega,by omega,?_,rfl⟩
 unfold kV wV; rfl
end
end Abs
end Go.Proofs.YtlacopdaibhkkaaGreat

namespace Go.Proofs.YtlacopdaibhkkaaGreat
namespace Abs
open Go Go.RowKit
noncomputable section
attribute [local irreducible] FnSat
noncomputable def HG0 : Sums:=⟨(40,mkSum _ stpT) :: HZo.one,HZo.two,HZo.lo,HZo.eqs,HZo.its,HZo.imm⟩
theorem HG0_ok : SumsOK Tryz.prog HG0:=(HZo_ok.cons Tryz.func40 (by kernel_rfl) (by kernel_rfl) stpT_ok)
noncomputable def HG0e : Sums:=⟨(40,mkSum _ stpT) :: HZe.one,HZe.two,HZe.lo,HZe.eqs,HZe.its,HZe.imm⟩
theorem HG0e_ok : SumsOK Tryz.prog HG0e:=(HZe_ok.cons Tryz.func40 (by kernel_rfl) (by kernel_rfl) stpT_ok)
@[irreducible] def ceE (p : Pk) (s : Sx) (i a : Int) (g k : Nat) : Int:=stAE (p.at g k) (s.at g k) (swO (wOf p s) i g k) a
theorem ceE_eq (p : Pk) (s : Sx) (i a : Int) (g k : Nat) : ceE p s i a g k = stAE (p.at g k) (s.at g k) (swO (wOf p s) i g k) a:=by unfold ceE; rfl
@[irreducible] def geE (p : Pk) (s : Sx) (i a : Int) (g : Nat) : Int:=ferE (ceE p s i a g) (p.sz g)
theorem geE_eq (p : Pk) (s : Sx) (i a : Int) (g : Nat) : geE p s i a g = ferE (ceE p s i a g) (p.sz g):=by unfold geE; rfl
@[irreducible] def stxE (p : Pk) (s : Sx) (i a : Int) : Int:=if ssE p s = 0 then (if cuE (wOf p s) i a = 0 then ferE (geE p s i a) p.len else cuE (wOf p s) i a) else ssE p s
theorem stxE_e {p : Pk} {s : Sx} {i a : Int} (h : ssE p s ≠ 0) : stxE p s i a = ssE p s:=by unfold stxE; rw [if_neg h]
theorem stxE_c {p : Pk} {s : Sx} {i a : Int} (h : ssE p s = 0) (h' : cuE (wOf p s) i a ≠ 0) : stxE p s i a = cuE (wOf p s) i a:=by unfold stxE; rw [if_pos h,if_neg h']
theorem stxE_n {p : Pk} {s : Sx} {i a : Int} (h : ssE p s = 0) (h' : cuE (wOf p s) i a = 0) : stxE p s i a = ferE (geE p s i a) p.len:=by unfold stxE; rw [if_pos h,if_pos h']
@[irreducible] def stxN (p : Pk) (s : Sx) (i a : Int) : Sx:=⟨p.len,p.sz,fun g k=>stA (p.at g k) (s.at g k) (swO (wOf p s) i g k) a⟩
@[simp] theorem stxN_len (p : Pk) (s : Sx) (i a : Int) : (stxN p s i a).len = p.len:=by unfold stxN Sx.len; rfl
@[simp] theorem stxN_sz (p : Pk) (s : Sx) (i a : Int) : (stxN p s i a).sz = p.sz:=by unfold stxN Sx.sz; rfl
theorem stxN_at (p : Pk) (s : Sx) (i a : Int) (g k : Nat) : (stxN p s i a).at g k = stA (p.at g k) (s.at g k) (swO (wOf p s) i g k) a:=by unfold stxN Sx.at; rfl
@[reducible] def stxR : DatL [pkSh,sxSh,inSh] -> AV:=fun (p,s,((i : Int),(a : Int),_),_)=>.tup [.slc (.sym (okN (stxE (pkOf p) (sxOf s) i a) (pkOf p).len)) 1 (fun g=>[.slc (.sym ((pkOf p).sz g)) 5 (fun k=>encL staCells (staD ((stxN (pkOf p) (sxOf s) i a).at g k)))]),.si .i64 (stxE (pkOf p) (sxOf s) i a)]
def stxS : Spec [pkSh,sxSh,inSh]:=⟨fun (p,_)=>PkMax (pkOf p),stxR⟩
def stxSe : Spec [pkSh,sxSh,inSh]:=⟨fun (p,s,_)=>PkMax (pkOf p) /\ ssE (pkOf p) (sxOf s) ≠ 0,stxR⟩
def stxSo : Spec [pkSh,sxSh,inSh]:=⟨fun (p,s,_)=>PkMax (pkOf p) /\ ssE (pkOf p) (sxOf s) = 0,stxR⟩
set_option maxRecDepth 100000 in
set_option maxHeartbeats 2000000 in
theorem stx_e : FnSpec Tryz.prog 16 _ stxSe:=by
 refine FnSpec.of HG0e_ok mixed (U:=0) (I:=fun _=>[]) Tryz.func16 rfl (by kernel_rfl) rfl rfl (by decide +kernel) ?_
 rintro ⟨p,s,⟨(i : Int),(a : Int),⟨⟩⟩,⟨⟩⟩ hpre
 obtain ⟨p,rfl⟩:=pk_ex p
 obtain ⟨s,rfl⟩:=sx_ex s
 have hpre : PkMax p /\ ssE p s ≠ 0:=by have : PkMax (pkOf (pkD p)) /\ ssE (pkOf (pkD p)) (sxOf (sxD s)) ≠ 0:=hpre; rwa [pkOf_D,sxOf_D] at this
 unfold FnSat
 conv=>arg 2; reduce
 simp [stxSe,wirS,ElEq,getB,goneB,aliveB,and_assoc]
 obtain ⟨hP,h0⟩:=hpre
 exact ⟨hP,h0,fun _=>⟨by rw [stxE_e h0,okN_e h0],(stxE_e h0).symm⟩,h0⟩
@[irreducible] def sxL (p : Pk) (g k : Nat) : Nat:=if k < g then p.sz k else 0
theorem sxL_lt {p : Pk} {g k : Nat} (h : k < g) : sxL p g k = p.sz k:=by unfold sxL; rw [if_pos h]
theorem sxL_ge {p : Pk} {g k : Nat} (h : g <= k) : sxL p g k = 0:=by unfold sxL; rw [if_neg (by omega)]
@[irreducible] def sxM (p : Pk) (g q k : Nat) : Nat:=if k = g then q else sxL p g k
theorem sxM_at {p : Pk} {g q : Nat} : sxM p g q g = q:=by unfold sxM; rw [if_pos rfl]
theorem sxM_ne {p : Pk} {g q k : Nat} (h : k ≠ g) : sxM p g q k = sxL p g k:=by unfold sxM; rw [if_neg h]
def stxI : DatL [pkSh,sxSh,inSh] -> Anns:=fun (p,s,((i : Int),(a : Int),_),_)=>[
 (2097152 + 8,[(11,58,21)],fun _ _=>⟨Unit,fun _=>⟨[],[]⟩,Unit,fun _=>(),fun _=>True,fun _=>0⟩),
 (2097152 + 17,[(11,12,1)],fun _ _=>⟨Unit,fun _=>⟨[],[]⟩,Unit,fun _=>(),fun _=>True,fun _=>0⟩),
 (2097152 + 18,[(11,0,2)],fun _ _=>⟨Unit,fun _=>⟨[],[]⟩,Unit,fun _=>(),fun _=>True,fun _=>0⟩),
 (2097152 + 20,[(11,0,4)],fun _ _=>⟨Unit,fun _=>⟨[],[]⟩,Unit,fun _=>(),fun _=>True,fun _=>0⟩),
 (4194304 + 17,[],fun _ _=>⟨Unit,fun _=>⟨[],[]⟩,Unit,fun _=>(),fun _=>True,fun _=>0⟩),
 (9,[],fun fr hp=>⟨Nat,fun g=>⟨frI [.k 12,.t 6,.k 24,.s (.si .i64 (icast g)),.t 49] fr,setB hp 0 (.rows 50 58 5 (.sym (sxOf s).len) (fun _=>false) (fun k=>sxL (pkOf p) g k) (fun q k=>encL staCells (staD ((stxN (pkOf p) (sxOf s) i a).at q k))) none)⟩,Nat × Pk × (Nat -> Int),fun g=>(g,pkOf p,geE (pkOf p) (sxOf s) i a),fun (g,p,e)=>g <= p.len /\ ∀ j,j < g -> ferB e j = false,fun g=>nsub 17 g⟩),
 (12,[],fun fr hp=>⟨Nat,fun k=>⟨frI [.k 14,.t 4,.k 31,.s (.si .i64 (icast k)),.t 42] fr,setB hp 0 (.rows 50 58 5 (.sym (sxOf s).len) (fun _=>false) (fun q=>sxM (pkOf p) (nat (intOf (getL fr 12))) k q) (fun q k=>encL staCells (staD ((stxN (pkOf p) (sxOf s) i a).at q k))) none)⟩,Nat × Nat × Pk × (Nat -> Int),fun k=>(k,nat (intOf (getL fr 12)),pkOf p,ceE (pkOf p) (sxOf s) i a (nat (intOf (getL fr 12)))),fun (k,g,p,e)=>k <= p.sz g /\ ∀ j,j < k -> ferB e j = false,fun k=>nsub 5 k⟩)]
set_option maxRecDepth 100000 in
set_option maxHeartbeats 2000000 in
theorem stx_o : FnSpec Tryz.prog 16 _ stxSo:=by
 refine FnSpec.of HG0_ok mixed (U:=0) (I:=stxI) Tryz.func16 rfl (by kernel_rfl) rfl rfl (by decide +kernel) ?_
 rintro ⟨p,s,⟨(i : Int),(a : Int),⟨⟩⟩,⟨⟩⟩ hpre
 obtain ⟨p,rfl⟩:=pk_ex p
 obtain ⟨s,rfl⟩:=sx_ex s
 have hpre : PkMax p /\ ssE p s = 0:=by have : PkMax (pkOf (pkD p)) /\ ssE (pkOf (pkD p)) (sxOf (sxD s)) = 0:=hpre; rwa [pkOf_D,sxOf_D] at this
 unfold FnSat
 conv=>arg 2; reduce
 simp [stxSo,wirP,wirX,wirL,curS,stpT,ElEq,RowsEq,getB,goneB,aliveB,maxRow,and_assoc]
 obtain ⟨hP,h0⟩:=hpre
 have S:=ssOK h0
 have n16:=S.n
 have hl:=S.l
 refine ⟨hP,h0,S.w,fun h=>?_,fun hc=>?_⟩
 ·exact ⟨by rw [stxE_c h0 h,okN_e h],(stxE_c h0 h).symm⟩
 have hE:=stxE_n (i:=i) (a:=a) h0 hc
 refine ⟨by omega,by omega,⟨0,rfl,fun k hk=>⟨by rw [sxL_ge (by omega)],fun j=>by rw [sxL_ge (by omega)]; omega⟩,by omega,fun j hj=>by omega⟩,fun g hg hall=>⟨fun hlt=>?_,fun hge=>?_⟩⟩
 ·have hm:=S.m g hlt
  have hG:=geE_eq p s i a g
  refine ⟨hlt,⟨0,rfl,fun k hk=>?_,by omega,fun j hj=>by omega⟩,fun q hq hal2=>⟨fun hql=>?_,fun hqg=>?_⟩⟩
  ·by_cases e : k = g
   ·subst e; rw [sxM_at,sxL_ge (by omega)]
   ·rw [sxM_ne e]
  ·have hC:=ceE_eq p s i a g q
   rw [<- hC]
   refine ⟨hql,by omega,by omega,by rw [okN_0 hc]; omega,hql,hP g hlt q hql,fun hne=>?_,fun he=>?_⟩
   ·rw [ferE_at hql hal2 hne] at hG
    have : ferE (geE p s i a) p.len = geE p s i a g:=ferE_at hlt hall (by rw [hG]; exact hne)
    rw [this,hG] at hE
    exact ⟨by rw [hE,okN_e hne],hE.symm⟩
   ·rw [sxM_at]
    refine ⟨by omega,by omega,by omega,by omega,by omega,q + 1,by omega,fun k hk=>⟨?_,?_,fun j hj=>?_⟩,by omega,fun j hj=>?_,by omega⟩
    ·unfold updZ; split <;> rfl
    ·unfold updN
     by_cases e : k = g
     ·subst e; rw [if_pos rfl,sxM_at]
     ·rw [if_neg e]
      show sxM p g q k = _
      rw [sxM_ne e,sxM_ne e]
    ·unfold updR
     by_cases e : k = g
     ·subst e
      rw [sxM_at] at hj
      rw [if_pos rfl]
      refine app_one hj (fun _=>rfl) (fun e=>?_)
      subst e
      rw [stxN_at]; rfl
     ·rw [if_neg e]; rfl
    ·by_cases e : j = q
     ·subst e; exact ferB_f.2 he
     ·exact hal2 j (by omega)
  ·refine ⟨by omega,by omega,g + 1,by omega,fun k hk=>?_,by omega,fun j hj=>?_,by omega⟩
   ·by_cases e : k = g
    ·subst e; rw [sxM_at,sxL_lt (by omega)]; omega
    ·rw [sxM_ne e]
     by_cases h : k < g
     ·rw [sxL_lt h,sxL_lt (by omega)]
     ·rw [sxL_ge (by omega),sxL_ge (by omega)]
   ·by_cases e : j = g
    ·subst e
     rw [ferE_no fun k hk=>hal2 k (by omega)] at hG
     exact ferB_f.2 hG
    ·exact hall j (by omega)
 ·rw [ferE_no fun j hj=>hall j (by omega)] at hE
  rw [hE,okN_0 rfl]
  exact ⟨hl,fun j hj=>⟨sxL_lt (by omega),rfl⟩,rfl⟩
theorem stx_ok : FnSpec Tryz.prog 16 _ stxS:=fun x hx=>by
 by_cases h : ssE (pkOf x.1) (sxOf x.2.1) = 0
 ·exact stx_o x ⟨hx,h⟩
 ·exact stx_e x ⟨hx,h⟩
noncomputable def HG1 : Sums:=⟨(16,mkSum _ stxS) :: HZ3.one,HZ3.two,HZ3.lo,HZ3.eqs,HZ3.its,HZ3.imm⟩
theorem HG1_ok : SumsOK Tryz.prog HG1:=(HZ3_ok.cons Tryz.func16 (by kernel_rfl) (by kernel_rfl) stx_ok)
noncomputable def HG2 : Sums:=⟨(45,mkSum _ rftS) :: (44,mkSum _ rspS) :: HG1.one,HG1.two,HG1.lo,HG1.eqs,HG1.its,HG1.imm⟩
theorem HG2_ok : SumsOK Tryz.prog HG2:=((HG1_ok.cons Tryz.func44 (by kernel_rfl) (by kernel_rfl) rsp_ok).cons Tryz.func45 (by kernel_rfl) (by kernel_rfl) rft_ok)
def rsxS : Spec [pkSh,sxSh,.int .i64]:=⟨fun (p,s,(i : Int),_)=>ssE (pkOf p) (sxOf s) = 0 /\ -1048576 <= i /\ i <= 1048576,fun (p,s,(i : Int),_)=>.tup [.slc (.sym (pkOf p).len) 1 (fun g=>[.slc (.sym ((pkOf p).sz g)) 1 (fun k=>[.si .i64 (swO (wOf (pkOf p) (sxOf s)) i g k)])]),.si .i64 (swT (wOf (pkOf p) (sxOf s)) i (pkOf p).len),.sb (gokA (wOf (pkOf p) (sxOf s)) i (pkOf p).len)]⟩
def rsxI : DatL [pkSh,sxSh,.int .i64] -> Anns:=fun (p,s,(i : Int),_)=>[
 (5,[(9,40,1)],fun fr hp=>⟨Nat,fun g=>⟨frI [.k 10,.s (.si .i64 (swT (wOf (pkOf p) (sxOf s)) i g)),.s (.sb (gokA (wOf (pkOf p) (sxOf s)) i g)),.s (.si .i64 (icast g)),.t 37] fr,setB hp 0 (.row 40 1 (.sym g) (fun g=>[.slc (.sym ((pkOf p).sz g)) 1 (fun k=>[.si .i64 (swO (wOf (pkOf p) (sxOf s)) i g k)])]))⟩,Nat × Pk,fun g=>(g,pkOf p),fun (g,p)=>g <= p.len,fun g=>nsub 17 g⟩)]
set_option maxRecDepth 100000 in
set_option maxHeartbeats 2000000 in
theorem rsx_ok : FnSpec Tryz.prog 38 _ rsxS:=by
 refine FnSpec.of HG2_ok mixed (U:=0) (I:=rsxI) Tryz.func38 rfl (by kernel_rfl) rfl rfl (by decide +kernel) ?_
 rintro ⟨p,s,(i : Int),⟨⟩⟩ hpre
 obtain ⟨p,rfl⟩:=pk_ex p
 obtain ⟨s,rfl⟩:=sx_ex s
 have hpre : ssE p s = 0 /\ -1048576 <= i /\ i <= 1048576:=by have : ssE (pkOf (pkD p)) (sxOf (sxD s)) = 0 /\ -1048576 <= i /\ i <= 1048576:=hpre; rwa [pkOf_D,sxOf_D] at this
 unfold FnSat
 conv=>arg 2; reduce
 simp [rsxS,rspS,rftS,GrpOK,ElEq,getB,goneB,aliveB,maxRow,and_assoc]
 obtain ⟨h0,i1,i2⟩:=hpre
 have S:=ssOK h0
 have n16:=S.n
 have hl:=S.l
 have hW:=S.w
 have eC : ∀ g,(fun k=>p.at g k) = p.at g:=fun g=>rfl
 have eS : ∀ g,(fun k=>s.at g k) = s.at g:=fun g=>rfl
 simp only [eC,eS]
 have hX : ∀ g k,shO (sA (p.at g) (s.at g)) (sR (p.at g) (s.at g)) (p.sz g) i k = swO (wOf p s) i g k:=fun g k=>by rw [swO_eq,wOf_a,wOf_r,wOf_m]
 have hV : ∀ g,shV (sA (p.at g) (s.at g)) (sR (p.at g) (s.at g)) (p.sz g) i = swV (wOf p s) i g:=fun g=>by rw [swV_eq,wOf_a,wOf_r,wOf_m]
 simp only [hX,hV]
 have hTb : ∀ g,g <= p.len -> -(g * 1099511627776) <= swT (wOf p s) i g /\ swT (wOf p s) i g <= g * 1099511627776:=fun g=>by
  induction g with
  | zero=>intro _; rw [swT_0]; omega
  | succ g ih =>
    intro h
    have ih:=ih (by omega)
    have K:=shOK (S.src (i:=g) (by omega)) (S.m g (by omega)).1.1 i1 i2
    have k1:=K.lo
    have k2:=K.hi
    rw [hV] at k1 k2
    rw [swT_s]; omega
 refine ⟨⟨0,(swT_0 _ i).symm,gokA_0 _ i,rfl,rfl,fun j=>by omega,by omega⟩,fun g hg=>⟨fun hlt=>?_,fun hge=>?_⟩⟩
 ·have hm:=S.m g (by omega)
  have K:=shOK (S.src (i:=g) (by omega)) hm.1.1 i1 i2
  have k1:=K.lo
  have k2:=K.hi
  rw [hV] at k1 k2
  have hT:=hTb g hg
  refine ⟨by omega,hlt,hm.2.symm,hm.1.2,fun k hk=>csE_iff.2 (S.c g (by omega) k hk),hm.1.1,i1,i2,by omega,by omega,by omega,fun _=>by unfold maxLen; omega,by omega,by omega,g + 1,(swT_s _ i g).symm,?_,by omega,rfl,fun j hj=>app_one hj (fun _=>rfl) (fun e=>by subst e; rfl),by omega,by omega⟩
  rw [gokA_s,fitL_pf,wOf_m]
 ·obtain rfl : g = p.len:=by omega
  exact ⟨rfl,rfl,rfl⟩
noncomputable def HG3 : Sums:=⟨(38,mkSum _ rsxS) :: HG2.one,HG2.two,HG2.lo,HG2.eqs,HG2.its,HG2.imm⟩
theorem HG3_ok : SumsOK Tryz.prog HG3:=(HG2_ok.cons Tryz.func38 (by kernel_rfl) (by kernel_rfl) rsx_ok)
@[irreducible] def inpE (p : Pk) (s : Sx) (i a : Int) : Int:=if ssE p s = 0 then cuE (wOf p s) i a else ssE p s
theorem inpE_e {p : Pk} {s : Sx} {i a : Int} (h : ssE p s ≠ 0) : inpE p s i a = ssE p s:=by unfold inpE; rw [if_neg h]
theorem inpE_n {p : Pk} {s : Sx} {i a : Int} (h : ssE p s = 0) : inpE p s i a = cuE (wOf p s) i a:=by unfold inpE; rw [if_pos h]
def inpS : Spec [pkSh,sxSh,inSh]:=⟨fun (p,_)=>PkMax (pkOf p),fun (p,s,((i : Int),(a : Int),_),_)=>.si .i64 (inpE (pkOf p) (sxOf s) i a)⟩
set_option maxRecDepth 100000 in
set_option maxHeartbeats 2000000 in
theorem rinp_ok : FnSpec Tryz.prog 41 _ inpS:=by
 refine FnSpec.of HG3_ok mixed (U:=0) (I:=fun _=>[]) Tryz.func41 rfl (by kernel_rfl) rfl rfl (by decide +kernel) ?_
 rintro ⟨p,s,⟨(i : Int),(a : Int),⟨⟩⟩,⟨⟩⟩ hpre
 obtain ⟨p,rfl⟩:=pk_ex p
 obtain ⟨s,rfl⟩:=sx_ex s
 have hpre : PkMax p:=by have : PkMax (pkOf (pkD p)):=hpre; rwa [pkOf_D] at this
 unfold FnSat
 conv=>arg 2; reduce
 simp [inpS,scsS,rsxS,ElEq,getB,goneB,aliveB,and_assoc]
 have hP:=hpre
 refine ⟨hP,fun h=>⟨hP,(inpE_e h).symm⟩,fun h0=>?_⟩
 rw [inpE_n h0]
 exact ⟨fun h=>(cuE_3 (by omega)).symm,fun i1 i2 a1 a2=>⟨h0,i1,i2,fun hf=>(cuE_4 (by omega) (by rw [wOf_n]; exact hf)).symm,fun ht=>(cuE_0 (by omega) (by rw [wOf_n]; exact ht)).symm⟩⟩
noncomputable def HG4 : Sums:=⟨(41,mkSum _ inpS) :: HG3.one,HG3.two,HG3.lo,HG3.eqs,HG3.its,HG3.imm⟩
theorem HG4_ok : SumsOK Tryz.prog HG4:=(HG3_ok.cons Tryz.func41 (by kernel_rfl) (by kernel_rfl) rinp_ok)
noncomputable def HG5 : Sums:=⟨HG4.one,HG4.two,HG4.lo,HG4.eqs,HG4.its,HG4.imm⟩
theorem HG5_ok : SumsOK Tryz.prog HG5:=HG4_ok
end
end Abs
end Go.Proofs.YtlacopdaibhkkaaGreat

namespace Go.Proofs.YtlacopdaibhkkaaGreat
namespace Abs
open Go Go.RowKit
noncomputable section
attribute [local irreducible] FnSat
noncomputable def HH0 : Sums:=⟨(18,mkSum _ splS) :: HG5.one,HG5.two,HG5.lo,HG5.eqs,HG5.its,HG5.imm⟩
theorem HH0_ok : SumsOK Tryz.prog HH0:=(HG5_ok.cons Tryz.func18 (by kernel_rfl) (by kernel_rfl) spl_ok)
noncomputable def HH1 : Sums:=⟨HH0.one,HH0.two,HH0.lo,eqs0,HH0.its,HH0.imm⟩
theorem HH1_ok : SumsOK Tryz.prog HH1:=HH0_ok.setEqs eqs0_ok
noncomputable def HH2 : Sums:=⟨(5,mkSum _ grS) :: HH1.one,HH1.two,HH1.lo,HH1.eqs,HH1.its,HH1.imm⟩
theorem HH2_ok : SumsOK Tryz.prog HH2:=(HH1_ok.cons Tryz.func5 (by kernel_rfl) (by kernel_rfl) gr_ok)
end
end Abs
end Go.Proofs.YtlacopdaibhkkaaGreat

namespace Go.Proofs.YtlacopdaibhkkaaGreat
namespace Abs
open Go Go.RowKit
noncomputable section
attribute [local irreducible] FnSat
@[reducible] def outCap : List Sh:=[.ptr limCells,.ptr staCells,.ptr [.int .i64]]
def outS1 : Spec [vwSh,.int .i64,.ptr limCells,.ptr staCells,.ptr [.int .i64]]:=⟨fun (v,(i : Int),_,s,((a : Int),_),_)=>VwOK v /\ staOf s = vwS v /\ 0 <= i /\ i <= 1048576 /\ 0 <= a /\ a <= 400000,
 fun (v,(i : Int),((l : Int),(_ : Int),(_ : Int),(_ : Int),(h : Int),_),_,((a : Int),_),_)=>.sb (outP (vwC v) (vwS v) l h a i)⟩
set_option maxRecDepth 100000 in
set_option maxHeartbeats 2000000 in
theorem out_ok1 : FnSpec Tryz.prog 120 _ outS1:=by
 refine FnSpec.of SMa_ok mixed (U:=0) (I:=fun _=>[]) Tryz.func120 rfl (by kernel_rfl) rfl rfl (by decide +kernel) ?_
 rintro ⟨v,(i : Int),⟨(l : Int),(m : Int),(o : Int),(k : Int),(h : Int),⟨⟩⟩,s',⟨(a : Int),⟨⟩⟩,⟨⟩⟩ ⟨hv,hs',(i1 : 0 <= i),(i2 : i <= 1048576),(a1 : 0 <= a),(a2 : a <= 400000)⟩
 obtain ⟨c,s,rfl,h1,h2⟩:=vw_ex (show VwOK v from hv)
 obtain ⟨s',rfl⟩:=sta_ex s'
 have e1:=vwC_D c s
 have e2:=vwS_D c s
 obtain rfl : s' = s:=by rw [e2] at hs'; exact (staOf_D s').symm.trans hs'
 unfold FnSat
 conv=>arg 2; reduce
 simp [outS1,vvoltS,vnextS,e1,e2,and_assoc]
 have hk:=celB_iff.1 h1
 have:=hk.lk0
 have:=hk.lk1
 exact ⟨vw_ok h1 h2,by omega,i2,fun _=>by omega,fun _ _=>⟨vw_ok h1 h2,by omega,i2,a1,a2⟩,by unfold outP; rfl⟩
def inS1 : Spec [vwSh,.int .i64,.ptr [.int .i64],.ptr limCells,.ptr staCells]:=⟨fun (v,(i : Int),((a : Int),_),_,s,_)=>VwOK v /\ staOf s = vwS v /\ 0 <= i /\ i <= 1048576 /\ 0 <= a /\ a <= 400000,
 fun (v,(i : Int),((a : Int),_),((_ : Int),(m : Int),(_ : Int),(_ : Int),(h : Int),_),_)=>.sb (inP (vwC v) (vwS v) m h a i)⟩
set_option maxRecDepth 100000 in
set_option maxHeartbeats 2000000 in
theorem in_ok1 : FnSpec Tryz.prog 122 _ inS1:=by
 refine FnSpec.of SMa_ok mixed (U:=0) (I:=fun _=>[]) Tryz.func122 rfl (by kernel_rfl) rfl rfl (by decide +kernel) ?_
 rintro ⟨v,(i : Int),⟨(a : Int),⟨⟩⟩,⟨(l : Int),(m : Int),(o : Int),(k : Int),(h : Int),⟨⟩⟩,s',⟨⟩⟩ ⟨hv,hs',(i1 : 0 <= i),(i2 : i <= 1048576),(a1 : 0 <= a),(a2 : a <= 400000)⟩
 obtain ⟨c,s,rfl,h1,h2⟩:=vw_ex (show VwOK v from hv)
 obtain ⟨s',rfl⟩:=sta_ex s'
 have e1:=vwC_D c s
 have e2:=vwS_D c s
 obtain rfl : s' = s:=by rw [e2] at hs'; exact (staOf_D s').symm.trans hs'
 unfold FnSat
 conv=>arg 2; reduce
 simp [inS1,vvoltS,vnextS,wearS,roomS,e1,e2,and_assoc]
 have hk:=celB_iff.1 h1
 have:=hk.lk0
 have:=hk.lk1
 have q1:=q_in h2
 have k1:=kV_in h1 h2
 have vs:=sc_val hk.stress s'.tp
 have:=h2.h0
 have:=h2.h1
 have:=h2.a0
 have:=h2.a1
 have hH : nxH s' (-i) = s'.th + max (-i) (- -i):=by unfold nxH; rfl
 have hA : nxA c s' = s'.ag + valL c.stress s'.tp:=by unfold nxA; rfl
 have hw : WearOK c (nxH s' (-i)) (nxA c s'):=⟨hk.cy0,hk.cy1,hk.al0,hk.al1,by omega,by omega,by omega,by omega⟩
 have hw2:=wearV_in hw
 exact ⟨by omega,by omega,vw_ok h1 h2,by omega,by omega,a1,a2,hw,by have:=hk.cap0; omega,hk.cap1,by omega,by omega,by omega,by omega,vw_ok h1 h2,by omega,by omega,fun _ _=>by omega,fun _ _=>by omega,by unfold inP; rfl⟩
@[reducible] def inCap : List Sh:=[.ptr [.int .i64],.ptr limCells,.ptr staCells]
structure BsInv (p : Int -> Bool) (most lo hi : Int) : Prop where
 a : 0 <= lo
 b : lo <= hi
 c : hi <= most
 d : p lo = true
 e : ∀ i,hi < i -> i <= most -> p i = false
@[irreducible] def grV (p : Int -> Bool) (most : Int) : Int:=if p 0 = true then grI p most else 0
@[irreducible] def grE (p : Int -> Bool) : Int:=if p 0 = true then 0 else 17
@[irreducible] def mgE (lb : Bool) (a : Int) (p : Int -> Bool) : Int:=if lb = true then (if isIn 0 a 400000 = true then grE p else 3) else 2
@[irreducible] def mgV (lb : Bool) (a : Int) (p : Int -> Bool) (most : Int) : Int:=if lb = true then (if isIn 0 a 400000 = true then grV p most else 0) else 0
noncomputable def SMb : Sums:=⟨(122,mkSum _ inS1) :: (120,mkSum _ outS1) :: SMa.one,SMa.two,SMa.lo,SMa.eqs,SMa.its,SMa.imm⟩
theorem SMb_ok : SumsOK Tryz.prog SMb:=((SMa_ok.cons Tryz.func120 (by kernel_rfl) (by kernel_rfl) out_ok1).cons Tryz.func122 (by kernel_rfl) (by kernel_rfl) in_ok1)
def outs11 : Spec [.int .i64,.ptr [.fn 120 [] outCap],.ptr vwCells]:=⟨fun ((i : Int),((_,((l : Int),(_ : Int),(_ : Int),(_ : Int),(h : Int),_),s,((a : Int),_),_),_),v,_)=>VwOK v /\ staOf s = vwS v /\ 0 <= i /\ i <= 1048576 /\ 0 <= a /\ a <= 400000,fun ((i : Int),((_,((l : Int),(_ : Int),(_ : Int),(_ : Int),(h : Int),_),s,((a : Int),_),_),_),v,_)=>.sb (outP (vwC v) (vwS v) l h a i)⟩
set_option maxRecDepth 100000 in
set_option maxHeartbeats 2000000 in
theorem outs11_ok : FnSpec Tryz.prog 140 _ outs11:=by
 refine FnSpec.of SMb_ok mixed (U:=0) (I:=fun _=>[]) Tryz.func140 rfl (by kernel_rfl) rfl rfl (by decide +kernel) ?_
 rintro ⟨(i : Int),⟨⟨y,⟨(l : Int),(m : Int),(o : Int),(k : Int),(h : Int),⟨⟩⟩,s',⟨(a : Int),⟨⟩⟩,⟨⟩⟩,⟨⟩⟩,v,⟨⟩⟩ ⟨hv,hs',(i1 : 0 <= i),(i2 : i <= 1048576),(a1 : 0 <= a),(a2 : a <= 400000)⟩
 obtain ⟨c,s,rfl,h1,h2⟩:=vw_ex (show VwOK v from hv)
 obtain ⟨s',rfl⟩:=sta_ex s'
 have e1:=vwC_D c s
 have e2:=vwS_D c s
 obtain rfl : s' = s:=by rw [e2] at hs'; exact (staOf_D s').symm.trans hs'
 unfold FnSat
 conv=>arg 2; reduce
 simp [outs11,outS1,e1,e2,and_assoc]
 exact ⟨vw_ok h1 h2,i1,i2,a1,a2⟩
def ins11 : Spec [.int .i64,.ptr [.fn 122 [] inCap],.ptr vwCells]:=⟨fun ((i : Int),((_,((a : Int),_),((_ : Int),(l : Int),(_ : Int),(_ : Int),(h : Int),_),s,_),_),v,_)=>VwOK v /\ staOf s = vwS v /\ 0 <= i /\ i <= 1048576 /\ 0 <= a /\ a <= 400000,fun ((i : Int),((_,((a : Int),_),((_ : Int),(l : Int),(_ : Int),(_ : Int),(h : Int),_),s,_),_),v,_)=>.sb (inP (vwC v) (vwS v) l h a i)⟩
set_option maxRecDepth 100000 in
set_option maxHeartbeats 2000000 in
theorem ins11_ok : FnSpec Tryz.prog 140 _ ins11:=by
 refine FnSpec.of SMb_ok mixed (U:=0) (I:=fun _=>[]) Tryz.func140 rfl (by kernel_rfl) rfl rfl (by decide +kernel) ?_
 rintro ⟨(i : Int),⟨⟨y,⟨(a : Int),⟨⟩⟩,⟨(m : Int),(l : Int),(o : Int),(k : Int),(h : Int),⟨⟩⟩,s',⟨⟩⟩,⟨⟩⟩,v,⟨⟩⟩ ⟨hv,hs',(i1 : 0 <= i),(i2 : i <= 1048576),(a1 : 0 <= a),(a2 : a <= 400000)⟩
 obtain ⟨c,s,rfl,h1,h2⟩:=vw_ex (show VwOK v from hv)
 obtain ⟨s',rfl⟩:=sta_ex s'
 have e1:=vwC_D c s
 have e2:=vwS_D c s
 obtain rfl : s' = s:=by rw [e2] at hs'; exact (staOf_D s').symm.trans hs'
 unfold FnSat
 conv=>arg 2; reduce
 simp [ins11,inS1,e1,e2,and_assoc]
 exact ⟨vw_ok h1 h2,i1,i2,a1,a2⟩
noncomputable def SMc : Sums:=⟨(140,(altSum (mkSum _ outs11) (mkSum _ ins11))) :: SMb.one,SMb.two,SMb.lo,SMb.eqs,SMb.its,SMb.imm⟩
theorem SMc_ok : SumsOK Tryz.prog SMc:=(SMb_ok.add Tryz.func140 (by kernel_rfl) (by kernel_rfl) (altSum_ok (mkSum_ok outs11_ok) (mkSum_ok ins11_ok)))
theorem bs_fin {p : Int -> Bool} {most lo hi : Int} (h : BsInv p most lo hi) (hm : Mono p most) (hh : hi <= lo) : lo = grV p most /\ 0 = grE p:=by
 have:=h.a
 have:=h.b
 have:=h.c
 have e:=grI_uniq hm h.a (by omega) h.d fun hl=>h.e (lo + 1) (by omega) (by omega)
 unfold grV grE
 rw [if_pos hm.p0,if_pos hm.p0,e]
 exact ⟨rfl,rfl⟩
theorem bs_up {p : Int -> Bool} {most lo hi m : Int} (h : BsInv p most lo hi) (h1 : lo < m) (h2 : m <= hi) (hp : p m = true) : BsInv p most m hi:=⟨by have:=h.a; omega,h2,h.c,hp,h.e⟩
theorem bs_dn {p : Int -> Bool} {most lo hi m : Int} (h : BsInv p most lo hi) (hm : Mono p most) (h1 : lo < m) (h2 : m <= hi) (hp : p m = false) : BsInv p most lo (m - 1) :=
 ⟨h.a,by omega,by have:=h.c; omega,h.d,fun i i1 i2=>by
  cases hi : p i with
  | false=>rfl
  | true =>
    have:=hm.dn m i (by have:=h.a; omega) (by omega) i2 hi
    rw [hp] at this; cases this⟩
theorem mid_b {lo hi : Int} (h0 : 0 <= lo) (h : lo < hi) : lo < (lo + hi + 1).tdiv 2 /\ (lo + hi + 1).tdiv 2 <= hi:=by
 rw [Int.tdiv_eq_ediv_of_nonneg (by omega)]; omega
theorem gr_no {p : Int -> Bool} {most : Int} (h : p 0 = false) : 0 = grV p most /\ 17 = grE p:=by
 unfold grV grE
 rw [h]; simp
def outgr : Spec [.int .i64,.fn 140 [] [.ptr [.fn 120 [] outCap],.ptr vwCells]]:=⟨fun ((most : Int),(_,((_,((l : Int),(_ : Int),(_ : Int),(_ : Int),(h : Int),_),s,((a : Int),_),_),_),v,_),_)=>VwOK v /\ staOf s = vwS v /\ 0 <= most /\ most <= 1048576 /\ 0 <= a /\ a <= 400000,
 fun ((most : Int),(_,((_,((l : Int),(_ : Int),(_ : Int),(_ : Int),(h : Int),_),s,((a : Int),_),_),_),v,_),_)=>.tup [.si .i64 (grV (outP (vwC v) (vwS v) l h a) most),.si .i64 (grE (outP (vwC v) (vwS v) l h a))]⟩
def outgrI : DatL [.int .i64,.fn 140 [] [.ptr [.fn 120 [] outCap],.ptr vwCells]] -> Anns:=fun ((most : Int),(_,((_,((l : Int),(_ : Int),(_ : Int),(_ : Int),(h : Int),_),s,((a : Int),_),_),_),v,_),_)=>[
 (4,[],fun fr hp=>⟨Int × Int,fun (lo,hi)=>⟨frI [.k 6,.s (.si .i64 lo),.s (.si .i64 hi),.t 1,.k 4,.t 14,.k 1] fr,hp⟩,(Int -> Bool) × Int × Int × Int,fun (lo,hi)=>(outP (vwC v) (vwS v) l h a,most,lo,hi),fun (p,most,lo,hi)=>BsInv p most lo hi,fun (lo,hi)=>nat (isub hi lo)⟩)]
set_option maxRecDepth 100000 in
set_option maxHeartbeats 2000000 in
theorem outgr_ok : FnSpec Tryz.prog 139 _ outgr:=by
 refine FnSpec.of SMc_ok mixed (U:=0) (I:=outgrI) Tryz.func139 rfl (by kernel_rfl) rfl rfl (by decide +kernel) ?_
 rintro ⟨(most : Int),⟨y,⟨⟨z,⟨(l : Int),(m : Int),(o : Int),(k : Int),(h : Int),⟨⟩⟩,s',⟨(a : Int),⟨⟩⟩,⟨⟩⟩,⟨⟩⟩,v,⟨⟩⟩,⟨⟩⟩ ⟨hv,hs',(m1 : 0 <= most),(m2 : most <= 1048576),(a1 : 0 <= a),(a2 : a <= 400000)⟩
 obtain ⟨c,s,rfl,h1,h2⟩:=vw_ex (show VwOK v from hv)
 obtain ⟨s',rfl⟩:=sta_ex s'
 have e1:=vwC_D c s
 have e2:=vwS_D c s
 obtain rfl : s' = s:=by rw [e2] at hs'; exact (staOf_D s').symm.trans hs'
 unfold FnSat
 conv=>arg 2; reduce
 simp [-Bool.forall_bool,outgr,outs11,e1,e2,and_assoc]
 refine ⟨vw_ok h1 h2,a1,a2,gr_no,fun hp=>?_⟩
 have hm:=out_mono (a:=a) h1 m1 hp
 refine ⟨⟨by omega,by omega,by omega,hp,fun i j1 j2=>by omega⟩,fun lo hi hb=>⟨fun hlt=>?_,fun hge=>bs_fin hb hm hge⟩⟩
 have q1:=hb.a
 have q2:=hb.c
 have md:=mid_b q1 hlt
 exact ⟨by omega,by omega,by omega,by omega,by omega,by omega,vw_ok h1 h2,by omega,by omega,a1,a2,fun hq=>⟨bs_up hb md.1 md.2 hq,by omega⟩,fun hq=>⟨by omega,by omega,bs_dn hb hm md.1 md.2 hq,by omega⟩⟩
def ingr : Spec [.int .i64,.fn 140 [] [.ptr [.fn 122 [] inCap],.ptr vwCells]]:=⟨fun ((most : Int),(_,((_,((a : Int),_),((_ : Int),(l : Int),(_ : Int),(_ : Int),(h : Int),_),s,_),_),v,_),_)=>VwOK v /\ staOf s = vwS v /\ 0 <= most /\ most <= 1048576 /\ 0 <= a /\ a <= 400000,
 fun ((most : Int),(_,((_,((a : Int),_),((_ : Int),(l : Int),(_ : Int),(_ : Int),(h : Int),_),s,_),_),v,_),_)=>.tup [.si .i64 (grV (inP (vwC v) (vwS v) l h a) most),.si .i64 (grE (inP (vwC v) (vwS v) l h a))]⟩
def ingrI : DatL [.int .i64,.fn 140 [] [.ptr [.fn 122 [] inCap],.ptr vwCells]] -> Anns:=fun ((most : Int),(_,((_,((a : Int),_),((_ : Int),(l : Int),(_ : Int),(_ : Int),(h : Int),_),s,_),_),v,_),_)=>[
 (4,[],fun fr hp=>⟨Int × Int,fun (lo,hi)=>⟨frI [.k 6,.s (.si .i64 lo),.s (.si .i64 hi),.t 1,.k 4,.t 14,.k 1] fr,hp⟩,(Int -> Bool) × Int × Int × Int,fun (lo,hi)=>(inP (vwC v) (vwS v) l h a,most,lo,hi),fun (p,most,lo,hi)=>BsInv p most lo hi,fun (lo,hi)=>nat (isub hi lo)⟩)]
set_option maxRecDepth 100000 in
set_option maxHeartbeats 2000000 in
theorem ingr_ok : FnSpec Tryz.prog 139 _ ingr:=by
 refine FnSpec.of SMc_ok mixed (U:=0) (I:=ingrI) Tryz.func139 rfl (by kernel_rfl) rfl rfl (by decide +kernel) ?_
 rintro ⟨(most : Int),⟨y,⟨⟨z,⟨(a : Int),⟨⟩⟩,⟨(m : Int),(l : Int),(o : Int),(k : Int),(h : Int),⟨⟩⟩,s',⟨⟩⟩,⟨⟩⟩,v,⟨⟩⟩,⟨⟩⟩ ⟨hv,hs',(m1 : 0 <= most),(m2 : most <= 1048576),(a1 : 0 <= a),(a2 : a <= 400000)⟩
 obtain ⟨c,s,rfl,h1,h2⟩:=vw_ex (show VwOK v from hv)
 obtain ⟨s',rfl⟩:=sta_ex s'
 have e1:=vwC_D c s
 have e2:=vwS_D c s
 obtain rfl : s' = s:=by rw [e2] at hs'; exact (staOf_D s').symm.trans hs'
 unfold FnSat
 conv=>arg 2; reduce
 simp [-Bool.forall_bool,ingr,ins11,e1,e2,and_assoc]
 refine ⟨vw_ok h1 h2,a1,a2,gr_no,fun hp=>?_⟩
 have hm:=in_mono (a:=a) h1 m1 hp
 refine ⟨⟨by omega,by omega,by omega,hp,fun i j1 j2=>by omega⟩,fun lo hi hb=>⟨fun hlt=>?_,fun hge=>bs_fin hb hm hge⟩⟩
 have q1:=hb.a
 have q2:=hb.c
 have md:=mid_b q1 hlt
 exact ⟨by omega,by omega,by omega,by omega,by omega,by omega,vw_ok h1 h2,by omega,by omega,a1,a2,fun hq=>⟨bs_up hb md.1 md.2 hq,by omega⟩,fun hq=>⟨by omega,by omega,bs_dn hb hm md.1 md.2 hq,by omega⟩⟩
noncomputable def SMd : Sums:=⟨(139,(altSum (mkSum _ outgr) (mkSum _ ingr))) :: SMc.one,SMc.two,SMc.lo,SMc.eqs,SMc.its,SMc.imm⟩
theorem SMd_ok : SumsOK Tryz.prog SMd:=(SMc_ok.add Tryz.func139 (by kernel_rfl) (by kernel_rfl) (altSum_ok (mkSum_ok outgr_ok) (mkSum_ok ingr_ok)))
theorem mg_no {lb : Bool} {a most : Int} {p : Int -> Bool} (h : lb = false) : 0 = mgV lb a p most /\ errA lb = mgE lb a p:=by
 unfold mgV mgE
 subst h
 simp [errA]
theorem mg_amb {lb : Bool} {a most : Int} {p : Int -> Bool} (h : lb = true) (ha : a < 0 \/ 400000 < a) : 0 = mgV lb a p most /\ 3 = mgE lb a p:=by
 have : isIn 0 a 400000 = false:=by
  cases hb : isIn 0 a 400000 with
  | false=>rfl
  | true=>simp at hb; omega
 unfold mgV mgE
 subst h
 rw [this]
 simp
theorem mg_yes {lb : Bool} {a most : Int} {p : Int -> Bool} (h : lb = true) (a1 : 0 <= a) (a2 : a <= 400000) : grV p most = mgV lb a p most /\ grE p = mgE lb a p:=by
 have : isIn 0 a 400000 = true:=by simp [a1,a2]
 unfold mgV mgE
 subst h
 rw [this]
 simp
def outse : Spec [vwSh,.ptr limCells,.ptr [.int .i64],.ptr [.int .i64],.ptr [.fn 120 [] outCap]]:=⟨fun (v,L,((a' : Int),_),((most : Int),_),((_,((l : Int),(m : Int),(o : Int),(k : Int),(h : Int),_),s,((a : Int),_),_),_),_)=>VwOK v /\ staOf s = vwS v /\ L = (l,m,o,k,h,()) /\ a' = a /\ most = o,
 fun (v,((l : Int),(m : Int),(o : Int),(k : Int),(h : Int),_),((a : Int),_),((most : Int),_),_,_)=>.tup [.si .i64 (mgV (limB l m o k h) a (outP (vwC v) (vwS v) l h a) most),.si .i64 (mgE (limB l m o k h) a (outP (vwC v) (vwS v) l h a))]⟩
set_option maxRecDepth 100000 in
set_option maxHeartbeats 2000000 in
theorem outse_ok : FnSpec Tryz.prog 137 _ outse:=by
 refine FnSpec.of SMd_ok mixed (U:=0) (I:=fun _=>[]) Tryz.func137 rfl (by kernel_rfl) rfl rfl (by decide +kernel) ?_
 rintro ⟨v,L,⟨(a' : Int),⟨⟩⟩,⟨(most : Int),⟨⟩⟩,⟨⟨z,⟨(l : Int),(m : Int),(o : Int),(k : Int),(h : Int),⟨⟩⟩,s',⟨(a : Int),⟨⟩⟩,⟨⟩⟩,⟨⟩⟩,⟨⟩⟩ ⟨hv,hs',hL,ha,hmost⟩
 obtain ⟨c,s,rfl,h1,h2⟩:=vw_ex (show VwOK v from hv)
 obtain ⟨s',rfl⟩:=sta_ex s'
 have e1:=vwC_D c s
 have e2:=vwS_D c s
 obtain rfl : s' = s:=by rw [e2] at hs'; exact (staOf_D s').symm.trans hs'
 obtain rfl : L = (l,m,o,k,h,()):=hL
 obtain rfl : a' = a:=ha
 obtain rfl : most = o:=hmost
 unfold FnSat
 conv=>arg 2; reduce
 simp [-Bool.forall_bool,outse,outgr,limS,betS,e1,e2,and_assoc]
 refine ⟨fun hb=>mg_no hb,fun hb=>⟨fun ha=>mg_amb hb ha,fun a1 a2=>?_⟩⟩
 have:=limB_iff.1 hb
 exact ⟨vw_ok h1 h2,by omega,by omega,a1,a2,(mg_yes hb a1 a2).1,(mg_yes (most:=0) hb a1 a2).2⟩
def inse : Spec [vwSh,.ptr limCells,.ptr [.int .i64],.ptr [.int .i64],.ptr [.fn 122 [] inCap]]:=⟨fun (v,L,((a' : Int),_),((most : Int),_),((_,((a : Int),_),((l : Int),(m : Int),(o : Int),(k : Int),(h : Int),_),s,_),_),_)=>VwOK v /\ staOf s = vwS v /\ L = (l,m,o,k,h,()) /\ a' = a /\ most = k,
 fun (v,((l : Int),(m : Int),(o : Int),(k : Int),(h : Int),_),((a : Int),_),((most : Int),_),_,_)=>.tup [.si .i64 (mgV (limB l m o k h) a (inP (vwC v) (vwS v) m h a) most),.si .i64 (mgE (limB l m o k h) a (inP (vwC v) (vwS v) m h a))]⟩
set_option maxRecDepth 100000 in
set_option maxHeartbeats 2000000 in
theorem inse_ok : FnSpec Tryz.prog 137 _ inse:=by
 refine FnSpec.of SMd_ok mixed (U:=0) (I:=fun _=>[]) Tryz.func137 rfl (by kernel_rfl) rfl rfl (by decide +kernel) ?_
 rintro ⟨v,L,⟨(a' : Int),⟨⟩⟩,⟨(most : Int),⟨⟩⟩,⟨⟨z,⟨(a : Int),⟨⟩⟩,⟨(l : Int),(m : Int),(o : Int),(k : Int),(h : Int),⟨⟩⟩,s',⟨⟩⟩,⟨⟩⟩,⟨⟩⟩ ⟨hv,hs',hL,ha,hmost⟩
 obtain ⟨c,s,rfl,h1,h2⟩:=vw_ex (show VwOK v from hv)
 obtain ⟨s',rfl⟩:=sta_ex s'
 have e1:=vwC_D c s
 have e2:=vwS_D c s
 obtain rfl : s' = s:=by rw [e2] at hs'; exact (staOf_D s').symm.trans hs'
 obtain rfl : L = (l,m,o,k,h,()):=hL
 obtain rfl : a' = a:=ha
 obtain rfl : most = k:=hmost
 unfold FnSat
 conv=>arg 2; reduce
 simp [-Bool.forall_bool,inse,ingr,limS,betS,e1,e2,and_assoc]
 refine ⟨fun hb=>mg_no hb,fun hb=>⟨fun ha=>mg_amb hb ha,fun a1 a2=>?_⟩⟩
 have:=limB_iff.1 hb
 exact ⟨vw_ok h1 h2,by omega,by omega,a1,a2,(mg_yes hb a1 a2).1,(mg_yes (most:=0) hb a1 a2).2⟩
noncomputable def SMe : Sums:=⟨(137,(altSum (mkSum _ outse) (mkSum _ inse))) :: SMd.one,SMd.two,SMd.lo,SMd.eqs,SMd.its,SMd.imm⟩
theorem SMe_ok : SumsOK Tryz.prog SMe:=(SMd_ok.add Tryz.func137 (by kernel_rfl) (by kernel_rfl) (altSum_ok (mkSum_ok outse_ok) (mkSum_ok inse_ok)))
end
end Abs
end Go.Proofs.YtlacopdaibhkkaaGreat
