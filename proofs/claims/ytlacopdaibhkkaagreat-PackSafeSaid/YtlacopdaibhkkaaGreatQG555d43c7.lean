/- A part of the proof: no statement of its own. -/
import Derived.Test.YtlacopdaibhkkaaGreatQG042fa9bd
set_option linter.unusedSimpArgs false
set_option linter.unusedVariables false
namespace Go.Proofs.YtlacopdaibhkkaaGreat
namespace Abs
open Go Go.RowKit
noncomputable section
attribute [local irreducible] FnSat
def outas : Spec [celSh,staSh,.fn 137 [] [.ptr limCells,.ptr [.int .i64],.ptr [.int .i64],.ptr [.fn 120 [] outCap]]]:=⟨fun (c,s0,(_,L,((a' : Int),_),((most : Int),_),((_,((l : Int),(m : Int),(o : Int),(k : Int),(h : Int),_),s,((a : Int),_),_),_),_),_)=>CelMax (celOf c) /\ staOf s = staOf s0 /\ L = (l,m,o,k,h,()) /\ a' = a /\ most = o,
 fun (c,s0,(_,((l : Int),(m : Int),(o : Int),(k : Int),(h : Int),_),((a : Int),_),((most : Int),_),_,_),_)=>.tup [.si .i64 (aV (celOf c) (staOf s0) (mgV (limB l m o k h) a (outP (celOf c) (staOf s0) l h a) most)),.si .i64 (aE (celOf c) (staOf s0) (mgE (limB l m o k h) a (outP (celOf c) (staOf s0) l h a)))]⟩
set_option maxRecDepth 100000 in
set_option maxHeartbeats 20000000 in
theorem outas_ok : FnSpec Tryz.prog 130 _ outas:=by
 refine FnSpec.of SMe_ok mixed (U:=0) (I:=fun _=>[]) Tryz.func130 rfl (by kernel_rfl) rfl rfl (by decide +kernel) ?_
 rintro ⟨c,s,⟨y,L,⟨(a' : Int),⟨⟩⟩,⟨(most : Int),⟨⟩⟩,⟨⟨z,⟨(l : Int),(m : Int),(o : Int),(k : Int),(h : Int),⟨⟩⟩,s',⟨(a : Int),⟨⟩⟩,⟨⟩⟩,⟨⟩⟩,⟨⟩⟩,⟨⟩⟩ ⟨hpre,hs',hL,ha,hmost⟩
 obtain ⟨c,rfl⟩:=cel_ex c
 obtain ⟨s,rfl⟩:=sta_ex s
 obtain ⟨s',rfl⟩:=sta_ex s'
 have hpre : CelMax c:=by have : CelMax (celOf (celD c)):=hpre; rwa [celOf_D] at this
 obtain rfl : s' = s:=by have : staOf (staD s') = staOf (staD s):=hs'; rwa [staOf_D,staOf_D] at this
 obtain rfl : L = (l,m,o,k,h,()):=hL
 obtain rfl : a' = a:=ha
 obtain rfl : most = o:=hmost
 have e1:=vwC_D c s'
 have e2:=vwS_D c s'
 unfold FnSat
 conv=>arg 2; reduce
 simp [-Bool.forall_bool,outas,cstS,lookF,outse,e1,e2,and_assoc]
 refine ⟨hpre,fun h=>⟨(aV_no h).symm,(aE_no h).symm⟩,fun h=>?_⟩
 have k:=csE_iff.1 h
 exact ⟨k.1,k.2,vw_ok k.1 k.2,(aV_yes h).symm,(aE_yes h).symm⟩
def inas : Spec [celSh,staSh,.fn 137 [] [.ptr limCells,.ptr [.int .i64],.ptr [.int .i64],.ptr [.fn 122 [] inCap]]]:=⟨fun (c,s0,(_,L,((a' : Int),_),((most : Int),_),((_,((a : Int),_),((l : Int),(m : Int),(o : Int),(k : Int),(h : Int),_),s,_),_),_),_)=>CelMax (celOf c) /\ staOf s = staOf s0 /\ L = (l,m,o,k,h,()) /\ a' = a /\ most = k,
 fun (c,s0,(_,((l : Int),(m : Int),(o : Int),(k : Int),(h : Int),_),((a : Int),_),((most : Int),_),_,_),_)=>.tup [.si .i64 (aV (celOf c) (staOf s0) (mgV (limB l m o k h) a (inP (celOf c) (staOf s0) m h a) most)),.si .i64 (aE (celOf c) (staOf s0) (mgE (limB l m o k h) a (inP (celOf c) (staOf s0) m h a)))]⟩
set_option maxRecDepth 100000 in
set_option maxHeartbeats 20000000 in
theorem inas_ok : FnSpec Tryz.prog 130 _ inas:=by
 refine FnSpec.of SMe_ok mixed (U:=0) (I:=fun _=>[]) Tryz.func130 rfl (by kernel_rfl) rfl rfl (by decide +kernel) ?_
 rintro ⟨c,s,⟨y,L,⟨(a' : Int),⟨⟩⟩,⟨(most : Int),⟨⟩⟩,⟨⟨z,⟨(a : Int),⟨⟩⟩,⟨(l : Int),(m : Int),(o : Int),(k : Int),(h : Int),⟨⟩⟩,s',⟨⟩⟩,⟨⟩⟩,⟨⟩⟩,⟨⟩⟩ ⟨hpre,hs',hL,ha,hmost⟩
 obtain ⟨c,rfl⟩:=cel_ex c
 obtain ⟨s,rfl⟩:=sta_ex s
 obtain ⟨s',rfl⟩:=sta_ex s'
 have hpre : CelMax c:=by have : CelMax (celOf (celD c)):=hpre; rwa [celOf_D] at this
 obtain rfl : s' = s:=by have : staOf (staD s') = staOf (staD s):=hs'; rwa [staOf_D,staOf_D] at this
 obtain rfl : L = (l,m,o,k,h,()):=hL
 obtain rfl : a' = a:=ha
 obtain rfl : most = k:=hmost
 have e1:=vwC_D c s'
 have e2:=vwS_D c s'
 unfold FnSat
 conv=>arg 2; reduce
 simp [-Bool.forall_bool,inas,cstS,lookF,inse,e1,e2,and_assoc]
 refine ⟨hpre,fun h=>⟨(aV_no h).symm,(aE_no h).symm⟩,fun h=>?_⟩
 have k:=csE_iff.1 h
 exact ⟨k.1,k.2,vw_ok k.1 k.2,(aV_yes h).symm,(aE_yes h).symm⟩
noncomputable def SMf : Sums:=⟨(130,(altSum (mkSum _ outas) (mkSum _ inas))) :: SMe.one,SMe.two,SMe.lo,SMe.eqs,SMe.its,SMe.imm⟩
theorem SMf_ok : SumsOK Tryz.prog SMf:=(SMe_ok.add Tryz.func130 (by kernel_rfl) (by kernel_rfl) (altSum_ok (mkSum_ok outas_ok) (mkSum_ok inas_ok)))
def outsr : Spec [celSh,staSh,limSh,.int .i64,.int .i64,.fn 120 [] outCap]:=⟨fun (c,s0,L,(a' : Int),(most : Int),(_,((l : Int),(m : Int),(o : Int),(k : Int),(h : Int),_),s,((a : Int),_),_),_)=>CelMax (celOf c) /\ staOf s = staOf s0 /\ L = (l,m,o,k,h,()) /\ a' = a /\ most = o,
 fun (c,s0,((l : Int),(m : Int),(o : Int),(k : Int),(h : Int),_),(a : Int),(most : Int),_,_)=>.tup [.si .i64 (aV (celOf c) (staOf s0) (mgV (limB l m o k h) a (outP (celOf c) (staOf s0) l h a) most)),.si .i64 (aE (celOf c) (staOf s0) (mgE (limB l m o k h) a (outP (celOf c) (staOf s0) l h a)))]⟩
set_option maxRecDepth 100000 in
set_option maxHeartbeats 2000000 in
theorem outsr_ok : FnSpec Tryz.prog 119 _ outsr:=by
 refine FnSpec.of SMf_ok mixed (U:=0) (I:=fun _=>[]) Tryz.func119 rfl (by kernel_rfl) rfl rfl (by decide +kernel) ?_
 rintro ⟨c,s,L,(a' : Int),(most : Int),⟨z,⟨(l : Int),(m : Int),(o : Int),(k : Int),(h : Int),⟨⟩⟩,s',⟨(a : Int),⟨⟩⟩,⟨⟩⟩,⟨⟩⟩ ⟨hpre,hs',hL,ha,hmost⟩
 obtain ⟨c,rfl⟩:=cel_ex c
 obtain ⟨s,rfl⟩:=sta_ex s
 obtain ⟨s',rfl⟩:=sta_ex s'
 have hpre : CelMax c:=by have : CelMax (celOf (celD c)):=hpre; rwa [celOf_D] at this
 obtain rfl : s' = s:=by have : staOf (staD s') = staOf (staD s):=hs'; rwa [staOf_D,staOf_D] at this
 obtain rfl : L = (l,m,o,k,h,()):=hL
 obtain rfl : a' = a:=ha
 obtain rfl : most = o:=hmost
 unfold FnSat
 conv=>arg 2; reduce
 simp [-Bool.forall_bool,outsr,outas,and_assoc]
 exact hpre
def insr : Spec [celSh,staSh,limSh,.int .i64,.int .i64,.fn 122 [] inCap]:=⟨fun (c,s0,L,(a' : Int),(most : Int),(_,((a : Int),_),((l : Int),(m : Int),(o : Int),(k : Int),(h : Int),_),s,_),_)=>CelMax (celOf c) /\ staOf s = staOf s0 /\ L = (l,m,o,k,h,()) /\ a' = a /\ most = k,
 fun (c,s0,((l : Int),(m : Int),(o : Int),(k : Int),(h : Int),_),(a : Int),(most : Int),_,_)=>.tup [.si .i64 (aV (celOf c) (staOf s0) (mgV (limB l m o k h) a (inP (celOf c) (staOf s0) m h a) most)),.si .i64 (aE (celOf c) (staOf s0) (mgE (limB l m o k h) a (inP (celOf c) (staOf s0) m h a)))]⟩
set_option maxRecDepth 100000 in
set_option maxHeartbeats 2000000 in
theorem insr_ok : FnSpec Tryz.prog 119 _ insr:=by
 refine FnSpec.of SMf_ok mixed (U:=0) (I:=fun _=>[]) Tryz.func119 rfl (by kernel_rfl) rfl rfl (by decide +kernel) ?_
 rintro ⟨c,s,L,(a' : Int),(most : Int),⟨z,⟨(a : Int),⟨⟩⟩,⟨(l : Int),(m : Int),(o : Int),(k : Int),(h : Int),⟨⟩⟩,s',⟨⟩⟩,⟨⟩⟩ ⟨hpre,hs',hL,ha,hmost⟩
 obtain ⟨c,rfl⟩:=cel_ex c
 obtain ⟨s,rfl⟩:=sta_ex s
 obtain ⟨s',rfl⟩:=sta_ex s'
 have hpre : CelMax c:=by have : CelMax (celOf (celD c)):=hpre; rwa [celOf_D] at this
 obtain rfl : s' = s:=by have : staOf (staD s') = staOf (staD s):=hs'; rwa [staOf_D,staOf_D] at this
 obtain rfl : L = (l,m,o,k,h,()):=hL
 obtain rfl : a' = a:=ha
 obtain rfl : most = k:=hmost
 unfold FnSat
 conv=>arg 2; reduce
 simp [-Bool.forall_bool,insr,inas,and_assoc]
 exact hpre
noncomputable def SMg : Sums:=⟨(119,(altSum (mkSum _ outsr) (mkSum _ insr))) :: SMf.one,SMf.two,SMf.lo,SMf.eqs,SMf.its,SMf.imm⟩
theorem SMg_ok : SumsOK Tryz.prog SMg:=(SMf_ok.add Tryz.func119 (by kernel_rfl) (by kernel_rfl) (altSum_ok (mkSum_ok outsr_ok) (mkSum_ok insr_ok)))
def outmo : Spec [celSh,staSh,limSh,.int .i64]:=⟨fun (c,_)=>CelMax (celOf c),
 fun (c,s0,((l : Int),(m : Int),(o : Int),(k : Int),(h : Int),_),(a : Int),_)=>.tup [.si .i64 (aV (celOf c) (staOf s0) (mgV (limB l m o k h) a (outP (celOf c) (staOf s0) l h a) o)),.si .i64 (aE (celOf c) (staOf s0) (mgE (limB l m o k h) a (outP (celOf c) (staOf s0) l h a)))]⟩
set_option maxRecDepth 100000 in
set_option maxHeartbeats 2000000 in
theorem outmo_ok : FnSpec Tryz.prog 87 _ outmo:=by
 refine FnSpec.of SMg_ok mixed (U:=0) (I:=fun _=>[]) Tryz.func87 rfl (by kernel_rfl) rfl rfl (by decide +kernel) ?_
 rintro ⟨c,s,⟨(l : Int),(m : Int),(o : Int),(k : Int),(h : Int),⟨⟩⟩,(a : Int),⟨⟩⟩ hpre
 obtain ⟨c,rfl⟩:=cel_ex c
 obtain ⟨s,rfl⟩:=sta_ex s
 have hpre : CelMax c:=by have : CelMax (celOf (celD c)):=hpre; rwa [celOf_D] at this
 unfold FnSat
 conv=>arg 2; reduce
 simp [-Bool.forall_bool,outmo,outsr,and_assoc]
 exact hpre
def inmo : Spec [celSh,staSh,limSh,.int .i64]:=⟨fun (c,_)=>CelMax (celOf c),
 fun (c,s0,((l : Int),(m : Int),(o : Int),(k : Int),(h : Int),_),(a : Int),_)=>.tup [.si .i64 (aV (celOf c) (staOf s0) (mgV (limB l m o k h) a (inP (celOf c) (staOf s0) m h a) k)),.si .i64 (aE (celOf c) (staOf s0) (mgE (limB l m o k h) a (inP (celOf c) (staOf s0) m h a)))]⟩
set_option maxRecDepth 100000 in
set_option maxHeartbeats 2000000 in
theorem inmo_ok : FnSpec Tryz.prog 88 _ inmo:=by
 refine FnSpec.of SMg_ok mixed (U:=0) (I:=fun _=>[]) Tryz.func88 rfl (by kernel_rfl) rfl rfl (by decide +kernel) ?_
 rintro ⟨c,s,⟨(l : Int),(m : Int),(o : Int),(k : Int),(h : Int),⟨⟩⟩,(a : Int),⟨⟩⟩ hpre
 obtain ⟨c,rfl⟩:=cel_ex c
 obtain ⟨s,rfl⟩:=sta_ex s
 have hpre : CelMax c:=by have : CelMax (celOf (celD c)):=hpre; rwa [celOf_D] at this
 unfold FnSat
 conv=>arg 2; reduce
 simp [-Bool.forall_bool,inmo,insr,and_assoc]
 exact hpre
end
end Abs
end Go.Proofs.YtlacopdaibhkkaaGreat

namespace Go.Proofs.YtlacopdaibhkkaaGreat
namespace Abs
open Go Go.RowKit
noncomputable section
attribute [local irreducible] FnSat
@[irreducible] def csfB (c : Cel) (s : Sta) (l m h a x : Int) : Bool:=if 0 <= x then outP c s l h a x else inP c s m h a (-x)
theorem csfB_p {c : Cel} {s : Sta} {l m h a x : Int} (hx : 0 <= x) : csfB c s l m h a x = outP c s l h a x:=by unfold csfB; rw [if_pos hx]
theorem csfB_n {c : Cel} {s : Sta} {l m h a x : Int} (hx : x < 0) : csfB c s l m h a x = inP c s m h a (-x):=by unfold csfB; rw [if_neg (by omega)]
@[irreducible] def bdH (c : Cel) (s : Sta) (l h a : Int) : Int:=if outP c s l h a 0 = true then grI (outP c s l h a) 1048576 else -1
@[irreducible] def bdL (c : Cel) (s : Sta) (l m h a : Int) : Int:=if inP c s m h a 0 = true /\ 0 < grI (inP c s m h a) 1048576 then -(grI (inP c s m h a) 1048576) else if outP c s l h a 0 = true then 0 else 1
theorem out_dn {c : Cel} {s : Sta} {l h a i j : Int} (hc : celB c = true) (i0 : 0 <= i) (ij : i <= j) (hj : outP c s l h a j = true) : outP c s l h a i = true:=by
 obtain ⟨h1,h2,h3⟩:=outP_iff.1 hj
 have v:=@voltV_mono c s i j ij
 have t:=nxT_heat (a:=a) hc (@heatV_mono c s i j i0 ij)
 exact outP_iff.2 ⟨by omega,by omega,by omega⟩
theorem in_dn {c : Cel} {s : Sta} {m h a i j : Int} (hc : celB c = true) (i0 : 0 <= i) (ij : i <= j) (hj : inP c s m h a j = true) : inP c s m h a i = true:=by
 obtain ⟨h1,h2,h3⟩:=inP_iff.1 hj
 have hk:=celB_iff.1 hc
 have v:=@voltV_mono c s (-j) (-i) (by omega)
 have t:=nxT_heat (c:=c) (s:=s) (i:=-i) (j:=-j) (a:=a) hc (by rw [heatV_neg,heatV_neg]; exact heatV_mono i0 ij)
 have hH : nxH s (-i) <= nxH s (-j):=by unfold nxH; omega
 have m1:=dvI_mono (d:=1073741824) (by decide) (Int.mul_le_mul_of_nonneg_right hH hk.cy0)
 have r : roomV c (wearV c (nxH s (-j)) (nxA c s)) <= roomV c (wearV c (nxH s (-i)) (nxA c s)):=by unfold roomV wearV; omega
 exact inP_iff.2 ⟨by omega,by omega,by omega⟩
theorem bdH_iff {c : Cel} {s : Sta} {l h a x : Int} (hc : celB c = true) (x1 : x <= 1048576) : x <= bdH c s l h a ↔ (0 <= x -> outP c s l h a x = true):=by
 by_cases h0 : outP c s l h a 0 = true
 ·have e : bdH c s l h a = grI (outP c s l h a) 1048576:=by unfold bdH; rw [if_pos h0]
  obtain ⟨g0,g1,g2,g3⟩:=grI_spec (out_mono (a:=a) hc (show (0 : Int) <= 1048576 by decide) h0)
  rw [e]
  constructor
  ·intro hx hx0
   exact out_dn hc hx0 hx g2
  ·intro hx
   apply Classical.byContradiction
   intro hn
   have:=g3 x (by omega) x1
   rw [hx (by omega)] at this; cases this
 ·have e : bdH c s l h a = -1:=by unfold bdH; rw [if_neg h0]
  rw [e]
  constructor
  ·intro hx hx0; omega
  ·intro hx
   apply Classical.byContradiction
   intro hn
   exact h0 (out_dn hc (Int.le_refl _) (by omega) (hx (by omega)))
theorem bd_iff {c : Cel} {s : Sta} {l m h a x : Int} (hc : celB c = true) (x0 : -1048576 <= x) (x1 : x <= 1048576) : (bdL c s l m h a <= x /\ x <= bdH c s l h a) ↔ csfB c s l m h a x = true:=by
 have hH:=bdH_iff (s:=s) (l:=l) (h:=h) (a:=a) hc x1
 by_cases hx : 0 <= x
 ·rw [csfB_p hx]
  constructor
  ·rintro ⟨_,h2⟩; exact hH.1 h2 hx
  ·intro ho
   refine ⟨?_,hH.2 fun _=>ho⟩
   have h0:=out_dn hc (Int.le_refl 0) hx ho
   have e : bdL c s l m h a <= 0:=by
    unfold bdL
    rw [if_pos h0]
    split <;> omega
   omega
 ·rw [csfB_n (by omega)]
  have hle : x <= bdH c s l h a:=hH.2 fun h=>absurd h hx
  by_cases h0 : inP c s m h a 0 = true
  ·obtain ⟨g0,g1,g2,g3⟩:=grI_spec (in_mono (a:=a) hc (show (0 : Int) <= 1048576 by decide) h0)
   constructor
   ·rintro ⟨h1,_⟩
    unfold bdL at h1
    split at h1
    ·exact in_dn hc (by omega) (by omega) g2
    ·split at h1 <;> omega
   ·intro hi
    refine ⟨?_,hle⟩
    have hxg : -x <= grI (inP c s m h a) 1048576:=by
     apply Classical.byContradiction
     intro hn
     have:=g3 (-x) (by omega) (by omega)
     rw [hi] at this; cases this
    unfold bdL
    rw [if_pos ⟨h0,by omega⟩]
    omega
  ·constructor
   ·rintro ⟨h1,_⟩
    unfold bdL at h1
    rw [if_neg (fun hh=>h0 hh.1)] at h1
    split at h1 <;> omega
   ·intro hi
    exact absurd (in_dn hc (Int.le_refl 0) (by omega) hi) h0
def vltS0 : Spec [.int .i64]:=⟨fun _=>True,fun ((x : Int),_)=>.sb (isIn (-8388608) x 8388608)⟩
set_option maxRecDepth 100000 in
theorem lm1_ok : FnSpec Tryz.prog 86 _ vltS0:=by
 refine FnSpec.of HH2_ok mixed (U:=0) (I:=fun _=>[]) Tryz.func86 rfl (by kernel_rfl) rfl rfl (by decide +kernel) ?_
 rintro ⟨(x : Int),⟨⟩⟩ -
 unfold FnSat
 conv=>arg 2; reduce
 simp [vltS0,and_assoc]
noncomputable def HI0 : Sums:=⟨(89,mkSum _ limS) :: (86,mkSum _ vltS0) :: HH2.one,HH2.two,HH2.lo,HH2.eqs,HH2.its,HH2.imm⟩
theorem HI0_ok : SumsOK Tryz.prog HI0:=((HH2_ok.cons Tryz.func86 (by kernel_rfl) (by kernel_rfl) lm1_ok).cons Tryz.func89 (by kernel_rfl) (by kernel_rfl) rlim_ok)
set_option maxRecDepth 100000 in
theorem plim_ok : FnSpec Tryz.prog 46 _ limS:=by
 refine FnSpec.of HI0_ok mixed (U:=0) (I:=fun _=>[]) Tryz.func46 rfl (by kernel_rfl) rfl rfl (by decide +kernel) ?_
 rintro ⟨⟨(l : Int),(m : Int),(o : Int),(i : Int),(h : Int),⟨⟩⟩,⟨⟩⟩ -
 unfold FnSat
 conv=>arg 2; reduce
 simp [limS,vltS0,wrmS,and_assoc]
 have no : (limB l m o i h = true -> False) -> 2 = errA (limB l m o i h):=fun hh=>by
  cases hb : limB l m o i h with
  | false=>simp [errA]
  | true=>exact (hh hb).elim
 refine ⟨fun hh=>no fun hb=>?_,fun q0 q1 q2 q3 q4 q5 q6 q7 q8 q9 q10=>?_⟩
 ·have:=limB_iff.1 hb; omega
 ·rw [limB_iff.2 ⟨⟨q0,q1⟩,⟨q2,q3⟩,q4,⟨q5,q6⟩,⟨q7,q8⟩,q9,q10⟩]; simp [errA]
set_option maxRecDepth 100000 in
theorem rbnd_ok : FnSpec Tryz.prog 48 _ limS:=by
 refine FnSpec.of HI0_ok mixed (U:=0) (I:=fun _=>[]) Tryz.func48 rfl (by kernel_rfl) rfl rfl (by decide +kernel) ?_
 rintro ⟨⟨(l : Int),(m : Int),(o : Int),(i : Int),(h : Int),⟨⟩⟩,⟨⟩⟩ -
 unfold FnSat
 conv=>arg 2; reduce
 simp [limS,and_assoc]
def csfS : Spec [celSh,staSh,limSh,.int .i64,.int .i64]:=⟨fun (c,s,_,(a : Int),(x : Int),_)=>csE (celOf c) (staOf s) = 0 /\ 0 <= a /\ a <= 400000 /\ -1048576 <= x /\ x <= 1048576,fun (c,s,((l : Int),(m : Int),(_ : Int),(_ : Int),(h : Int),_),(a : Int),(x : Int),_)=>.sb (csfB (celOf c) (staOf s) l m h a x)⟩
noncomputable def HI1 : Sums:=⟨(88,mkSum _ inmo) :: (87,mkSum _ outmo) :: (123,mkSum _ rinS) :: (91,mkSum _ routS) :: (46,mkSum _ limS) :: HI0.one,HI0.two,HI0.lo,HI0.eqs,HI0.its,HI0.imm⟩
theorem HI1_ok : SumsOK Tryz.prog HI1:=(((((HI0_ok.cons Tryz.func46 (by kernel_rfl) (by kernel_rfl) plim_ok).cons Tryz.func91 (by kernel_rfl) (by kernel_rfl) rout_ok).cons Tryz.func123 (by kernel_rfl) (by kernel_rfl) rin_ok).cons Tryz.func87 (by kernel_rfl) (by kernel_rfl) outmo_ok).cons Tryz.func88 (by kernel_rfl) (by kernel_rfl) inmo_ok)
set_option maxRecDepth 100000 in
set_option maxHeartbeats 2000000 in
theorem csf_ok : FnSpec Tryz.prog 90 _ csfS:=by
 refine FnSpec.of HI1_ok mixed (U:=0) (I:=fun _=>[]) Tryz.func90 rfl (by kernel_rfl) rfl rfl (by decide +kernel) ?_
 rintro ⟨c,s,⟨(l : Int),(m : Int),(o : Int),(i : Int),(h : Int),⟨⟩⟩,(a : Int),(x : Int),⟨⟩⟩ hpre
 obtain ⟨c,rfl⟩:=cel_ex c
 obtain ⟨s,rfl⟩:=sta_ex s
 have hpre : csE c s = 0 /\ 0 <= a /\ a <= 400000 /\ -1048576 <= x /\ x <= 1048576:=by have : csE (celOf (celD c)) (staOf (staD s)) = 0 /\ 0 <= a /\ a <= 400000 /\ -1048576 <= x /\ x <= 1048576:=hpre; rwa [celOf_D,staOf_D] at this
 unfold FnSat
 conv=>arg 2; reduce
 simp [csfS,routS,rinS,and_assoc]
 obtain ⟨h0,a0,a1,x0,x1⟩:=hpre
 exact ⟨fun hx=>⟨h0,a0,a1,hx,x1,(csfB_p hx).symm⟩,fun hx=>⟨by omega,by omega,h0,a0,a1,by omega,by omega,(csfB_n hx).symm⟩⟩
@[irreducible] def psL (p : Pk) (s : Sx) (l m h a : Int) (g k : Nat) : Int:=bdL (p.at g k) (s.at g k) l m h a
@[irreducible] def psH (p : Pk) (s : Sx) (l h a : Int) (g k : Nat) : Int:=bdH (p.at g k) (s.at g k) l h a
theorem psL_eq (p : Pk) (s : Sx) (l m h a : Int) (g k : Nat) : psL p s l m h a g k = bdL (p.at g k) (s.at g k) l m h a:=by unfold psL; rfl
theorem psH_eq (p : Pk) (s : Sx) (l h a : Int) (g k : Nat) : psH p s l h a g k = bdH (p.at g k) (s.at g k) l h a:=by unfold psH; rfl
def psfS : Spec [.ptr wirCells,limSh,.int .i64]:=⟨fun ((gr,sx,_,_),((l : Int),(m : Int),(o : Int),(i : Int),(h : Int),_),(a : Int),_)=>SsOK (pkOf (gr,())) (sxOf sx) /\ limB l m o i h = true /\ 0 <= a /\ a <= 400000,fun ((gr,sx,_,_),((l : Int),(m : Int),(_ : Int),(_ : Int),(h : Int),_),(a : Int),_)=>.slc (.sym (pkOf (gr,())).len) 1 (fun g=>[.slc (.sym ((pkOf (gr,())).sz g)) 2 (fun k=>[.si .i64 (psL (pkOf (gr,())) (sxOf sx) l m h a g k),.si .i64 (psH (pkOf (gr,())) (sxOf sx) l h a g k)])])⟩
def psfI : DatL [.ptr wirCells,limSh,.int .i64] -> Anns:=fun ((gr,sx,_,_),((l : Int),(m : Int),(_ : Int),(_ : Int),(h : Int),_),(a : Int),_)=>[
 (2097152 + 2,[(7,104,18)],fun _ _=>⟨Unit,fun _=>⟨[],[]⟩,Unit,fun _=>(),fun _=>True,fun _=>0⟩),
 (2097152 + 17,[(7,9,1)],fun _ _=>⟨Unit,fun _=>⟨[],[]⟩,Unit,fun _=>(),fun _=>True,fun _=>0⟩),
 (2097152 + 18,[(7,0,2)],fun _ _=>⟨Unit,fun _=>⟨[],[]⟩,Unit,fun _=>(),fun _=>True,fun _=>0⟩),
 (2097152 + 20,[(7,0,4)],fun _ _=>⟨Unit,fun _=>⟨[],[]⟩,Unit,fun _=>(),fun _=>True,fun _=>0⟩),
 (4194304 + 17,[],fun _ _=>⟨Unit,fun _=>⟨[],[]⟩,Unit,fun _=>(),fun _=>True,fun _=>0⟩),
 (5,[],fun fr hp=>⟨Nat,fun g=>⟨frI [.k 9,.t 9,.k 15,.s (.si .i64 (icast g)),.t 72] fr,setB hp 0 (.rows 102 104 2 (.sym (sxOf sx).len) (fun _=>false) (fun k=>sxL (pkOf (gr,())) g k) (fun q k=>[.si .i64 (psL (pkOf (gr,())) (sxOf sx) l m h a q k),.si .i64 (psH (pkOf (gr,())) (sxOf sx) l h a q k)]) none)⟩,Nat × Pk,fun g=>(g,pkOf (gr,())),fun (g,p)=>g <= p.len,fun g=>nsub 17 g⟩),
 (8,[],fun fr hp=>⟨Nat,fun k=>⟨frI [.k 11,.t 7,.k 22,.s (.si .i64 (icast k)),.t 65] fr,setB hp 0 (.rows 102 104 2 (.sym (sxOf sx).len) (fun _=>false) (fun q=>sxM (pkOf (gr,())) (nat (intOf (getL fr 9))) k q) (fun q k=>[.si .i64 (psL (pkOf (gr,())) (sxOf sx) l m h a q k),.si .i64 (psH (pkOf (gr,())) (sxOf sx) l h a q k)]) none)⟩,Nat × Nat × Pk,fun k=>(k,nat (intOf (getL fr 9)),pkOf (gr,())),fun (k,g,p)=>k <= p.sz g,fun k=>nsub 5 k⟩)]
set_option maxRecDepth 100000 in
set_option maxHeartbeats 2000000 in
theorem psf_ok : FnSpec Tryz.prog 47 _ psfS:=by
 refine FnSpec.of HI1_ok mixed (U:=0) (I:=psfI) Tryz.func47 rfl (by kernel_rfl) rfl rfl (by decide +kernel) ?_
 rintro ⟨⟨gr,sx,w,⟨⟩⟩,⟨(l : Int),(m : Int),(o : Int),(i : Int),(h : Int),⟨⟩⟩,(a : Int),⟨⟩⟩ hpre
 obtain ⟨p,hp⟩:=pk_ex (gr,())
 obtain rfl : gr = (pkD p).1:=by rw [<- hp]
 obtain ⟨s,rfl⟩:=sx_ex sx
 have hpre : SsOK p s /\ limB l m o i h = true /\ 0 <= a /\ a <= 400000:=by have : SsOK (pkOf (pkD p)) (sxOf (sxD s)) /\ limB l m o i h = true /\ 0 <= a /\ a <= 400000:=hpre; rwa [pkOf_D,sxOf_D] at this
 unfold FnSat
 conv=>arg 2; reduce
 simp [psfS,outmo,inmo,ElEq,RowsEq,getB,goneB,aliveB,maxRow,and_assoc]
 obtain ⟨S,hb,a0,a1⟩:=hpre
 have n16:=S.n
 have hl:=S.l
 have hlb : limB l m 1048576 1048576 h = true:=by
  have:=limB_iff.1 hb
  exact limB_iff.2 ⟨this.1,this.2.1,this.2.2.1,by omega,by omega,this.2.2.2.2.2⟩
 refine ⟨by omega,by omega,⟨0,rfl,fun k hk=>⟨by rw [sxL_ge (by omega)],fun j=>by rw [sxL_ge (by omega)]; omega⟩,by omega⟩,fun g hg=>⟨fun hlt=>?_,fun hge=>⟨by omega,fun j hj=>sxL_lt (by omega)⟩⟩⟩
 have hm:=S.m g hlt
 refine ⟨hlt,⟨0,rfl,fun k hk=>?_,by omega⟩,fun q hq=>⟨fun hql=>?_,fun hqg=>⟨by omega,by omega,g + 1,by omega,fun k hk=>?_,by omega,by omega⟩⟩⟩
 ·by_cases e : k = g
  ·subst e; rw [sxM_at,sxL_ge (by omega)]
  ·rw [sxM_ne e]
 ·have hc:=S.c g hlt q hql
  have hcs : csE (p.at g q) (s.at g q) = 0:=csE_iff.2 hc
  have hmx:=(celB_iff.1 hc.1).max
  have gE : ∀ P,aE (p.at g q) (s.at g q) (mgE (limB l m 1048576 1048576 h) a P) = if P 0 = true then 0 else 17:=fun P=>by
   rw [aE_yes hcs,<- (mg_yes (p:=P) (most:=0) hlb a0 a1).2]; unfold grE; rfl
  have gV : ∀ P,aV (p.at g q) (s.at g q) (mgV (limB l m 1048576 1048576 h) a P 1048576) = if P 0 = true then grI P 1048576 else 0:=fun P=>by
   rw [aV_yes hcs,<- (mg_yes (p:=P) (most:=1048576) hlb a0 a1).1]; unfold grV; rfl
  simp only [gE,gV]
  have hL:=psL_eq p s l m h a g q
  have hH:=psH_eq p s l h a g q
  unfold bdL at hL
  unfold bdH at hH
  have fin : ∀ X : List AV,nrmL (takeL X 2) = [AV.si .i64 (psL p s l m h a g q),AV.si .i64 (psH p s l h a g q)] -> (g < s.len /\ (sxM p g q g + 1) * 17 <= 1099511627776 /\ g < s.len /\ -9223372036854775808 <= (q : Int) + 1 /\ (q : Int) + 1 <= 9223372036854775807 /\ ∃ q2 : Nat,(q : Int) + 1 = q2 /\ (∀ k,k < s.len -> updZ g false (fun _=>false) k = false /\ updN g (sxM p g q g + 1) (fun q'=>sxM p g q q') k = sxM p g q2 k /\ ∀ j,j < sxM p g q2 k -> nrmL (updR g (catE (sxM p g q g) (fun k=>[AV.si .i64 (psL p s l m h a g k),AV.si .i64 (psH p s l h a g k)]) (rowAt 2 X)) (fun q k=>[AV.si .i64 (psL p s l m h a q k),AV.si .i64 (psH p s l h a q k)]) k j) = [AV.si .i64 (psL p s l m h a k j),AV.si .i64 (psH p s l h a k j)]) /\ q2 <= p.sz g /\ 5 - q2 < 5 - q):=fun X hX=>by
   rw [sxM_at]
   refine ⟨by omega,by omega,by omega,by omega,by omega,q + 1,by omega,fun k hk=>⟨?_,?_,fun j hj=>?_⟩,by omega,by omega⟩
   ·unfold updZ; split <;> rfl
   ·unfold updN
    by_cases e : k = g
    ·subst e; rw [if_pos rfl,sxM_at]
    ·rw [if_neg e]
     show sxM p g q k = _
     rw [sxM_ne e,sxM_ne e]
   ·unfold updR
    by_cases e : k = g
    ·subst e
     rw [sxM_at] at hj
     rw [if_pos rfl]
     refine app_one hj (fun _=>rfl) (fun e=>?_)
     subst e
     exact hX
    ·rw [if_neg e]; rfl
  generalize outP (p.at g q) (s.at g q) l h a = PO at *
  generalize inP (p.at g q) (s.at g q) m h a = PI at *
  have gin : PI 0 = true -> 0 <= grI PI 1048576 /\ grI PI 1048576 <= 1048576:=fun _=>by
   have hle:=firstN_le (fun k : Nat=>!(PI ((k : Int) + 1))) (1048576 : Int).toNat
   unfold grI; omega
  refine ⟨hql,by omega,by omega,hmx,fun hO=>⟨by omega,by omega,hmx,fun hI hp=>?_,fun hI=>?_⟩,fun hO=>⟨by omega,by omega,hmx,fun hI hp=>?_,fun hI=>?_⟩⟩
  ·have hPO : PO 0 = true:=by
    cases e : PO 0 with
    | true=>rfl
    | false=>simp [e] at hO
   have hPI : PI 0 = true:=by
    cases e : PI 0 with
    | true=>rfl
    | false=>simp [e] at hI
   have hg:=gin hPI
   rw [if_pos hPI] at hp ⊢
   rw [if_pos ⟨hPI,hp⟩] at hL
   rw [if_pos hPO] at hH ⊢
   exact ⟨by omega,by omega,fin _ (by rw [hL,hH]; rfl)⟩
  ·have hPO : PO 0 = true:=by
    cases e : PO 0 with
    | true=>rfl
    | false=>simp [e] at hO
   rw [if_pos hPO] at hH ⊢
   have hn : ¬ (PI 0 = true /\ 0 < grI PI 1048576):=fun hh=>by
    have:=hI (if_pos hh.1)
    rw [if_pos hh.1] at this
    omega
   rw [if_neg hn,if_pos hPO] at hL
   exact fin _ (by rw [hL,hH]; rfl)
  ·have hPO : ¬ PO 0 = true:=fun e=>by simp [e] at hO
   have hPI : PI 0 = true:=by
    cases e : PI 0 with
    | true=>rfl
    | false=>simp [e] at hI
   have hg:=gin hPI
   rw [if_pos hPI] at hp ⊢
   rw [if_pos ⟨hPI,hp⟩] at hL
   rw [if_neg hPO] at hH
   exact ⟨by omega,by omega,fin _ (by rw [hL,hH]; rfl)⟩
  ·have hPO : ¬ PO 0 = true:=fun e=>by simp [e] at hO
   have hn : ¬ (PI 0 = true /\ 0 < grI PI 1048576):=fun hh=>by
    have:=hI (if_pos hh.1)
    rw [if_pos hh.1] at this
    omega
   rw [if_neg hn,if_neg hPO] at hL
   rw [if_neg hPO] at hH
   exact fin _ (by rw [hL,hH]; rfl)
 ·by_cases e : k = g
  ·subst e; rw [sxM_at,sxL_lt (by omega)]; omega
  ·rw [sxM_ne e]
   by_cases h : k < g
   ·rw [sxL_lt h,sxL_lt (by omega)]
   ·rw [sxL_ge (by omega),sxL_ge (by omega)]
noncomputable def HI2 : Sums:=⟨(48,mkSum _ limS) :: (47,mkSum _ psfS) :: (90,mkSum _ csfS) :: HI1.one,HI1.two,HI1.lo,HI1.eqs,HI1.its,HI1.imm⟩
theorem HI2_ok : SumsOK Tryz.prog HI2:=(((HI1_ok.cons Tryz.func90 (by kernel_rfl) (by kernel_rfl) csf_ok).cons Tryz.func47 (by kernel_rfl) (by kernel_rfl) psf_ok).cons Tryz.func48 (by kernel_rfl) (by kernel_rfl) rbnd_ok)
end
end Abs
end Go.Proofs.YtlacopdaibhkkaaGreat

namespace Go.Proofs.YtlacopdaibhkkaaGreat
namespace Abs
open Go Go.RowKit
noncomputable section
attribute [local irreducible] FnSat
noncomputable def HJe : Sums:=⟨(35,mkSum _ wirS) :: HI2.one,HI2.two,HI2.lo,HI2.eqs,HI2.its,HI2.imm⟩
theorem HJe_ok : SumsOK Tryz.prog HJe:=(HI2_ok.cons Tryz.func35 (by kernel_rfl) (by kernel_rfl) wir_ok)
noncomputable def HJo : Sums:=⟨(35,mkSum _ wirP) :: HI2.one,HI2.two,HI2.lo,HI2.eqs,HI2.its,HI2.imm⟩
theorem HJo_ok : SumsOK Tryz.prog HJo:=(HI2_ok.cons Tryz.func35 (by kernel_rfl) (by kernel_rfl) wirP_ok)
theorem gok_t {w : Wx} {i : Int} : ∀ {n : Nat},gokA w i n = true -> ∀ g,g < n -> ∀ k,k < w.m g -> -1048576 <= swO w i g k /\ swO w i g k <= 1048576
 | 0,_,g,hg,_,_=>by omega
 | n + 1,h,g,hg,k,hk=>by
   rw [gokA_s,Bool.and_eq_true] at h
   by_cases e : g = n
   ·subst e; exact pfB_t.1 h.2 k hk
   ·exact gok_t h.1 g (by omega) k hk
@[irreducible] def cgB (p : Pk) (s : Sx) (l m h a i : Int) (g k : Nat) : Bool:=csfB (p.at g k) (s.at g k) l m h a (swO (wOf p s) i g k)
theorem cgB_eq (p : Pk) (s : Sx) (l m h a i : Int) (g k : Nat) : cgB p s l m h a i g k = csfB (p.at g k) (s.at g k) l m h a (swO (wOf p s) i g k):=by unfold cgB; rfl
def alB0 (p : Nat -> Bool) : Nat -> Bool
 | 0=>true
 | k + 1=>alB0 p k && p k
@[irreducible] def alB (p : Nat -> Bool) (k : Nat) : Bool:=alB0 p k
theorem alB_0 (p : Nat -> Bool) : alB p 0 = true:=by unfold alB; rfl
theorem alB_s (p : Nat -> Bool) (k : Nat) : alB p (k + 1) = (alB p k && p k):=by unfold alB; rfl
theorem alB_t {p : Nat -> Bool} : ∀ {n : Nat},alB p n = true ↔ ∀ k,k < n -> p k = true
 | 0=>by rw [alB_0]; simp
 | n + 1=>by
   rw [alB_s,Bool.and_eq_true,alB_t (n:=n)]
   constructor
   ·rintro ⟨h1,h2⟩ k hk
    by_cases e : k = n
    ·subst e; exact h2
    ·exact h1 k (by omega)
   ·intro h; exact ⟨fun k hk=>h k (by omega),h n (by omega)⟩
theorem alB_f {p : Nat -> Bool} {n k : Nat} (hk : k < n) (h : p k = false) : alB p n = false:=by
 cases h2 : alB p n with
 | false=>rfl
 | true=>rw [alB_t.1 h2 k hk] at h; cases h
@[irreducible] def cgA (p : Pk) (s : Sx) (l m h a i : Int) (g : Nat) : Bool:=alB (cgB p s l m h a i g) (p.sz g)
theorem cgA_eq (p : Pk) (s : Sx) (l m h a i : Int) (g : Nat) : cgA p s l m h a i g = alB (cgB p s l m h a i g) (p.sz g):=by unfold cgA; rfl
@[irreducible] def rngB (o n i : Int) : Bool:=decide (-n <= i) && decide (i <= o)
@[irreducible] def sgG (p : Pk) (s : Sx) (l m o n h a i : Int) (g : Nat) : Bool:=rngB o n i && alB (cgA p s l m h a i) g
theorem sgG_eq (p : Pk) (s : Sx) (l m o n h a i : Int) (g : Nat) : sgG p s l m o n h a i g = (rngB o n i && alB (cgA p s l m h a i) g):=by unfold sgG; rfl
@[irreducible] def sgK (p : Pk) (s : Sx) (l m o n h a i : Int) (g k : Nat) : Bool:=sgG p s l m o n h a i g && alB (cgB p s l m h a i g) k
theorem sgK_eq (p : Pk) (s : Sx) (l m o n h a i : Int) (g k : Nat) : sgK p s l m o n h a i g k = (sgG p s l m o n h a i g && alB (cgB p s l m h a i g) k):=by unfold sgK; rfl
@[irreducible] def sfE (p : Pk) (s : Sx) (lb : Bool) (i a : Int) : Int:=if ssE p s = 0 then (if lb = true then cuE (wOf p s) i a else 2) else ssE p s
theorem sfE_e {p : Pk} {s : Sx} {lb : Bool} {i a : Int} (h : ssE p s ≠ 0) : sfE p s lb i a = ssE p s:=by unfold sfE; rw [if_neg h]
theorem sfE_2 {p : Pk} {s : Sx} {lb : Bool} {i a : Int} (h : ssE p s = 0) (h' : lb = false) : sfE p s lb i a = 2:=by unfold sfE; rw [if_pos h,h']; rfl
theorem sfE_n {p : Pk} {s : Sx} {lb : Bool} {i a : Int} (h : ssE p s = 0) (h' : lb = true) : sfE p s lb i a = cuE (wOf p s) i a:=by unfold sfE; rw [if_pos h,if_pos h']
@[irreducible] def sfB' (p : Pk) (s : Sx) (l m o n h a i : Int) : Bool:=decide (sfE p s (limB l m o n h) i a = 0) && sgG p s l m o n h a i p.len
theorem sfB_e {p : Pk} {s : Sx} {l m o n h a i : Int} (h' : sfE p s (limB l m o n h) i a ≠ 0) : sfB' p s l m o n h a i = false:=by unfold sfB'; simp [h']
theorem sfB_n {p : Pk} {s : Sx} {l m o n h a i : Int} (h' : sfE p s (limB l m o n h) i a = 0) : sfB' p s l m o n h a i = sgG p s l m o n h a i p.len:=by unfold sfB'; simp [h']
@[reducible] def sfR : DatL [pkSh,sxSh,limSh,inSh] -> AV:=fun (p,s,((l : Int),(m : Int),(o : Int),(n : Int),(h : Int),_),((i : Int),(a : Int),_),_)=>.tup [.sb (sfB' (pkOf p) (sxOf s) l m o n h a i),.si .i64 (sfE (pkOf p) (sxOf s) (limB l m o n h) i a)]
def sfS : Spec [pkSh,sxSh,limSh,inSh]:=⟨fun (p,_)=>PkMax (pkOf p),sfR⟩
def sfSe : Spec [pkSh,sxSh,limSh,inSh]:=⟨fun (p,s,_)=>PkMax (pkOf p) /\ ssE (pkOf p) (sxOf s) ≠ 0,sfR⟩
def sfSo : Spec [pkSh,sxSh,limSh,inSh]:=⟨fun (p,s,_)=>PkMax (pkOf p) /\ ssE (pkOf p) (sxOf s) = 0,sfR⟩
set_option maxRecDepth 100000 in
set_option maxHeartbeats 2000000 in
theorem sf_e : FnSpec Tryz.prog 21 _ sfSe:=by
 refine FnSpec.of HJe_ok mixed (U:=0) (I:=fun _=>[]) Tryz.func21 rfl (by kernel_rfl) rfl rfl (by decide +kernel) ?_
 rintro ⟨p,s,⟨(l : Int),(m : Int),(o : Int),(n : Int),(h : Int),⟨⟩⟩,⟨(i : Int),(a : Int),⟨⟩⟩,⟨⟩⟩ hpre
 obtain ⟨p,rfl⟩:=pk_ex p
 obtain ⟨s,rfl⟩:=sx_ex s
 have hpre : PkMax p /\ ssE p s ≠ 0:=by have : PkMax (pkOf (pkD p)) /\ ssE (pkOf (pkD p)) (sxOf (sxD s)) ≠ 0:=hpre; rwa [pkOf_D,sxOf_D] at this
 unfold FnSat
 conv=>arg 2; reduce
 simp [-Bool.forall_bool,sfSe,wirS,ElEq,getB,goneB,aliveB,and_assoc]
 obtain ⟨hP,h0⟩:=hpre
 exact ⟨hP,h0,fun _=>⟨sfB_e (by rw [sfE_e h0]; exact h0),(sfE_e h0).symm⟩,fun h=>absurd h h0⟩
def sfI : DatL [pkSh,sxSh,limSh,inSh] -> Anns:=fun (p,s,((l : Int),(m : Int),(o : Int),(n : Int),(h : Int),_),((i : Int),(a : Int),_),_)=>[
 (12,[],fun fr hp=>⟨Nat,fun g=>⟨frI [.k 14,.s (.sb (sgG (pkOf p) (sxOf s) l m o n h a i g)),.t 4,.k 42,.s (.si .i64 (icast g)),.t 39] fr,hp⟩,Nat × Pk,fun g=>(g,pkOf p),fun (g,p)=>g <= p.len,fun g=>nsub 17 g⟩),
 (15,[],fun fr hp=>⟨Nat,fun k=>⟨frI [.k 14,.s (.sb (sgK (pkOf p) (sxOf s) l m o n h a i (nat (intOf (getL fr 15))) k)),.k 2,.t 2,.k 49,.s (.si .i64 (icast k)),.t 32] fr,hp⟩,Nat × Nat × Pk,fun k=>(k,nat (intOf (getL fr 15)),pkOf p),fun (k,g,p)=>k <= p.sz g,fun k=>nsub 5 k⟩)]
set_option maxRecDepth 100000 in
set_option maxHeartbeats 2000000 in
theorem sf_o : FnSpec Tryz.prog 21 _ sfSo:=by
 refine FnSpec.of HJo_ok mixed (U:=0) (I:=sfI) Tryz.func21 rfl (by kernel_rfl) rfl rfl (by decide +kernel) ?_
 rintro ⟨p,s,⟨(l : Int),(m : Int),(o : Int),(n : Int),(h : Int),⟨⟩⟩,⟨(i : Int),(a : Int),⟨⟩⟩,⟨⟩⟩ hpre
 obtain ⟨p,rfl⟩:=pk_ex p
 obtain ⟨s,rfl⟩:=sx_ex s
 have hpre : PkMax p /\ ssE p s = 0:=by have : PkMax (pkOf (pkD p)) /\ ssE (pkOf (pkD p)) (sxOf (sxD s)) = 0:=hpre; rwa [pkOf_D,sxOf_D] at this
 unfold FnSat
 conv=>arg 2; reduce
 simp [-Bool.forall_bool,sfSo,wirP,wirX,wirL,limS,curS,psfS,ElEq,getB,goneB,aliveB,and_assoc]
 obtain ⟨hP,h0⟩:=hpre
 have S:=ssOK h0
 have n16:=S.n
 refine ⟨hP,h0,fun hb=>?_,fun hb=>⟨S.w,fun hc=>?_,fun hc=>?_⟩⟩
 ·have e:=sfE_2 (i:=i) (a:=a) h0 hb
  exact ⟨sfB_e (by rw [e]; decide),by rw [e,hb]; simp [errA]⟩
 ·have e:=sfE_n (i:=i) (a:=a) h0 hb
  exact ⟨sfB_e (by rw [e]; exact hc),e.symm⟩
 have e:=sfE_n (i:=i) (a:=a) h0 hb
 rw [hc] at e
 obtain ⟨⟨⟨i1,i2⟩,a1,a2⟩,hok⟩:=cuE_iff.1 hc
 rw [wOf_n] at hok
 have hl:=limB_iff.1 hb
 rw [hc,okN_0 rfl]
 refine ⟨by omega,by omega,S,hb,a1,a2,⟨0,by rw [sgG_eq,alB_0,Bool.and_true]; unfold rngB; rfl,rfl,by omega⟩,fun g hg=>⟨fun hlt=>⟨hlt,⟨0,by rw [sgK_eq,alB_0,Bool.and_true],rfl,by omega⟩,fun k hk=>⟨fun hkl=>⟨hkl,fun _=>hlt,fun _=>hkl,fun _ _=>hlt,fun _ _=>hkl,by omega,by have:=(S.m g hlt).1; omega,k + 1,?_,by omega,by omega,by have:=(S.m g hlt).1; omega⟩,fun hkg=>⟨by omega,by omega,g + 1,?_,by omega,by omega,by omega⟩⟩⟩,fun hge=>⟨by rw [sfB_n e,show g = p.len by omega],e.symm⟩⟩⟩
 ·have hx:=gok_t hok g hlt k (by rw [wOf_m]; exact hkl)
  have hbd:=bd_iff (s:=s.at g k) (l:=l) (m:=m) (h:=h) (a:=a) (S.c g hlt k hkl).1 hx.1 hx.2
  rw [sgK_eq,sgK_eq,alB_s,cgB_eq,psL_eq,psH_eq,Bool.and_assoc,<- Bool.and_assoc (sgG p s l m o n h a i g)]
  congr 1
  rw [Bool.eq_iff_iff,<- hbd]
  simp
 ·have e2 : k = p.sz g:=by omega
  rw [sgK_eq,sgG_eq,sgG_eq,alB_s,cgA_eq,e2,Bool.and_assoc]
theorem sf_ok : FnSpec Tryz.prog 21 _ sfS:=fun x hx=>by
 by_cases h : ssE (pkOf x.1) (sxOf x.2.1) = 0
 ·exact sf_o x ⟨hx,h⟩
 ·exact sf_e x ⟨hx,h⟩
noncomputable def HJ1 : Sums:=⟨(21,mkSum _ sfS) :: HI2.one,HI2.two,HI2.lo,HI2.eqs,HI2.its,HI2.imm⟩
theorem HJ1_ok : SumsOK Tryz.prog HJ1:=(HI2_ok.cons Tryz.func21 (by kernel_rfl) (by kernel_rfl) sf_ok)
@[irreducible] def rsfV (p : Pk) (s : Sx) (l m o n h a i : Int) : Bool:=rngB o n i && (gokA (wOf p s) i p.len && alB (cgA p s l m h a i) p.len)
theorem rsfV_1 {p : Pk} {s : Sx} {l m o n h a i : Int} (h' : i < -n \/ o < i) : rsfV p s l m o n h a i = false:=by
 have : rngB o n i = false:=by unfold rngB; simp; omega
 unfold rsfV; rw [this]; rfl
theorem rsfV_2 {p : Pk} {s : Sx} {l m o n h a i : Int} (h' : gokA (wOf p s) i p.len = false) : rsfV p s l m o n h a i = false:=by
 unfold rsfV; rw [h']; simp
theorem rsfV_3 {p : Pk} {s : Sx} {l m o n h a i : Int} (h1 : -n <= i) (h2 : i <= o) (h' : gokA (wOf p s) i p.len = true) : rsfV p s l m o n h a i = alB (cgA p s l m h a i) p.len:=by
 have : rngB o n i = true:=by unfold rngB; simp; omega
 unfold rsfV; rw [this,h']; simp
def rsfS : Spec [pkSh,sxSh,limSh,inSh]:=⟨fun (p,s,((l : Int),(m : Int),(o : Int),(n : Int),(h : Int),_),((_ : Int),(a : Int),_),_)=>ssE (pkOf p) (sxOf s) = 0 /\ limB l m o n h = true /\ 0 <= a /\ a <= 400000,fun (p,s,((l : Int),(m : Int),(o : Int),(n : Int),(h : Int),_),((i : Int),(a : Int),_),_)=>.sb (rsfV (pkOf p) (sxOf s) l m o n h a i)⟩
def rsfI : DatL [pkSh,sxSh,limSh,inSh] -> Anns:=fun (p,s,((l : Int),(m : Int),(o : Int),(n : Int),(h : Int),_),((i : Int),(a : Int),_),_)=>[
 (7,[],fun fr hp=>⟨Nat,fun g=>⟨frI [.k 12,.s (.si .i64 (icast g)),.t 1,.k 24,.t 42] fr,hp⟩,Nat × Pk × (Nat -> Bool),fun g=>(g,pkOf p,cgA (pkOf p) (sxOf s) l m h a i),fun (g,p,b)=>g <= p.len /\ ∀ j,j < g -> b j = true,fun g=>nsub 17 g⟩),
 (10,[],fun fr hp=>⟨Nat,fun k=>⟨frI [.k 13,.s (.si .i64 (icast k)),.k 30,.t 36] fr,hp⟩,Nat × Nat × Pk × (Nat -> Bool),fun k=>(k,nat (intOf (getL fr 12)),pkOf p,cgB (pkOf p) (sxOf s) l m h a i (nat (intOf (getL fr 12)))),fun (k,g,p,b)=>k <= p.sz g /\ ∀ j,j < k -> b j = true,fun k=>nsub 5 k⟩)]
set_option maxRecDepth 100000 in
set_option maxHeartbeats 2000000 in
theorem rsf_ok : FnSpec Tryz.prog 49 _ rsfS:=by
 refine FnSpec.of HJ1_ok mixed (U:=0) (I:=rsfI) Tryz.func49 rfl (by kernel_rfl) rfl rfl (by decide +kernel) ?_
 rintro ⟨p,s,⟨(l : Int),(m : Int),(o : Int),(n : Int),(h : Int),⟨⟩⟩,⟨(i : Int),(a : Int),⟨⟩⟩,⟨⟩⟩ hpre
 obtain ⟨p,rfl⟩:=pk_ex p
 obtain ⟨s,rfl⟩:=sx_ex s
 obtain ⟨h0,hb,a0,a1⟩ : ssE p s = 0 /\ limB l m o n h = true /\ 0 <= a /\ a <= 400000:=by have : ssE (pkOf (pkD p)) (sxOf (sxD s)) = 0 /\ limB l m o n h = true /\ 0 <= a /\ a <= 400000:=hpre; rwa [pkOf_D,sxOf_D] at this
 unfold FnSat
 conv=>arg 2; reduce
 simp [-Bool.forall_bool,rsfS,rsxS,csfS,ElEq,getB,goneB,aliveB,and_assoc]
 have S:=ssOK h0
 have n16:=S.n
 have hl:=S.l
 have hlm:=limB_iff.1 hb
 refine ⟨by omega,by omega,fun hr=>rsfV_1 hr,fun r1 r2=>⟨h0,by omega,by omega,fun hf=>rsfV_2 hf,fun ht=>?_⟩⟩
 have hV:=rsfV_3 (l:=l) (m:=m) (h:=h) (a:=a) r1 r2 ht
 refine ⟨⟨0,rfl,by omega,fun j hj=>by omega⟩,fun g hg hall=>⟨fun hlt=>?_,fun hge=>by rw [hV]; exact alB_t.2 fun j hj=>hall j (by omega)⟩⟩
 have hm:=S.m g (by omega)
 have hA:=cgA_eq p s l m h a i g
 refine ⟨⟨0,rfl,by omega,fun j hj=>by omega⟩,fun k hk hal2=>⟨hlt,fun hkl=>?_,fun hkg=>⟨by omega,by omega,g + 1,by omega,by omega,fun j hj=>?_,by omega⟩⟩⟩
 ·have hx:=gok_t ht g (by omega) k (by rw [wOf_m]; omega)
  have hB:=cgB_eq p s l m h a i g k
  rw [<- hB]
  refine ⟨by omega,by omega,hlt,hkl,by omega,by omega,csE_iff.2 (S.c g (by omega) k (by omega)),a0,a1,hx.1,hx.2,fun hf=>?_,fun htt=>⟨by omega,by omega,k + 1,by omega,by omega,fun j hj=>?_,by omega⟩⟩
  ·rw [alB_f (by omega) hf] at hA
   rw [hV]
   exact alB_f (show g < p.len by omega) hA
  ·by_cases e : j = k
   ·subst e; exact htt
   ·exact hal2 j (by omega)
 ·by_cases e : j = g
  ·subst e
   rw [hA]
   exact alB_t.2 fun k hk=>hal2 k (by omega)
  ·exact hall j (by omega)
noncomputable def HJ2 : Sums:=⟨(49,mkSum _ rsfS) :: HJ1.one,HJ1.two,HJ1.lo,HJ1.eqs,HJ1.its,HJ1.imm⟩
theorem HJ2_ok : SumsOK Tryz.prog HJ2:=(HJ1_ok.cons Tryz.func49 (by kernel_rfl) (by kernel_rfl) rsf_ok)
set_option maxRecDepth 100000 in
set_option maxHeartbeats 2000000 in
theorem rsfe_ok : FnSpec Tryz.prog 22 _ sfS:=by
 refine FnSpec.of HJ2_ok mixed (U:=0) (I:=fun _=>[]) Tryz.func22 rfl (by kernel_rfl) rfl rfl (by decide +kernel) ?_
 rintro ⟨p,s,⟨(l : Int),(m : Int),(o : Int),(n : Int),(h : Int),⟨⟩⟩,⟨(i : Int),(a : Int),⟨⟩⟩,⟨⟩⟩ hpre
 obtain ⟨p,rfl⟩:=pk_ex p
 obtain ⟨s,rfl⟩:=sx_ex s
 have hP : PkMax p:=by have : PkMax (pkOf (pkD p)):=hpre; rwa [pkOf_D] at this
 unfold FnSat
 conv=>arg 2; reduce
 simp [-Bool.forall_bool,sfS,scsS,limS,inpS,rsfS,ElEq,getB,goneB,aliveB,and_assoc]
 refine ⟨hP,fun h0=>⟨hP,sfB_e (by rw [sfE_e h0]; exact h0),(sfE_e h0).symm⟩,fun h0=>⟨fun hb=>?_,fun hb=>⟨hP,fun hi=>?_,fun hi=>?_⟩⟩⟩
 ·have e:=sfE_2 (i:=i) (a:=a) h0 hb
  exact ⟨sfB_e (by rw [e]; decide),by rw [e,hb]; simp [errA]⟩
 ·have e:=sfE_n (i:=i) (a:=a) h0 hb
  rw [<- inpE_n h0] at e
  exact ⟨hP,sfB_e (by rw [e]; exact hi),e.symm⟩
 ·have e:=sfE_n (i:=i) (a:=a) h0 hb
  rw [<- inpE_n h0,hi] at e
  rw [inpE_n h0] at hi
  obtain ⟨⟨⟨i1,i2⟩,a1,a2⟩,hok⟩:=cuE_iff.1 hi
  rw [wOf_n] at hok
  refine ⟨h0,hb,a1,a2,?_,e.symm⟩
  rw [sfB_n e,sgG_eq]
  unfold rsfV
  rw [hok,Bool.true_and]
noncomputable def HJ3 : Sums:=⟨(22,mkSum _ sfS) :: HJ2.one,HJ2.two,HJ2.lo,HJ2.eqs,HJ2.its,HJ2.imm⟩
theorem HJ3_ok : SumsOK Tryz.prog HJ3:=(HJ2_ok.cons Tryz.func22 (by kernel_rfl) (by kernel_rfl) rsfe_ok)
end
end Abs
end Go.Proofs.YtlacopdaibhkkaaGreat

namespace Go.Proofs.YtlacopdaibhkkaaGreat
namespace Abs
open Go Go.RowKit
noncomputable section
attribute [local irreducible] FnSat
@[irreducible] def p2 (e : Nat) : Int:=(2 : Int) ^ e
theorem p2_s (e : Nat) : p2 (e + 1) = 2 * p2 e:=by unfold p2; rw [Int.pow_succ]; omega
theorem p2_0 : p2 0 = 1:=by unfold p2; rfl
theorem p2_pos : ∀ e,1 <= p2 e
 | 0=>by rw [p2_0]; decide
 | e + 1=>by have:=p2_pos e; rw [p2_s]; omega
theorem p2_mono {d : Nat} : ∀ {e : Nat},d <= e -> p2 d <= p2 e
 | 0,h=>by obtain rfl : d = 0:=by omega
           exact Int.le_refl _
 | e + 1,h=>by
   rcases Nat.lt_or_ge d (e + 1) with h1 | h1
   ·have:=p2_mono (d:=d) (e:=e) (by omega)
    have:=p2_pos e
    rw [p2_s]; omega
   ·obtain rfl : d = e + 1:=by omega
    exact Int.le_refl _
@[irreducible] def stp (e : Nat) : Int:=match e with | 0=>0 | e + 1=>p2 e
theorem stp_0 : stp 0 = 0:=by unfold stp; rfl
theorem stp_s (e : Nat) : stp (e + 1) = p2 e:=by unfold stp; rfl
theorem stp_half (e : Nat) : (stp (e + 1)).tdiv 2 = stp e:=by
 rw [stp_s]
 cases e with
 | zero=>rw [p2_0,stp_0]; rfl
 | succ e =>
   have:=p2_pos e
   rw [p2_s,stp_s,Int.tdiv_eq_ediv_of_nonneg (by omega)]
   omega
theorem stp_b {e : Nat} (h : e <= 21) : 0 <= stp e /\ stp e <= 1048576:=by
 cases e with
 | zero=>rw [stp_0]; decide
 | succ e =>
   have h1:=p2_mono (d:=e) (e:=20) (by omega)
   have h2:=p2_pos e
   have h3 : p2 20 = 1048576:=by unfold p2; rfl
   rw [stp_s]; omega
structure HvInv (p : Int -> Bool) (most : Int) (e : Nat) (x : Int) : Prop where
 e1 : e <= 21
 a : 0 <= x
 b : x <= most
 c : p x = true
 d : ∀ i,x + p2 e <= i -> i <= most -> p i = false
theorem hv_0 {p : Int -> Bool} {most : Int} (hm : Mono p most) (h : most <= 1048576) : HvInv p most 21 0:=⟨by decide,by decide,hm.h0,hm.p0,fun i h1 h2=>by
 have : p2 21 = 2097152:=by unfold p2; rfl
 omega⟩
theorem hv_fin {p : Int -> Bool} {most x : Int} {e : Nat} (h : HvInv p most e x) (hm : Mono p most) (hs : stp e <= 0) : x = grV p most /\ 0 = grE p:=by
 obtain rfl : e = 0:=by
  cases e with
  | zero=>rfl
  | succ e=>have:=p2_pos e; rw [stp_s] at hs; omega
 have hd:=h.d
 rw [p2_0] at hd
 have e:=grI_uniq hm h.a h.b h.c fun hl=>hd (x + 1) (by omega) (by omega)
 unfold grV grE
 rw [if_pos hm.p0,if_pos hm.p0,e]
 exact ⟨rfl,rfl⟩
theorem hv_up {p : Int -> Bool} {most x : Int} {e : Nat} (h : HvInv p most (e + 1) x) (h1 : x + stp (e + 1) <= most) (hp : p (x + stp (e + 1)) = true) : HvInv p most e (x + stp (e + 1)):=by
 rw [stp_s] at *
 have:=p2_pos e
 exact ⟨by have:=h.e1; omega,by have:=h.a; omega,h1,hp,fun i i1 i2=>h.d i (by rw [p2_s]; omega) i2⟩
theorem hv_dn {p : Int -> Bool} {most x : Int} {e : Nat} (h : HvInv p most (e + 1) x) (hm : Mono p most) (hp : most < x + stp (e + 1) \/ p (x + stp (e + 1)) = false) : HvInv p most e x:=by
 rw [stp_s] at *
 have:=p2_pos e
 refine ⟨by have:=h.e1; omega,h.a,h.b,h.c,fun i i1 i2=>?_⟩
 cases hi : p i with
 | false=>rfl
 | true =>
   rcases hp with hp | hp
   ·omega
   ·have:=hm.dn (x + p2 e) i (by have:=h.a; omega) i1 i2 hi
    rw [hp] at this; cases this
theorem stp_ex {e : Nat} (h : 0 < stp e) : ∃ d,e = d + 1:=by
 cases e with
 | zero=>rw [stp_0] at h; omega
 | succ e=>exact ⟨e,rfl⟩
end
end Abs
end Go.Proofs.YtlacopdaibhkkaaGreat

namespace Go.Proofs.YtlacopdaibhkkaaGreat
namespace Abs
open Go Go.RowKit
noncomputable section
attribute [local irreducible] FnSat
@[reducible] def bndSh : Sh:=.agg [.int .i64,.int .i64]
@[reducible] def bnds2 : Sh:=.slice 1 [.slice 2 [.int .i64,.int .i64]]
@[irreducible] def wl1 (x hi : Int) : Bool:=decide (x <= imin hi 1048576)
theorem wl1_t {x hi : Int} : wl1 x hi = true ↔ x <= min hi 1048576:=by unfold wl1; simp
@[irreducible] def wl2 (x lo : Int) : Bool:=decide (imax lo (-1048576) <= x)
theorem wl2_t {x lo : Int} : wl2 x lo = true ↔ max lo (-1048576) <= x:=by unfold wl2; simp
def w1S : Spec [.int .i64,bndSh]:=⟨fun _=>True,fun ((x : Int),((_ : Int),(hi : Int),_),_)=>.sb (wl1 x hi)⟩
set_option maxRecDepth 100000 in
theorem w1_ok : FnSpec Tryz.prog 54 _ w1S:=by
 refine FnSpec.of HJ3_ok mixed (U:=0) (I:=fun _=>[]) Tryz.func54 rfl (by kernel_rfl) rfl rfl (by decide +kernel) ?_
 rintro ⟨(x : Int),⟨(lo : Int),(hi : Int),⟨⟩⟩,⟨⟩⟩ -
 unfold FnSat
 conv=>arg 2; reduce
 simp [w1S,and_assoc]
 unfold wl1; simp
def w2S : Spec [.int .i64,bndSh]:=⟨fun _=>True,fun ((x : Int),((lo : Int),(_ : Int),_),_)=>.sb (wl2 x lo)⟩
set_option maxRecDepth 100000 in
theorem w2_ok : FnSpec Tryz.prog 55 _ w2S:=by
 refine FnSpec.of HJ3_ok mixed (U:=0) (I:=fun _=>[]) Tryz.func55 rfl (by kernel_rfl) rfl rfl (by decide +kernel) ?_
 rintro ⟨(x : Int),⟨(lo : Int),(hi : Int),⟨⟩⟩,⟨⟩⟩ -
 unfold FnSat
 conv=>arg 2; reduce
 simp [w2S,and_assoc]
 unfold wl2; simp
noncomputable def HK0 : Sums:=⟨(55,mkSum _ w2S) :: (54,mkSum _ w1S) :: HJ3.one,HJ3.two,HJ3.lo,HJ3.eqs,HJ3.its,HJ3.imm⟩
theorem HK0_ok : SumsOK Tryz.prog HK0:=((HJ3_ok.cons Tryz.func54 (by kernel_rfl) (by kernel_rfl) w1_ok).cons Tryz.func55 (by kernel_rfl) (by kernel_rfl) w2_ok)
@[irreducible] def t1K (w b : Wx) (i : Int) (g k : Nat) : Bool:=wl1 (swO w i g k) (b.r g k)
@[irreducible] def t2K (w b : Wx) (i : Int) (g k : Nat) : Bool:=wl2 (swO w i g k) (b.a g k)
theorem t1K_t {w b : Wx} {i : Int} {g k : Nat} : t1K w b i g k = true ↔ swO w i g k <= min (b.r g k) 1048576:=by unfold t1K; exact wl1_t
theorem t2K_t {w b : Wx} {i : Int} {g k : Nat} : t2K w b i g k = true ↔ max (b.a g k) (-1048576) <= swO w i g k:=by unfold t2K; exact wl2_t
@[irreducible] def t1G (w b : Wx) (i : Int) (g : Nat) : Bool:=alB (t1K w b i g) (w.m g)
@[irreducible] def t2G (w b : Wx) (i : Int) (g : Nat) : Bool:=alB (t2K w b i g) (w.m g)
theorem t1G_eq (w b : Wx) (i : Int) (g : Nat) : t1G w b i g = alB (t1K w b i g) (w.m g):=by unfold t1G; rfl
theorem t2G_eq (w b : Wx) (i : Int) (g : Nat) : t2G w b i g = alB (t2K w b i g) (w.m g):=by unfold t2G; rfl
@[irreducible] def t1A (w b : Wx) (i : Int) : Bool:=alB (t1G w b i) w.n
@[irreducible] def t2A (w b : Wx) (i : Int) : Bool:=alB (t2G w b i) w.n
theorem t1A_eq (w b : Wx) (i : Int) : t1A w b i = alB (t1G w b i) w.n:=by unfold t1A; rfl
theorem t2A_eq (w b : Wx) (i : Int) : t2A w b i = alB (t2G w b i) w.n:=by unfold t2A; rfl
theorem t1A_t {w b : Wx} {i : Int} : t1A w b i = true ↔ ∀ g,g < w.n -> ∀ k,k < w.m g -> swO w i g k <= min (b.r g k) 1048576:=by
 rw [t1A_eq,alB_t]
 constructor
 ·intro h g hg k hk
  have:=h g hg
  rw [t1G_eq,alB_t] at this
  exact t1K_t.1 (this k hk)
 ·intro h g hg
  rw [t1G_eq,alB_t]
  exact fun k hk=>t1K_t.2 (h g hg k hk)
theorem t2A_t {w b : Wx} {i : Int} : t2A w b i = true ↔ ∀ g,g < w.n -> ∀ k,k < w.m g -> max (b.a g k) (-1048576) <= swO w i g k:=by
 rw [t2A_eq,alB_t]
 constructor
 ·intro h g hg k hk
  have:=h g hg
  rw [t2G_eq,alB_t] at this
  exact t2K_t.1 (this k hk)
 ·intro h g hg
  rw [t2G_eq,alB_t]
  exact fun k hk=>t2K_t.2 (h g hg k hk)
theorem t1_mono {w b : Wx} (hW : WxOK w) {o : Int} (o0 : 0 <= o) (o1 : o <= 1048576) (h0 : t1A w b 0 = true) : Mono (t1A w b) o:=by
 refine ⟨o0,h0,fun i j i0 ij hj ht=>t1A_t.2 fun g hg k hk=>?_⟩
 have hs:=hW.s g hg
 have K:=shOK hs.1 hs.2 (i:=i) (by omega) (by omega)
 have L:=shOK hs.1 hs.2 (i:=j) (by omega) (by omega)
 have:=shO_mono hs.1 K L ij hk
 rw [<- swO_eq,<- swO_eq] at this
 have:=t1A_t.1 ht g hg k hk
 omega
def BdOK (w b : Wx) : Prop:=b.n = w.n /\ ∀ g,g < w.n -> b.m g = w.m g
@[reducible] def tCap : List Sh:=[.ptr [.ptr wirCells],.ptr [bnds2]]
def t1S : Spec [.int .i64,.fn 54 [] [],.ptr [.ptr wirCells],.ptr [bnds2]]:=⟨fun ((i : Int),_,((_,_,w,_),_),(b,_),_)=>WxOK (wxOf w) /\ BdOK (wxOf w) (wxOf b) /\ -1048576 <= i /\ i <= 1048576,fun ((i : Int),_,((_,_,w,_),_),(b,_),_)=>.sb (t1A (wxOf w) (wxOf b) i)⟩
def t2S : Spec [.int .i64,.fn 55 [] [],.ptr [.ptr wirCells],.ptr [bnds2]]:=⟨fun ((i : Int),_,((_,_,w,_),_),(b,_),_)=>WxOK (wxOf w) /\ BdOK (wxOf w) (wxOf b) /\ -1048576 <= i /\ i <= 1048576,fun ((i : Int),_,((_,_,w,_),_),(b,_),_)=>.sb (t2A (wxOf w) (wxOf b) i)⟩
def t1I : DatL [.int .i64,.fn 54 [] [],.ptr [.ptr wirCells],.ptr [bnds2]] -> Anns:=fun ((i : Int),_,((_,_,w,_),_),(b,_),_)=>[
 (3,[],fun fr hp=>⟨Nat,fun g=>⟨frI [.k 10,.t 4,.k 9,.s (.si .i64 (icast g)),.t 24] fr,hp⟩,Nat × Wx × (Nat -> Bool),fun g=>(g,wxOf w,t1G (wxOf w) (wxOf b) i),fun (g,w,p)=>g <= w.n /\ ∀ j,j < g -> p j = true,fun g=>nsub 17 g⟩),
 (6,[],fun fr hp=>⟨Nat,fun k=>⟨frI [.k 12,.t 2,.k 16,.s (.si .i64 (icast k)),.t 17] fr,hp⟩,Nat × Nat × Wx × (Nat -> Bool),fun k=>(k,nat (intOf (getL fr 10)),wxOf w,t1K (wxOf w) (wxOf b) i (nat (intOf (getL fr 10)))),fun (k,g,w,p)=>k <= w.m g /\ ∀ j,j < k -> p j = true,fun k=>nsub 5 k⟩)]
def t2I : DatL [.int .i64,.fn 55 [] [],.ptr [.ptr wirCells],.ptr [bnds2]] -> Anns:=fun ((i : Int),_,((_,_,w,_),_),(b,_),_)=>[
 (3,[],fun fr hp=>⟨Nat,fun g=>⟨frI [.k 10,.t 4,.k 9,.s (.si .i64 (icast g)),.t 24] fr,hp⟩,Nat × Wx × (Nat -> Bool),fun g=>(g,wxOf w,t2G (wxOf w) (wxOf b) i),fun (g,w,p)=>g <= w.n /\ ∀ j,j < g -> p j = true,fun g=>nsub 17 g⟩),
 (6,[],fun fr hp=>⟨Nat,fun k=>⟨frI [.k 12,.t 2,.k 16,.s (.si .i64 (icast k)),.t 17] fr,hp⟩,Nat × Nat × Wx × (Nat -> Bool),fun k=>(k,nat (intOf (getL fr 10)),wxOf w,t2K (wxOf w) (wxOf b) i (nat (intOf (getL fr 10)))),fun (k,g,w,p)=>k <= w.m g /\ ∀ j,j < k -> p j = true,fun k=>nsub 5 k⟩)]
set_option maxRecDepth 100000 in
set_option maxHeartbeats 2000000 in
theorem t1_ok : FnSpec Tryz.prog 51 _ t1S:=by
 refine FnSpec.of HK0_ok mixed (U:=0) (I:=t1I) Tryz.func51 rfl (by kernel_rfl) rfl rfl (by decide +kernel) ?_
 rintro ⟨(i : Int),y,⟨⟨gr,sx,w,⟨⟩⟩,⟨⟩⟩,⟨b,⟨⟩⟩,⟨⟩⟩ hpre
 obtain ⟨w,rfl⟩:=wx_ex w
 obtain ⟨b,rfl⟩:=wx_ex b
 obtain ⟨hW,⟨hn,hm⟩,i1,i2⟩ : WxOK w /\ BdOK w b /\ -1048576 <= i /\ i <= 1048576:=by have : WxOK (wxOf (wxD w)) /\ BdOK (wxOf (wxD w)) (wxOf (wxD b)) /\ -1048576 <= i /\ i <= 1048576:=hpre; rwa [wxOf_D,wxOf_D] at this
 unfold FnSat
 conv=>arg 2; reduce
 simp [-Bool.forall_bool,t1S,swS,w1S,ElEq,getB,goneB,aliveB,and_assoc]
 have hK : ∀ g k,wl1 (swO w i g k) (b.r g k) = t1K w b i g k:=fun g k=>by unfold t1K; rfl
 simp only [hK]
 refine ⟨hW,i1,i2,⟨0,rfl,by omega,fun j hj=>by omega⟩,fun g hg hall=>⟨fun hlt=>?_,fun hge=>by rw [t1A_eq]; exact alB_t.2 fun j hj=>hall j (by omega)⟩⟩
 have hs:=hW.s g hlt
 have h4:=hs.1.n4
 have hmg:=hm g hlt
 have n16:=hW.n
 have hG:=t1G_eq w b i g
 refine ⟨hlt,⟨0,rfl,by omega,fun j hj=>by omega⟩,fun k hk hal2=>⟨fun hkl=>⟨hkl,by omega,by omega,fun hf=>?_,fun ht=>⟨by omega,by omega,k + 1,by omega,by omega,fun j hj=>?_,by omega⟩⟩,fun hkg=>⟨by omega,by omega,g + 1,by omega,by omega,fun j hj=>?_,by omega⟩⟩⟩
 ·rw [alB_f hkl hf] at hG
  rw [t1A_eq]
  exact alB_f hlt hG
 ·by_cases e : j = k
  ·subst e; exact ht
  ·exact hal2 j (by omega)
 ·by_cases e : j = g
  ·subst e
   rw [hG]
   exact alB_t.2 fun k hk=>hal2 k (by omega)
  ·exact hall j (by omega)
set_option maxRecDepth 100000 in
set_option maxHeartbeats 2000000 in
theorem t2_ok : FnSpec Tryz.prog 51 _ t2S:=by
 refine FnSpec.of HK0_ok mixed (U:=0) (I:=t2I) Tryz.func51 rfl (by kernel_rfl) rfl rfl (by decide +kernel) ?_
 rintro ⟨(i : Int),y,⟨⟨gr,sx,w,⟨⟩⟩,⟨⟩⟩,⟨b,⟨⟩⟩,⟨⟩⟩ hpre
 obtain ⟨w,rfl⟩:=wx_ex w
 obtain ⟨b,rfl⟩:=wx_ex b
 obtain ⟨hW,⟨hn,hm⟩,i1,i2⟩ : WxOK w /\ BdOK w b /\ -1048576 <= i /\ i <= 1048576:=by have : WxOK (wxOf (wxD w)) /\ BdOK (wxOf (wxD w)) (wxOf (wxD b)) /\ -1048576 <= i /\ i <= 1048576:=hpre; rwa [wxOf_D,wxOf_D] at this
 unfold FnSat
 conv=>arg 2; reduce
 simp [-Bool.forall_bool,t2S,swS,w2S,ElEq,getB,goneB,aliveB,and_assoc]
 have hK : ∀ g k,wl2 (swO w i g k) (b.a g k) = t2K w b i g k:=fun g k=>by unfold t2K; rfl
 simp only [hK]
 refine ⟨hW,i1,i2,⟨0,rfl,by omega,fun j hj=>by omega⟩,fun g hg hall=>⟨fun hlt=>?_,fun hge=>by rw [t2A_eq]; exact alB_t.2 fun j hj=>hall j (by omega)⟩⟩
 have hs:=hW.s g hlt
 have h4:=hs.1.n4
 have hmg:=hm g hlt
 have n16:=hW.n
 have hG:=t2G_eq w b i g
 refine ⟨hlt,⟨0,rfl,by omega,fun j hj=>by omega⟩,fun k hk hal2=>⟨fun hkl=>⟨hkl,by omega,by omega,fun hf=>?_,fun ht=>⟨by omega,by omega,k + 1,by omega,by omega,fun j hj=>?_,by omega⟩⟩,fun hkg=>⟨by omega,by omega,g + 1,by omega,by omega,fun j hj=>?_,by omega⟩⟩⟩
 ·rw [alB_f hkl hf] at hG
  rw [t2A_eq]
  exact alB_f hlt hG
 ·by_cases e : j = k
  ·subst e; exact ht
  ·exact hal2 j (by omega)
 ·by_cases e : j = g
  ·subst e
   rw [hG]
   exact alB_t.2 fun k hk=>hal2 k (by omega)
  ·exact hall j (by omega)
noncomputable def HK1 : Sums:=⟨(51,(altSum (mkSum _ t1S) (mkSum _ t2S))) :: HK0.one,HK0.two,HK0.lo,HK0.eqs,HK0.its,HK0.imm⟩
theorem HK1_ok : SumsOK Tryz.prog HK1:=(HK0_ok.add Tryz.func51 (by kernel_rfl) (by kernel_rfl) (altSum_ok (mkSum_ok t1_ok) (mkSum_ok t2_ok)))
@[reducible] def tstSh : Sh:=.fn 51 [] tCap
def m2S : Spec [.int .i64,.ptr limCells,.ptr [tstSh]]:=⟨fun ((i : Int),((_ : Int),(_ : Int),(o : Int),_),((_,((_,_,w,_),_),(b,_),_),_),_)=>WxOK (wxOf w) /\ BdOK (wxOf w) (wxOf b) /\ 0 <= i /\ o <= 1048576,fun ((i : Int),((_ : Int),(_ : Int),(o : Int),_),((_,((_,_,w,_),_),(b,_),_),_),_)=>.sb (bor (ilt o i) (bnot (t1A (wxOf w) (wxOf b) i)))⟩
set_option maxRecDepth 100000 in
set_option maxHeartbeats 2000000 in
theorem m2_ok : FnSpec Tryz.prog 53 _ m2S:=by
 refine FnSpec.of HK1_ok mixed (U:=0) (I:=fun _=>[]) Tryz.func53 rfl (by kernel_rfl) rfl rfl (by decide +kernel) ?_
 rintro ⟨(i : Int),⟨(l : Int),(m : Int),(o : Int),(n : Int),(h : Int),⟨⟩⟩,⟨⟨y,⟨⟨gr,sx,w,⟨⟩⟩,⟨⟩⟩,⟨b,⟨⟩⟩,⟨⟩⟩,⟨⟩⟩,⟨⟩⟩ hpre
 obtain ⟨w,rfl⟩:=wx_ex w
 obtain ⟨b,rfl⟩:=wx_ex b
 obtain ⟨hW,hB,i0,o1⟩ : WxOK w /\ BdOK w b /\ 0 <= i /\ o <= 1048576:=by have : WxOK (wxOf (wxD w)) /\ BdOK (wxOf (wxD w)) (wxOf (wxD b)) /\ 0 <= i /\ o <= 1048576:=hpre; rwa [wxOf_D,wxOf_D] at this
 unfold FnSat
 conv=>arg 2; reduce
 simp [-Bool.forall_bool,m2S,t1S,and_assoc]
 exact fun h=>⟨hW,hB,by omega,by omega⟩
noncomputable def HK2 : Sums:=⟨(53,mkSum _ m2S) :: HK1.one,HK1.two,HK1.lo,HK1.eqs,HK1.its,HK1.imm⟩
theorem HK2_ok : SumsOK Tryz.prog HK2:=(HK1_ok.cons Tryz.func53 (by kernel_rfl) (by kernel_rfl) m2_ok)
@[irreducible] def hgV (w b : Wx) (o : Int) : Int:=if t1A w b 0 = true then grI (t1A w b) o + 1 else 0
theorem hg_in {w b : Wx} (hW : WxOK w) {o : Int} (o0 : 0 <= o) (o1 : o <= 1048576) : 0 <= hgV w b o /\ hgV w b o <= o + 1:=by
 unfold hgV
 split
 ·rename_i h
  have:=grI_spec (t1_mono (b:=b) hW o0 o1 h)
  omega
 ·omega
theorem hg_iff {w b : Wx} (hW : WxOK w) {o x : Int} (o0 : 0 <= o) (o1 : o <= 1048576) (x0 : 0 <= x) : (o < x \/ t1A w b x = false) ↔ hgV w b o <= x:=by
 unfold hgV
 split
 ·rename_i h
  have M:=t1_mono (b:=b) hW o0 o1 h
  obtain ⟨g0,g1,g2,g3⟩:=grI_spec M
  constructor
  ·rintro (hx | hx)
   ·omega
   ·apply Classical.byContradiction
    intro hn
    rw [M.dn x _ x0 (by omega) g1 g2] at hx; cases hx
  ·intro hx
   by_cases ho : o < x
   ·exact .inl ho
   ·exact .inr (g3 x (by omega) (by omega))
 ·rename_i h
  have h : t1A w b 0 = false:=by simpa using h
  constructor
  ·intro _; exact x0
  ·intro _
   by_cases ho : o < x
   ·exact .inl ho
   ·refine .inr ?_
    cases ht : t1A w b x with
    | false=>rfl
    | true =>
      have : t1A w b 0 = true:=t1A_t.2 fun g hg k hk=>by
       have hs:=hW.s g hg
       have K:=shOK hs.1 hs.2 (i:=0) (by omega) (by omega)
       have L:=shOK hs.1 hs.2 (i:=x) (by omega) (by omega)
       have:=shO_mono hs.1 K L x0 hk
       rw [<- swO_eq,<- swO_eq] at this
       have:=t1A_t.1 ht g hg k hk
       omega
      rw [h] at this; cases this
@[reducible] def ls2Sh : Sh:=.fn 53 [] [.ptr limCells,.ptr [tstSh]]
def ls2S : Spec [.int .i64,.int .i64,ls2Sh]:=⟨fun ((lo : Int),(hi : Int),(_,((_ : Int),(_ : Int),(o : Int),_),((_,((_,_,w,_),_),(b,_),_),_),_),_)=>WxOK (wxOf w) /\ BdOK (wxOf w) (wxOf b) /\ lo = 0 /\ hi = o + 1 /\ 0 <= o /\ o <= 1048576,fun (_,_,(_,((_ : Int),(_ : Int),(o : Int),_),((_,((_,_,w,_),_),(b,_),_),_),_),_)=>.si .i64 (hgV (wxOf w) (wxOf b) o)⟩
def ls2I : DatL [.int .i64,.int .i64,ls2Sh] -> Anns:=fun (_,_,(_,((_ : Int),(_ : Int),(o : Int),_),((_,((_,_,w,_),_),(b,_),_),_),_),_)=>[
 (1,[],fun fr hp=>⟨Int × Int,fun g=>⟨frI [.s (.si .i64 g.1),.s (.si .i64 g.2),.k 5,.t 17] fr,hp⟩,Int × Int × Int × Int,fun g=>(g.1,g.2,hgV (wxOf w) (wxOf b) o,o),fun ((l : Int),(h : Int),(v : Int),(o : Int))=>l <= v /\ v <= h /\ 0 <= l /\ h <= o + 1,fun g=>nat (isub g.2 g.1)⟩)]
set_option maxRecDepth 100000 in
set_option maxHeartbeats 2000000 in
theorem ls2_ok : FnSpec Tryz.prog 52 _ ls2S:=by
 refine FnSpec.of HK2_ok mixed (U:=0) (I:=ls2I) Tryz.func52 rfl (by kernel_rfl) rfl rfl (by decide +kernel) ?_
 rintro ⟨(lo : Int),(hi : Int),⟨z,⟨(l : Int),(m : Int),(o : Int),(n : Int),(h : Int),⟨⟩⟩,⟨⟨y,⟨⟨gr,sx,w,⟨⟩⟩,⟨⟩⟩,⟨b,⟨⟩⟩,⟨⟩⟩,⟨⟩⟩,⟨⟩⟩,⟨⟩⟩ hpre
 obtain ⟨w,rfl⟩:=wx_ex w
 obtain ⟨b,rfl⟩:=wx_ex b
 obtain ⟨hW,hB,e1,e2,o0,o1⟩ : WxOK w /\ BdOK w b /\ lo = 0 /\ hi = o + 1 /\ 0 <= o /\ o <= 1048576:=by have : WxOK (wxOf (wxD w)) /\ BdOK (wxOf (wxD w)) (wxOf (wxD b)) /\ lo = 0 /\ hi = o + 1 /\ 0 <= o /\ o <= 1048576:=hpre; rwa [wxOf_D,wxOf_D] at this
 unfold FnSat
 conv=>arg 2; reduce
 simp [-Bool.forall_bool,ls2S,m2S,and_assoc]
 have hin:=hg_in (b:=b) hW o0 o1
 have hif:=fun x x0=>hg_iff (b:=b) (x:=x) hW o0 o1 x0
 have hsh : ∀ x : Int,ishr x 1 = x / 2:=fun x=>by unfold ishr; exact Int.fdiv_eq_ediv_of_nonneg x (by decide)
 simp only [hsh]
 generalize hgV w b o = V at *
 refine ⟨by omega,by omega,by omega,by omega,fun l u a1 a2 a3 a4=>⟨fun hlt=>⟨by omega,by omega,by decide,by omega,by omega,hW,hB,by omega,o1,fun hy=>?_,fun n1 n2=>?_⟩,fun hge=>by omega⟩⟩
 ·have:=(hif _ (by omega)).1 hy
  exact ⟨a1,this,a3,by omega,by omega⟩
 ·have : ¬ V <= l + (u - l) / 2:=fun hh=>by
   rcases (hif _ (by omega)).2 hh with h1 | h1
   ·omega
   ·rw [n2] at h1; cases h1
  exact ⟨by omega,by omega,by omega,a2,by omega,a4,by omega⟩
noncomputable def HK3 : Sums:=⟨(52,mkSum _ ls2S) :: HK2.one,HK2.two,HK2.lo,HK2.eqs,HK2.its,HK2.imm⟩
theorem HK3_ok : SumsOK Tryz.prog HK3:=(HK2_ok.cons Tryz.func52 (by kernel_rfl) (by kernel_rfl) ls2_ok)
@[irreducible] def bOf (p : Pk) (s : Sx) (l m h a : Int) : Wx:=⟨p.len,p.sz,psL p s l m h a,psH p s l h a⟩
@[simp] theorem bOf_n (p : Pk) (s : Sx) (l m h a : Int) : (bOf p s l m h a).n = p.len:=by unfold bOf Wx.n; rfl
@[simp] theorem bOf_m (p : Pk) (s : Sx) (l m h a : Int) : (bOf p s l m h a).m = p.sz:=by unfold bOf Wx.m; rfl
@[simp] theorem bOf_a (p : Pk) (s : Sx) (l m h a : Int) : (bOf p s l m h a).a = psL p s l m h a:=by unfold bOf Wx.a; rfl
@[simp] theorem bOf_r (p : Pk) (s : Sx) (l m h a : Int) : (bOf p s l m h a).r = psH p s l h a:=by unfold bOf Wx.r; rfl
@[simp] theorem wx_bnd (p : Pk) (s : Sx) (l m h a : Int) : wxOf (p.len,fun i=>((p.sz i,fun k=>(psL p s l m h a i k,psH p s l h a i k,())),())) = bOf p s l m h a:=by
 unfold wxOf bOf; rfl
theorem bdO_ok (p : Pk) (s : Sx) (l m h a : Int) : BdOK (wOf p s) (bOf p s l m h a):=⟨by rw [bOf_n,wOf_n],fun g _=>by rw [bOf_m,wOf_m]⟩
@[irreducible] def mxE (p : Pk) (s : Sx) (l m o n h a : Int) : Int:=if ssE p s = 0 then (if limB l m o n h = true then (if a < 0 \/ 400000 < a then 3 else if t1A (wOf p s) (bOf p s l m h a) 0 = true /\ t2A (wOf p s) (bOf p s l m h a) (grI (t1A (wOf p s) (bOf p s l m h a)) o) = true then 0 else 17) else 2) else ssE p s
theorem mxE_e {p : Pk} {s : Sx} {l m o n h a : Int} (h0 : ssE p s ≠ 0) : mxE p s l m o n h a = ssE p s:=by unfold mxE; rw [if_neg h0]
theorem mxE_2 {p : Pk} {s : Sx} {l m o n h a : Int} (h0 : ssE p s = 0) (hb : limB l m o n h = false) : mxE p s l m o n h a = 2:=by unfold mxE; rw [if_pos h0,hb]; rfl
theorem mxE_3 {p : Pk} {s : Sx} {l m o n h a : Int} (h0 : ssE p s = 0) (hb : limB l m o n h = true) (ha : a < 0 \/ 400000 < a) : mxE p s l m o n h a = 3:=by unfold mxE; rw [if_pos h0,if_pos hb,if_pos ha]
theorem mxE_n {p : Pk} {s : Sx} {l m o n h a : Int} (h0 : ssE p s = 0) (hb : limB l m o n h = true) (ha : ¬ (a < 0 \/ 400000 < a)) : mxE p s l m o n h a = if t1A (wOf p s) (bOf p s l m h a) 0 = true /\ t2A (wOf p s) (bOf p s l m h a) (grI (t1A (wOf p s) (bOf p s l m h a)) o) = true then 0 else 17:=by unfold mxE; rw [if_pos h0,if_pos hb,if_neg ha]
@[irreducible] def mxV (p : Pk) (s : Sx) (l m o n h a : Int) : Int:=okI (mxE p s l m o n h a) (grI (t1A (wOf p s) (bOf p s l m h a)) o)
theorem mxV_e {p : Pk} {s : Sx} {l m o n h a : Int} (h0 : mxE p s l m o n h a ≠ 0) : 0 = mxV p s l m o n h a:=by unfold mxV; rw [okI_e h0]
theorem mxV_0 {p : Pk} {s : Sx} {l m o n h a : Int} (h0 : mxE p s l m o n h a = 0) : mxV p s l m o n h a = grI (t1A (wOf p s) (bOf p s l m h a)) o:=by unfold mxV; rw [okI_0 h0]
@[reducible] def mxR : DatL [pkSh,sxSh,limSh,.int .i64] -> AV:=fun (p,s,((l : Int),(m : Int),(o : Int),(n : Int),(h : Int),_),(a : Int),_)=>.tup [.si .i64 (mxV (pkOf p) (sxOf s) l m o n h a),.si .i64 (mxE (pkOf p) (sxOf s) l m o n h a)]
def mxS : Spec [pkSh,sxSh,limSh,.int .i64]:=⟨fun (p,_)=>PkMax (pkOf p),mxR⟩
def mxSe : Spec [pkSh,sxSh,limSh,.int .i64]:=⟨fun (p,s,_)=>PkMax (pkOf p) /\ ssE (pkOf p) (sxOf s) ≠ 0,mxR⟩
def mxSo : Spec [pkSh,sxSh,limSh,.int .i64]:=⟨fun (p,s,_)=>PkMax (pkOf p) /\ ssE (pkOf p) (sxOf s) = 0,mxR⟩
noncomputable def HKe : Sums:=⟨(35,mkSum _ wirS) :: HK3.one,HK3.two,HK3.lo,HK3.eqs,HK3.its,HK3.imm⟩
theorem HKe_ok : SumsOK Tryz.prog HKe:=(HK3_ok.cons Tryz.func35 (by kernel_rfl) (by kernel_rfl) wir_ok)
noncomputable def HKo : Sums:=⟨(35,mkSum _ wirP) :: HK3.one,HK3.two,HK3.lo,HK3.eqs,HK3.its,HK3.imm⟩
theorem HKo_ok : SumsOK Tryz.prog HKo:=(HK3_ok.cons Tryz.func35 (by kernel_rfl) (by kernel_rfl) wirP_ok)
def mxI : DatL [pkSh,sxSh,limSh,.int .i64] -> Anns:=fun _=>[
 (2097152 + 10,[(10,0,0),(13,0,0)],fun _ _=>⟨Unit,fun _=>⟨[],[]⟩,Unit,fun _=>(),fun _=>True,fun _=>0⟩),
 (2097152 + 11,[(14,0,0)],fun _ _=>⟨Unit,fun _=>⟨[],[]⟩,Unit,fun _=>(),fun _=>True,fun _=>0⟩)]
set_option maxRecDepth 100000 in
set_option maxHeartbeats 2000000 in
theorem mx_e : FnSpec Tryz.prog 23 _ mxSe:=by
 refine FnSpec.of HKe_ok mixed (U:=0) (I:=mxI) Tryz.func23 rfl (by kernel_rfl) rfl rfl (by decide +kernel) ?_
 rintro ⟨p,s,⟨(l : Int),(m : Int),(o : Int),(n : Int),(h : Int),⟨⟩⟩,(a : Int),⟨⟩⟩ hpre
 obtain ⟨p,rfl⟩:=pk_ex p
 obtain ⟨s,rfl⟩:=sx_ex s
 have hpre : PkMax p /\ ssE p s ≠ 0:=by have : PkMax (pkOf (pkD p)) /\ ssE (pkOf (pkD p)) (sxOf (sxD s)) ≠ 0:=hpre; rwa [pkOf_D,sxOf_D] at this
 unfold FnSat
 conv=>arg 2; reduce
 simp [-Bool.forall_bool,mxSe,wirS,ElEq,getB,goneB,aliveB,and_assoc]
 obtain ⟨hP,h0⟩:=hpre
 exact ⟨hP,h0,fun _=>⟨mxV_e (by rw [mxE_e h0]; exact h0),(mxE_e h0).symm⟩,fun h=>absurd h h0⟩
set_option maxRecDepth 100000 in
set_option maxHeartbeats 2000000 in
theorem mx_o : FnSpec Tryz.prog 23 _ mxSo:=by
 refine FnSpec.of HKo_ok mixed (U:=0) (I:=mxI) Tryz.func23 rfl (by kernel_rfl) rfl rfl (by decide +kernel) ?_
 rintro ⟨p,s,⟨(l : Int),(m : Int),(o : Int),(n : Int),(h : Int),⟨⟩⟩,(a : Int),⟨⟩⟩ hpre
 obtain ⟨p,rfl⟩:=pk_ex p
 obtain ⟨s,rfl⟩:=sx_ex s
 have hpre : PkMax p /\ ssE p s = 0:=by have : PkMax (pkOf (pkD p)) /\ ssE (pkOf (pkD p)) (sxOf (sxD s)) = 0:=hpre; rwa [pkOf_D,sxOf_D] at this
 unfold FnSat
 conv=>arg 2; reduce
 simp [-Bool.forall_bool,mxSo,wirP,wirX,wirL,limS,wrmS,psfS,ls2S,t2S,ElEq,getB,goneB,aliveB,and_assoc]
 obtain ⟨hP,h0⟩:=hpre
 have S:=ssOK h0
 have hW:=S.w
 refine ⟨hP,h0,fun hb=>?_,fun hb=>⟨fun ha=>?_,fun a0 a1=>?_⟩⟩
 ·have e:=mxE_2 (a:=a) h0 hb
  exact ⟨mxV_e (by rw [e]; decide),by rw [e,hb]; simp [errA]⟩
 ·have e:=mxE_3 h0 hb ha
  exact ⟨mxV_e (by rw [e]; decide),e.symm⟩
 have hl:=limB_iff.1 hb
 have hE:=mxE_n h0 hb (show ¬ (a < 0 \/ 400000 < a) by omega)
 have hV:=@mxV_0 p s l m o n h a
 have hVe:=@mxV_e p s l m o n h a
 have hin:=hg_in (b:=bOf p s l m h a) hW (o:=o) (by omega) (by omega)
 have hgd : hgV (wOf p s) (bOf p s l m h a) o = if t1A (wOf p s) (bOf p s l m h a) 0 = true then grI (t1A (wOf p s) (bOf p s l m h a)) o + 1 else 0:=by unfold hgV; rfl
 have hgr : t1A (wOf p s) (bOf p s l m h a) 0 = true -> 0 <= grI (t1A (wOf p s) (bOf p s l m h a)) o:=fun ht=>(grI_spec (t1_mono hW (by omega) (by omega) ht)).1
 have hB:=bdO_ok p s l m h a
 generalize bOf p s l m h a = b at *
 generalize hgV (wOf p s) b o = G at *
 refine ⟨S,hb,a0,a1,by omega,by omega,hW,hB,by omega,by omega,fun _=>by omega,fun _=>⟨hW,hB,by omega,by omega⟩,fun hor=>?_,fun hg ht2=>?_⟩
 ·have hn : ¬ (t1A (wOf p s) b 0 = true /\ t2A (wOf p s) b (grI (t1A (wOf p s) b) o) = true):=fun hh=>by
   have:=hgr hh.1
   rw [if_pos hh.1] at hgd
   rcases hor with h1 | h1
   ·omega
   ·rw [show G - 1 = grI (t1A (wOf p s) b) o by omega,hh.2] at h1; cases h1
  rw [if_neg hn] at hE
  exact ⟨hVe (by rw [hE]; decide),hE.symm⟩
 ·have ht1 : t1A (wOf p s) b 0 = true:=by
   cases hh : t1A (wOf p s) b 0 with
   | true=>rfl
   | false=>rw [hh,if_neg Bool.false_ne_true] at hgd; exact absurd hgd hg
  rw [if_pos ht1] at hgd
  rw [show G - 1 = grI (t1A (wOf p s) b) o by omega] at ht2
  rw [if_pos ⟨ht1,ht2⟩] at hE
  exact ⟨by omega,by omega,by rw [hV hE]; omega,hE.symm⟩
theorem mx_ok : FnSpec Tryz.prog 23 _ mxS:=fun x hx=>by
 by_cases h : ssE (pkOf x.1) (sxOf x.2.1) = 0
 ·exact mx_o x ⟨hx,h⟩
 ·exact mx_e x ⟨hx,h⟩
noncomputable def HK4 : Sums:=⟨(23,mkSum _ mxS) :: HK3.one,HK3.two,HK3.lo,HK3.eqs,HK3.its,HK3.imm⟩
theorem HK4_ok : SumsOK Tryz.prog HK4:=(HK3_ok.cons Tryz.func23 (by kernel_rfl) (by kernel_rfl) mx_ok)
@[irreducible] def abV (p : Pk) (s : Sx) (l m h a i : Int) : Bool:=!(t1A (wOf p s) (bOf p s l m h a) i)
theorem abV_t {p : Pk} {s : Sx} {l m h a i : Int} (h' : t1A (wOf p s) (bOf p s l m h a) i = false) : abV p s l m h a i = true:=by unfold abV; rw [h']; rfl
theorem abV_f {p : Pk} {s : Sx} {l m h a i : Int} (h' : t1A (wOf p s) (bOf p s l m h a) i = true) : abV p s l m h a i = false:=by unfold abV; rw [h']; rfl
def abS : Spec [pkSh,sxSh,limSh,.int .i64,.int .i64]:=⟨fun (p,s,_,(a : Int),(i : Int),_)=>ssE (pkOf p) (sxOf s) = 0 /\ 0 <= a /\ a <= 400000 /\ -1048576 <= i /\ i <= 1048576,fun (p,s,((l : Int),(m : Int),(_ : Int),(_ : Int),(h : Int),_),(a : Int),(i : Int),_)=>.sb (abV (pkOf p) (sxOf s) l m h a i)⟩
def abI : DatL [pkSh,sxSh,limSh,.int .i64,.int .i64] -> Anns:=fun (p,s,((l : Int),(m : Int),(_ : Int),(_ : Int),(h : Int),_),(a : Int),(i : Int),_)=>[
 (3,[],fun fr hp=>⟨Nat,fun g=>⟨frI [.k 14,.s (.si .i64 (icast g)),.t 2,.k 8,.t 50] fr,hp⟩,Nat × Pk × (Nat -> Bool),fun g=>(g,pkOf p,t1G (wOf (pkOf p) (sxOf s)) (bOf (pkOf p) (sxOf s) l m h a) i),fun (g,p,b)=>g <= p.len /\ ∀ j,j < g -> b j = true,fun g=>nsub 17 g⟩),
 (6,[],fun fr hp=>⟨Nat,fun k=>⟨frI [.k 15,.s (.si .i64 (icast k)),.t 1,.k 14,.t 44] fr,hp⟩,Nat × Nat × Pk × (Nat -> Bool),fun k=>(k,nat (intOf (getL fr 14)),pkOf p,t1K (wOf (pkOf p) (sxOf s)) (bOf (pkOf p) (sxOf s) l m h a) i (nat (intOf (getL fr 14)))),fun (k,g,p,b)=>k <= p.sz g /\ ∀ j,j < k -> b j = true,fun k=>nsub 5 k⟩)]
set_option maxRecDepth 100000 in
set_option maxHeartbeats 2000000 in
theorem rab_ok : FnSpec Tryz.prog 56 _ abS:=by
 refine FnSpec.of HK4_ok mixed (U:=0) (I:=abI) Tryz.func56 rfl (by kernel_rfl) rfl rfl (by decide +kernel) ?_
 rintro ⟨p,s,⟨(l : Int),(m : Int),(o : Int),(n : Int),(h : Int),⟨⟩⟩,(a : Int),(i : Int),⟨⟩⟩ hpre
 obtain ⟨p,rfl⟩:=pk_ex p
 obtain ⟨s,rfl⟩:=sx_ex s
 obtain ⟨h0,a0,a1,i1,i2⟩ : ssE p s = 0 /\ 0 <= a /\ a <= 400000 /\ -1048576 <= i /\ i <= 1048576:=by have : ssE (pkOf (pkD p)) (sxOf (sxD s)) = 0 /\ 0 <= a /\ a <= 400000 /\ -1048576 <= i /\ i <= 1048576:=hpre; rwa [pkOf_D,sxOf_D] at this
 unfold FnSat
 conv=>arg 2; reduce
 simp [-Bool.forall_bool,abS,rsxS,routS,ElEq,getB,goneB,aliveB,and_assoc]
 have S:=ssOK h0
 have n16:=S.n
 have hl:=S.l
 have hA:=t1A_eq (wOf p s) (bOf p s l m h a) i
 rw [wOf_n] at hA
 refine ⟨h0,i1,i2,⟨0,rfl,by omega,fun j hj=>by omega⟩,fun g hg hall=>⟨fun hlt=>?_,fun hge=>abV_f (by rw [hA]; exact alB_t.2 fun j hj=>hall j (by omega))⟩⟩
 have hm:=S.m g (by omega)
 have hG:=t1G_eq (wOf p s) (bOf p s l m h a) i g
 rw [wOf_m] at hG
 refine ⟨⟨0,rfl,by omega,fun j hj=>by omega⟩,fun k hk hal2=>⟨hlt,fun hkl=>?_,fun hkg=>⟨by omega,by omega,g + 1,by omega,by omega,fun j hj=>?_,by omega⟩⟩⟩
 ·have hc:=S.c g (by omega) k (by omega)
  have hK : t1K (wOf p s) (bOf p s l m h a) i g k = true ↔ (swO (wOf p s) i g k <= 1048576 /\ (0 <= swO (wOf p s) i g k -> outP (p.at g k) (s.at g k) l h a (swO (wOf p s) i g k) = true)):=by
   rw [t1K_t,bOf_r,psH_eq]
   constructor
   ·intro hx
    exact ⟨by omega,(bdH_iff hc.1 (by omega)).1 (by omega)⟩
   ·rintro ⟨x1,x2⟩
    have:=(bdH_iff hc.1 x1).2 x2
    omega
  generalize swO (wOf p s) i g k = x at *
  refine ⟨by omega,by omega,fun _ _=>by omega,fun _ _=>by omega,fun _ _=>hlt,fun _ _=>hkl,fun x1 x0=>⟨csE_iff.2 hc,a0,a1,x0,x1⟩,fun x1 x0=>⟨x1,x0⟩,fun hx=>?_,fun x1 x2=>⟨by omega,by omega,k + 1,by omega,by omega,fun j hj=>?_,by omega⟩⟩
  ·have hf : t1K (wOf p s) (bOf p s l m h a) i g k = false:=by
    cases hh : t1K (wOf p s) (bOf p s l m h a) i g k with
    | false=>rfl
    | true =>
      have hq:=hK.1 hh
      rcases hx with hx | ⟨x0,hx⟩
      ·omega
      ·rw [hq.2 x0] at hx; cases hx
   rw [alB_f (by omega) hf] at hG
   refine abV_t ?_
   rw [hA]
   exact alB_f (show g < p.len by omega) hG
  ·by_cases e : j = k
   ·subst e; exact hK.2 ⟨x1,x2⟩
   ·exact hal2 j (by omega)
 ·by_cases e : j = g
  ·subst e
   rw [hG]
   exact alB_t.2 fun k hk=>hal2 k (by omega)
  ·exact hall j (by omega)
noncomputable def HK5 : Sums:=⟨(56,mkSum _ abS) :: HK4.one,HK4.two,HK4.lo,HK4.eqs,HK4.its,HK4.imm⟩
theorem HK5_ok : SumsOK Tryz.prog HK5:=(HK4_ok.cons Tryz.func56 (by kernel_rfl) (by kernel_rfl) rab_ok)
theorem gok_of {w : Wx} {i : Int} : ∀ {n : Nat},(∀ g,g < n -> ∀ k,k < w.m g -> -1048576 <= swO w i g k /\ swO w i g k <= 1048576) -> gokA w i n = true
 | 0,_=>gokA_0 w i
 | n + 1,h=>by
   rw [gokA_s,gok_of fun g hg=>h g (by omega),pfB_t.2 (h n (by omega))]; rfl
theorem rsf_t2 {p : Pk} {s : Sx} {l m o n h a x : Int} (S : SsOK p s) (h1 : t1A (wOf p s) (bOf p s l m h a) x = true) (x0 : 0 <= x) (x1 : x <= o) (hn : 0 <= n) : rsfV p s l m o n h a x = true ↔ t2A (wOf p s) (bOf p s l m h a) x = true:=by
 have h1:=t1A_t.1 h1
 rw [wOf_n,wOf_m,bOf_r] at h1
 constructor
 ·intro hr
  have hok : gokA (wOf p s) x p.len = true:=by
   cases hh : gokA (wOf p s) x p.len with
   | true=>rfl
   | false=>rw [rsfV_2 hh] at hr; cases hr
  rw [rsfV_3 (by omega) x1 hok,alB_t] at hr
  refine t2A_t.2 fun g hg k hk=>?_
  rw [wOf_n] at hg
  rw [wOf_m] at hk
  have hx:=gok_t hok g hg k (by rw [wOf_m]; exact hk)
  have hA:=hr g hg
  rw [cgA_eq,alB_t] at hA
  have hB:=hA k hk
  rw [cgB_eq] at hB
  have:=(bd_iff (S.c g hg k hk).1 hx.1 hx.2).2 hB
  rw [bOf_a,psL_eq]
  omega
 ·intro ht
  have ht:=t2A_t.1 ht
  rw [wOf_n,wOf_m,bOf_a] at ht
  have hx : ∀ g,g < p.len -> ∀ k,k < p.sz g -> -1048576 <= swO (wOf p s) x g k /\ swO (wOf p s) x g k <= 1048576:=fun g hg k hk=>by
   have:=h1 g hg k hk
   have:=ht g hg k hk
   omega
  have hok : gokA (wOf p s) x p.len = true:=gok_of fun g hg k hk=>hx g hg k (by rw [wOf_m] at hk; exact hk)
  rw [rsfV_3 (by omega) x1 hok,alB_t]
  intro g hg
  rw [cgA_eq,alB_t]
  intro k hk
  rw [cgB_eq]
  have a1:=h1 g hg k hk
  have a2:=ht g hg k hk
  rw [psH_eq] at a1
  rw [psL_eq] at a2
  have hq:=hx g hg k hk
  exact (bd_iff (S.c g hg k hk).1 hq.1 hq.2).1 ⟨by omega,by omega⟩
def rmxI : DatL [pkSh,sxSh,limSh,.int .i64] -> Anns:=fun (p,s,((l : Int),(m : Int),(o : Int),(_ : Int),(h : Int),_),(a : Int),_)=>[
 (11,[],fun fr hp=>⟨Nat × Int,fun (e,x)=>⟨frI [.k 10,.s (.si .i64 x),.s (.si .i64 (stp e)),.k 23,.t 33] fr,hp⟩,(Int -> Bool) × Int × Nat × Int,fun (e,x)=>(t1A (wOf (pkOf p) (sxOf s)) (bOf (pkOf p) (sxOf s) l m h a),o,e,x),fun (p,most,e,x)=>HvInv p most e x,fun (e,_)=>e⟩)]
set_option maxRecDepth 100000 in
set_option maxHeartbeats 2000000 in
theorem rmx_ok : FnSpec Tryz.prog 24 _ mxS:=by
 refine FnSpec.of HK5_ok mixed (U:=0) (I:=rmxI) Tryz.func24 rfl (by kernel_rfl) rfl rfl (by decide +kernel) ?_
 rintro ⟨p,s,⟨(l : Int),(m : Int),(o : Int),(n : Int),(h : Int),⟨⟩⟩,(a : Int),⟨⟩⟩ hpre
 obtain ⟨p,rfl⟩:=pk_ex p
 obtain ⟨s,rfl⟩:=sx_ex s
 have hP : PkMax p:=by have : PkMax (pkOf (pkD p)):=hpre; rwa [pkOf_D] at this
 unfold FnSat
 conv=>arg 2; reduce
 simp [-Bool.forall_bool,mxS,scsS,limS,abS,rsfS,ElEq,getB,goneB,aliveB,and_assoc]
 refine ⟨hP,fun h0=>⟨hP,mxV_e (by rw [mxE_e h0]; exact h0),(mxE_e h0).symm⟩,fun h0=>⟨fun hb=>?_,fun hb=>⟨fun ha=>?_,fun a0 a1=>?_⟩⟩⟩
 ·have e:=mxE_2 (a:=a) h0 hb
  exact ⟨mxV_e (by rw [e]; decide),by rw [e,hb]; simp [errA]⟩
 ·have e:=mxE_3 h0 hb ha
  exact ⟨mxV_e (by rw [e]; decide),e.symm⟩
 have S:=ssOK h0
 have hW:=S.w
 have hl:=limB_iff.1 hb
 have hE:=mxE_n h0 hb (show ¬ (a < 0 \/ 400000 < a) by omega)
 have hab : ∀ i,abV p s l m h a i = !(t1A (wOf p s) (bOf p s l m h a) i):=fun i=>by unfold abV; rfl
 refine ⟨h0,a0,a1,fun ht=>?_,fun hf=>?_⟩
 ·have h1 : t1A (wOf p s) (bOf p s l m h a) 0 = false:=by rw [hab] at ht; simpa using ht
  rw [h1,if_neg (fun hh=>Bool.false_ne_true hh.1)] at hE
  exact ⟨mxV_e (by rw [hE]; decide),hE.symm⟩
 have ht1 : t1A (wOf p s) (bOf p s l m h a) 0 = true:=by rw [hab] at hf; simpa using hf
 have hM : Mono (t1A (wOf p s) (bOf p s l m h a)) o:=t1_mono hW (by omega) (by omega) ht1
 refine ⟨⟨21,by unfold stp p2; rfl,hv_0 hM (by omega)⟩,fun e x hv=>⟨fun hs=>?_,fun hs=>?_⟩⟩
 ·obtain ⟨d,rfl⟩:=stp_ex hs
  have sb:=stp_b hv.e1
  have sh:=stp_half d
  have sb2:=stp_b (e:=d) (by have:=hv.e1; omega)
  have xa:=hv.a
  have xb:=hv.b
  refine ⟨by omega,by omega,fun _=>by omega,fun hx=>⟨h0,a0,a1,by omega,by omega⟩,fun hx hq=>⟨by omega,by omega,by omega,by omega,d,sh,hv_up hv hx ?_,by omega⟩,fun hx=>⟨by omega,by omega,d,sh,hv_dn hv hM ?_,by omega⟩⟩
  ·rw [hab] at hq; simpa using hq
  ·rcases Int.lt_or_le o (x + stp (d + 1)) with hl | hl
   ·exact .inl hl
   ·have:=hx hl
    rw [hab] at this
    exact .inr (by simpa using this)
 ·obtain ⟨hx,_⟩:=hv_fin hv hM hs
  have hg : x = grI (t1A (wOf p s) (bOf p s l m h a)) o:=by rw [hx]; unfold grV; rw [if_pos ht1]
  have hxa:=hv.a
  have hxb:=hv.b
  have hxc:=hv.c
  have hI:=rsf_t2 (n:=n) (o:=o) S hxc (by omega) hxb (by omega)
  refine ⟨h0,hb,a0,a1,fun hf=>?_,fun ht=>?_⟩
  ·have hn : ¬ (t1A (wOf p s) (bOf p s l m h a) 0 = true /\ t2A (wOf p s) (bOf p s l m h a) (grI (t1A (wOf p s) (bOf p s l m h a)) o) = true):=fun hh=>by
    rw [<- hg] at hh
    rw [hI.2 hh.2] at hf; cases hf
   rw [if_neg hn] at hE
   exact ⟨mxV_e (by rw [hE]; decide),hE.symm⟩
  ·rw [if_pos ⟨ht1,by rw [<- hg]; exact hI.1 ht⟩] at hE
   exact ⟨by rw [mxV_0 hE]; exact hg,hE.symm⟩
noncomputable def HK6 : Sums:=⟨(24,mkSum _ mxS) :: HK5.one,HK5.two,HK5.lo,HK5.eqs,HK5.its,HK5.imm⟩
theorem HK6_ok : SumsOK Tryz.prog HK6:=(HK5_ok.cons Tryz.func24 (by kernel_rfl) (by kernel_rfl) rmx_ok)
end
end Abs
end Go.Proofs.YtlacopdaibhkkaaGreat
