/- A part of the proof: no statement of its own. -/
import Derived.Test.YtccgngldoinokaaGreatQGca4bc436
set_option linter.unusedSimpArgs false
set_option linter.unusedVariables false
namespace Go.Proofs.YtccgngldoinokaaGreat
namespace Abs
open Go Go.RowKit
inductive OB where
 | cells (t:TypeId) (l:List Sh)
 | row (e:TypeId) (sz:Nat) (l:List Sh)
 | tab (sz:Nat) (l:List Sh)
@[reducible]def m_:OB->Type
 | .cells _ l=>Ad l
 | .row _ _ l=>Nat × (Nat->Ad l)
 | .tab _ l=>Nat × (Nat->Ad l)
@[reducible]def L0:List OB->Type
 | []=>Unit
 | b::l=>m_ b × L0 l
def Ed:(b:OB)->m_ b->Blk
 | .cells t l,x=>.cells t (Ab l x)
 | .row e sz l,x=>.row e sz (.sym x.1) (fun k=>Ab l (x.2 k))
 | .tab sz l,x=>.tab (.sym x.1) sz (fun k=>Ab l (x.2 k))
def Dh:(l:List OB)->L0 l->A0
 | [],_=>[]
 | b::l,x=>Ed b x.1::Dh l x.2
noncomputable section
def ow:OB->Blk->Bool
 | .cells t l,b=>(match b with|.cells t' m=>Nat.beq t' t&&Kc l m|_=>false)
 | .row e sz l,b=>(match b with|.row e' sz' _ _=>Nat.beq e' e&&Nat.beq sz' sz&&GU l|_=>false)
 | .tab sz l,b=>(match b with|.tab _ sz' _=>Nat.beq sz' sz&&GU l|_=>false)
def Tn:List OB->A0->Bool
 | [],h=>(match h with|[]=>true|_=>false)
 | b::l,h=>(match h with|c::h=>ow b c&&Tn l h|[]=>false)
def fO:OB->Blk->List Cd
 | .cells _ l,b=>(match b with|.cells _ m=>Iv l m|_=>[])
 | .row _ _ l,b=>(match b with|.row _ _ n el=>[⟨MI l,(n.val,el)⟩]|_=>[])
 | .tab _ l,b=>(match b with|.tab n _ el=>[⟨MI l,(n.val,el)⟩]|_=>[])
def Sq:List OB->A0->List Cd
 | [],_=>[]
 | b::l,h=>(match h with|c::h=>Nf (fO b c) (Sq l h)|[]=>[])
def Pz:(b:OB)->Blk->m_ b
 | .cells _ l,b=>(match b with|.cells _ m=>DP l m|_=>DP l [])
 | .row _ _ l,b=>(match b with|.row _ _ n el=>(n.val,fun k=>DP l (el k))|_=>(0,fun _=>DP l []))
 | .tab _ l,b=>(match b with|.tab n _ el=>(n.val,fun k=>DP l (el k))|_=>(0,fun _=>DP l []))
def XE:(l:List OB)->A0->L0 l
 | [],_=>()
 | b::l,h=>(match h with|c::h=>(Pz b c,XE l h)|[]=>(Pz b .dead,XE l []))
def XF {β:Type 1}:(b:OB)->Blk->(m_ b->β)->β
 | .cells _ l,b,f=>(match b with|.cells _ m=>Jm l m f|_=>f (DP l []))
 | .row _ _ l,b,f=>(match b with|.row _ _ n el=>(match n with|.lit n=>f (n,fun k=>DP l (el k))|.sym n=>f (n,fun k=>DP l (el k)))|_=>f (0,fun _=>DP l []))
 | .tab _ l,b,f=>(match b with|.tab n _ el=>(match n with|.lit n=>f (n,fun k=>DP l (el k))|.sym n=>f (n,fun k=>DP l (el k)))|_=>f (0,fun _=>DP l []))
def XD {β:Type 1}:(l:List OB)->A0->(L0 l->β)->β
 | [],_,f=>f ()
 | b::l,h,f=>(match h with|c::h=>XF b c fun x=>XD l h fun y=>f (x,y)|[]=>f (Pz b .dead,XE l []))
structure SpecF (obs:List OB) (shs:List Sh) where
 pre:L0 obs->Ad shs->Prop
 res:L0 obs->Ad shs->AV
 after:L0 obs->Ad shs->A0
def FnSpecF (P:Program) (f:FuncId) (obs:List OB) (shs:List Sh) (sp:SpecF obs shs):Prop :=
 ∀ o x,sp.pre o x->Fn P f (Ab shs x) (Dh obs o) (sp.res o x) (sp.after o x)
def refsA:AV->List Nat
 | .own i _=>[i]
 | .row i=>[i]
 | .mp i=>[i]
 | .agg l=>refsL l
 | .tup l=>refsL l
 | .fn _ a b=>refsL a++refsL b
 | _=>[]
where refsL:List AV->List Nat
 | []=>[]
 | a::l=>refsA a++refsL l
def Ub (js:List Nat):List Nat->List Nat
 | []=>js
 | i::l=>(match Eh i js with|true=>Ub js l|false=>Ub (js++[i]) l)
def Zy (hp:A0):List Nat->List Nat
 | []=>[]
 | j::l=>(match A3 hp j with|.cells _ m=>refsA.refsL m|_=>[])++Zy hp l
def Kq {β:Type 1}:List Nat->(List Nat->β)->β
 | [],k=>k []
 | a::l,k=>Kq l fun l'=>k (a::l')
def refsA_refsLP:{g:List AV->List Nat // refsA.refsL=g}:=⟨_,by delta refsA.refsL;rfl⟩
def IX:List AV->List Nat:=refsA_refsLP.1
theorem NW:IX=refsA.refsL:=refsA_refsLP.2.symm
def JR (obs:List OB) (shs:List Sh) (sp:SpecF obs shs):Ey:=fun args hp =>
 Kq (Ub [] (IX args)) fun j1=>Kq (Ub j1 (Zy hp j1)) fun js =>
 match JM js&&Jz (fun i=>Eh i js) args&&Ou js hp js&&Tn obs (NV js hp js)&&Kc shs (EU (KH js) args) with
 | true=>XD obs (NV js hp js) fun o=>Jm shs (EU (KH js) args) fun x =>
   (match uT (fun _=>true) (sp.res o x)&&YM (fun _=>true) (sp.after o x) with
   | true=>some ⟨Nf (Sq obs (NV js hp js)) (Nf (Iv shs (EU (KH js) args)) [⟨fun z:L0 obs × Ad shs=>sp.pre z.1 z.2,(o,x)⟩]),
     ia (NY js hp.length) (sp.res o x),YH js (NY js hp.length) (sp.after o x) 0 hp++dt (NY js hp.length) js.length (sp.after o x),none⟩
   | false=>none)
 | false=>none
end
section
variable {P:Program} {S:Sums} {C C' C1:Cx} {w w':World} {H hp:A0}
theorem Mn {β:Type 1}:∀ (l:List Nat) (k:List Nat->β),Kq l k=k l
 | [],_=>rfl
 | a::l,k=>by unfold Kq;rw [Mn l]
theorem l8 {β:Type 1} {b:OB} {c:Blk} {f:m_ b->β} (h:ow b c=true):XF b c f=f (Pz b c):=by
 cases b with
 | cells t l =>
   unfold ow at h
   cases c<;>simp only at h<;>first|(cases h;done)|skip
   simp only [Gc,Bool.and_eq_true] at h
   unfold XF Pz
   exact (IF _ _ _).trans (Ex h.2)
 | row e sz l =>
   cases c<;>unfold ow at h<;>simp only at h<;>first|(cases h;done)|skip
   rename_i n _
   unfold XF Pz
   cases n<;>rfl
 | tab sz l =>
   cases c<;>unfold ow at h<;>simp only at h<;>first|(cases h;done)|skip
   rename_i n _ _
   unfold XF Pz
   cases n<;>rfl
theorem XC {β:Type 1}:∀ {l:List OB} {h:A0} {f:L0 l->β},Tn l h=true->XD l h f=f (XE l h)
 | [],_,_,_=>rfl
 | b::l,[],f,h=>by cases h
 | b::l,c::h,f,ho=>by
   unfold Tn at ho
   simp only [Bool.and_eq_true] at ho
   unfold XD XE
   simp only
   rw [l8 ho.1,XC ho.2]
theorem ky {b:OB} {c:Blk} (h:ow b c=true) (hc:∀ p∈fO b c,p.ok) {q:Pl} (hr:BRel C w q c):BRel C w q (Ed b (Pz b c)):=by
 cases b with
 | cells t l =>
   unfold ow at h
   cases c<;>simp only at h<;>first|(cases h;done)|skip
   simp only [Gc,Bool.and_eq_true] at h
   unfold fO at hc
   simp only [HB] at hc
   obtain rfl:=Nat.eq_of_beq_eq_true h.1
   unfold Ed Pz
   cases q with
   | nil=>exact hr.elim
   | «at» x cap n =>
     obtain ⟨vs,h1,h2⟩:=hr
     exact ⟨vs,E1 (Fx h.2 hc) h1,h2⟩
 | row e sz l =>
   cases c<;>unfold ow at h<;>simp only at h<;>first|(cases h;done)|skip
   rename_i e' sz' n el
   simp only [Bool.and_eq_true] at h
   obtain rfl:=Nat.eq_of_beq_eq_true h.1.1
   obtain rfl:=Nat.eq_of_beq_eq_true h.1.2
   unfold Ed Pz
   have hcan:MI l (n.val,el):=hc ⟨MI l,(n.val,el)⟩ (by unfold fO;exact List.mem_singleton.2 rfl)
   cases q with
   | nil=>exact hr
   | «at» x cap m =>
     obtain ⟨h1,h2,h3,cs,vs,hh,hs,hcl⟩:=hr
     exact ⟨h1,h2,h3,cs,vs,hh,hs,fun k hk=>⟨E1 (hcan k (by rw [h1];exact hk)) (hcl k hk).1,Lz h.2,(hcl k hk).2.2⟩⟩
 | tab sz l =>
   cases c<;>unfold ow at h<;>simp only at h<;>first|(cases h;done)|skip
   rename_i n sz' el
   simp only [Bool.and_eq_true] at h
   obtain rfl:=Nat.eq_of_beq_eq_true h.1
   unfold Ed Pz
   have hcan:MI l (n.val,el):=hc ⟨MI l,(n.val,el)⟩ (by unfold fO;exact List.mem_singleton.2 rfl)
   cases q with
   | nil=>exact hr.elim
   | «at» x cap m =>
     obtain ⟨es,ck,vs,hh,hs,hcl⟩:=hr
     exact ⟨es,ck,vs,hh,hs,fun k hk=>⟨E1 (hcan k hk) (hcl k hk).1,Lz h.2,(hcl k hk).2.2⟩⟩
theorem XA:∀ {l:List OB} {h:A0},Tn l h=true->(∀ p∈Sq l h,p.ok)->∀ (i:Nat) {q:Pl},BRel C w q (A3 h i)->BRel C w q (A3 (Dh l (XE l h)) i)
 | [],[],_,_,i,q,hr=>by cases q<;>exact hr.elim
 | [],_::_,h,_,_,_,_=>by cases h
 | b::l,[],h,_,_,_,_=>by cases h
 | b::l,c::h,ho,hc,i,q,hr=>by
   unfold Tn at ho
   simp only [Bool.and_eq_true] at ho
   obtain ⟨h1,h2⟩:=Fb (l:=fO b c) (m:=Sq l h) fun p hp=>hc p (by unfold Sq;exact hp)
   cases i with
   | zero=>exact ky ho.1 h1 hr
   | succ i=>exact XA ho.2 h2 i hr
theorem WU:∀ {l:List OB} {h:A0},Tn l h=true->(Dh l (XE l h)).length=h.length
 | [],[],_=>rfl
 | [],_::_,h=>by cases h
 | b::l,[],h=>by cases h
 | b::l,c::h,ho=>by
   unfold Tn at ho
   simp only [Bool.and_eq_true] at ho
   unfold Dh XE
   simp [WU ho.2]
theorem Fn.weakenH {f:FuncId} {args:List AV} {H0:A0} {r:AV} {H':A0} (h:Fn P f args H0 r H') (hl:H0.length=H.length) (hw:∀ (C:Cx) (w:World) (i:Nat) (q:Pl),BRel C w q (A3 H i)->BRel C w q (A3 H0 i)):Fn P f args H r H' :=
 fun C w vs hO hH ha=>(h C w vs hO ⟨fun i q hi=>hw C w i q (hH.live i q hi),hH.inj,hH.fresh,hH.ilt,hH.sub⟩ ha).mono fun _e _w' ⟨v,C',h1,h2,h3,h4⟩=>⟨v,C',h1,h2,h3,hl▸h4⟩
def Iw (P:Program) (f:FuncId) (s:Ey):Prop:=∀ args hp pre res hp' mv,s args hp=some ⟨pre,res,hp',mv⟩->(∀ p∈pre,p.ok)->FnM P f args hp res hp' mv
theorem Hx {f:FuncId} {obs:List OB} {shs:List Sh} {sp:SpecF obs shs} (h:FnSpecF P f obs shs sp):Iw P f (JR obs shs sp):=by
 intro args hp pre res hp' mv hm hpre
 unfold JR at hm
 simp only [Gc,IF,HB,Ig,aY,HY,VP,NW] at hm
 rw [Mn,Mn] at hm
 generalize Ub (Ub [] (refsA.refsL args)) (Zy hp (Ub [] (refsA.refsL args)))=js at hm
 split at hm
 ·rename_i hok
  simp only [Bool.and_eq_true] at hok
  obtain ⟨⟨⟨⟨h1,h2⟩,h3⟩,h4⟩,h5⟩:=hok
  rw [XC h4,Ex h5] at hm
  split at hm
  ·rename_i h6
   simp only [Bool.and_eq_true] at h6
   injection hm with hm;injection hm with e1 e2 e3 e4
   subst e1 e2 e3 e4
   obtain ⟨h7,h8⟩:=Fb hpre
   obtain ⟨h9,h10⟩:=Fb h8
   have:=h _ _ (h10 _ (List.mem_singleton.2 rfl))
   refine Fn.focus h1 h2 h3 h6.1 h6.2 ?_
   exact (this.weakenH (WU h4) fun C w i q=>XA h4 h7 i).weaken fun C w vs ha=>E1 (Fx h5 h9) ha
  ·cases hm
 ·cases hm
theorem SumsOK.addTwo {one : List (Nat × Kz)} {two : List (Nat × Ey)} {lo : Nat} {eqs : List (Nat × List (Option IntKind))} {its : List (Nat × IN)} {imm : List Nat} (hS : SumsOK P ⟨one, two, lo, eqs, its, imm⟩) {f : FuncId} {fn : Func} (hf : P.funcs[f]? = some fn) (hn : (fn.name == "runtime.NumGoroutine") = false) (hb : fn.body.isNone = false)
  {s:Ey} (h:Iw P f s):SumsOK P ⟨one,(f,s)::two,lo,eqs,its,imm⟩:=by
 refine ⟨hS.one,fun g s1 hg=>?_,hS.eqs,hS.bodyOne,fun g s1 hg=>?_,hS.its⟩
 ·simp only [AL] at hg
  split at hg
  ·rename_i e
   injection hg with hg;subst hg
   obtain rfl:=Nat.eq_of_beq_eq_true e
   exact h
  ·exact hS.two g s1 hg
 ·simp only [AL] at hg
  split at hg
  ·rename_i e
   obtain rfl:=Nat.eq_of_beq_eq_true e
   exact ⟨fn,hf,hn,hb⟩
  ·exact hS.bodyTwo g s1 hg
theorem SumsOK.setLo {one:List (Nat × Kz)} {two:List (Nat × Ey)} {lo:Nat} {eqs:List (Nat × List (Option IntKind))} {its:List (Nat × IN)} {imm:List Nat} (hS:SumsOK P ⟨one,two,lo,eqs,its,imm⟩) (n:Nat):SumsOK P ⟨one,two,n,eqs,its,imm⟩ :=
 ⟨hS.one,hS.two,hS.eqs,hS.bodyOne,hS.bodyTwo,hS.its⟩
theorem SumsOK.setImm {one:List (Nat × Kz)} {two:List (Nat × Ey)} {lo:Nat} {eqs:List (Nat × List (Option IntKind))} {its:List (Nat × IN)} {imm:List Nat} (hS:SumsOK P ⟨one,two,lo,eqs,its,imm⟩) (l:List Nat):SumsOK P ⟨one,two,lo,eqs,its,l⟩ :=
 ⟨hS.one,hS.two,hS.eqs,hS.bodyOne,hS.bodyTwo,hS.its⟩
theorem SumsOK.setEqs {one:List (Nat × Kz)} {two:List (Nat × Ey)} {lo:Nat} {eqs eqs':List (Nat × List (Option IntKind))} {its:List (Nat × IN)} {imm:List Nat} (hS:SumsOK P ⟨one,two,lo,eqs,its,imm⟩) (h:∀ t ks,AL eqs' t=some ks->EqOK P t ks):SumsOK P ⟨one,two,lo,eqs',its,imm⟩ :=
 ⟨hS.one,hS.two,h,hS.bodyOne,hS.bodyTwo,hS.its⟩
theorem Pw:∀ {l:List OB} {x:L0 l},(Dh l x).length=l.length
 | [],_=>rfl
 | b::l,x=>by simp [Dh,Pw]
theorem FnSpecF.of {one:List (Nat × Kz)} {two:List (Nat × Ey)} {lo:Nat} {eqs:List (Nat × List (Option IntKind))} {its:List (Nat × IN)} {imm:List Nat} (hS:SumsOK P ⟨one,two,lo,eqs,its,imm⟩) (hm:P.follows .mixedOrders=true) {obs:List OB} {shs:List Sh} {U:Nat} {I:L0 obs->Ad shs->Cz} {f:FuncId} {fn:Func} {c:Code} (hf:P.funcs[f]? = some fn) (hb:fn.body=some c) (hok:Cu c=true) {sp:SpecF obs shs}
  (hany:La shs=true) (hn:shs.length<=fn.ntmps) (h:∀ o x,sp.pre o x->A2 P ⟨one,two,obs.length,eqs,its,imm⟩ U (I o x) fn (Ab shs x) (Dh obs o) (sp.res o x) (sp.after o x)):FnSpecF P f obs shs sp :=
 fun o x hx=>Fn.of (hS.setLo obs.length) hm hf hb hok (by rw [Pw]) (HU hany) (by rw [G7];exact hn) (h o x hx)
end
end Abs
end Go.Proofs.YtccgngldoinokaaGreat
