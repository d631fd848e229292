/- A part of the proof: no statement of its own. -/
import Derived.Test.YtccgngldoinokaaGreatQG4d94b95a
import Derived.WalkSpells
set_option linter.unusedSimpArgs false
set_option linter.unusedVariables false
namespace Go.Proofs.YtccgngldoinokaaGreat
namespace Abs
open Go Go.RowKit
section
variable {P:Program} {S:Sums} {C C':Cx} {w w':World} {H hp:A0} {T T1 T':List Cnd} {all:List Oper} {I:Act->World->Prop}
def GoalI (I:Act->World->Prop) (P:Program) (S:Sums) (R:AV->A0->Prop) (K:List AV->A0->VC) (Q:Exit->Act->World->Prop) (C:Cx) (w:World) (ds:Act->Prop):Prop :=
 Goal P S R K Q C w ds/\∀ C' w' act',Tr S.lo C w C' w'->ds act'->I act' w'
theorem GoalI.step {R:AV->A0->Prop} {K:List AV->A0->VC} {Q:Exit->Act->World->Prop} {ds:Act->Prop} (g:GoalI I P S R K Q C w ds) (t:Tr S.lo C w C' w'):GoalI I P S R K Q C' w' ds :=
 ⟨g.1.step t,fun _ _ _ t' h=>g.2 _ _ _ (t.trans t') h⟩
theorem Goal.any {R:AV->A0->Prop} {K:List AV->A0->VC} {Q:Exit->Act->World->Prop} {ds:Act->Prop} (g:Goal P S R K Q C w ds):GoalI (fun _ _=>True) P S R K Q C w ds:=⟨g,fun _ _ _ _ _=>trivial⟩
structure Inv (all:List Oper) (s:Nat) (fr0:List AV) (hp0:A0) (L:List Info) (T':List Cnd) (D:Array Bool) (C:Cx) (w:World) (act:Act):Prop where
 size:D.size=all.length
 before:∀ i,i<s->Ac D i
 behind:∀ i,s+L.length<=i->¬ Ac D i
 closed:Fc all (Ac D)
 core:Core (fun q=>Af all (s+q)) (fun q=>Ac D (s+q)) fr0 hp0 L T' C w act
def jx (s n q:Nat):Nat:=if q<n then s+q else s+q+1
theorem bx {s n p q:Nat} (h:p<q):jx s n p<jx s n q:=by unfold jx;split<;>split<;>omega
theorem Wb {s n q:Nat} (h:q<n):jx s n q=s+q:=by unfold jx;rw [if_pos h]
theorem eS (s n q:Nat):jx s n (n+q)=s+n+1+q:=by unfold jx;rw [if_neg (by omega)];omega
theorem sr {s n q:Nat} (h:n<=q):s+n<jx s n q:=by unfold jx;rw [if_neg (by omega)];omega
structure LateInv (all:List Oper) (s:Nat) (fr0:List AV) (hp0:A0) (L M:List Info) (T':List Cnd) (D:Array Bool) (C:Cx) (w:World) (act:Act):Prop where
 size:D.size=all.length
 before:∀ i,i<s->Ac D i
 notg:¬ Ac D (s+L.length)
 behind:∀ i,s+L.length+1+M.length<=i->¬ Ac D i
 closed:Fc all (Ac D)
 core:Core (fun q=>Af all (jx s L.length q)) (fun q=>Ac D (jx s L.length q)) fr0 hp0 (L++M) T' C w act
structure LateG (P:Program) (S:Sums) (all:List Oper) (n:Nat) (fr:List AV) (hp:A0) (o:Oper) (ρ:Operand->AV) (i:Nat) (fr2:List AV) (hp2:A0):Prop where
 ho:all[n]? = some o
 hg:o.guard=none
 bef:MC all n=true
 lt:n+1<EK all n
 app:∃ c,o.op=.call c/\c.callee=.builtin .append
 sees:ρ=Ks ((CR (Cc o.op)).map fun t=>(t,Dk [] (A4 fr t)))
 gr:Dx (Hk P S ρ hp o.op)=some i
 bo:∃ fr' a,BO S fr hp (Hk P S ρ hp o.op) fr' hp2 a/\fr2=CT fr' o.dst (DN a)
theorem lc {i:Nat} (h:MC all i=true) {j:Nat} (hj:j<all.length) (hlt:j<i):Er (Cq all []) j i=true:=by
 have h1:=Ag (f:=fun j=>match Nat.blt j i with|true=>Er (Cq all []) j i|false=>true) h j hj
 rw [IK hlt] at h1;exact h1
theorem PU {f:Nat->Bool}:∀ {n j:Nat},bw f n<=j->j<n->f j=false
 | 0,j,_,h=>by omega
 | n+1,j,h1,h2=>by
   simp only [bw] at h1
   split at h1
   ·omega
   ·rename_i hf
    rcases Nat.lt_or_ge j n with h|h
    ·exact PU h1 h
    ·obtain rfl:j=n:=by omega
     exact hf
theorem eL {i k:Nat} (h:EK all i<=k) (hk:k<all.length) (hik:i<k):Er (Cq all []) i k=true:=by
 have h1:=PU (f:=fun j=>match Nat.blt i j with|true=>!(Er (Cq all []) i j)|false=>false) h hk
 rw [IK hik] at h1
 simpa using h1
theorem BJ {D:Array Bool} (hsize:D.size=all.length) (hclosed:Fc all (Ac D)) {i:Nat} (hir:i∈Region.ready .any all.toArray D) :
  ∃ o,all[i]? = some o/\¬ Ac D i/\(∀ e∈o.after.toList,Region.binds .any e=true->Ac D e.on)/\(∀ k,Ac (D.setIfInBounds i true) k↔Ac D k\/k=i)/\Fc all (Ac (D.setIfInBounds i true)) /\
    (∀ fuel,J3 (fun k=>D.getD k false) all.length<=fuel+1->J3 (fun k=>(D.setIfInBounds i true).getD k false) all.length<=fuel)/\(D.setIfInBounds i true).size=all.length:=by
 obtain ⟨o,ho,hnl,hpre⟩:=EA hir
 have hlt:=(List.getElem?_eq_some_iff.1 ho).1
 have hltD:i<D.size:=by rw [hsize];exact hlt
 rw [CY hltD] at hnl
 have hnl':¬ Ac D i:=by unfold Ac;rw [hnl];simp
 have hset:=fun k=>Ei (D:=D) (i:=i) (k:=k) hltD
 have hLst:∀ k,Ac (D.setIfInBounds i true) k↔Ac D k\/k=i:=fun k=>by unfold Ac;rw [hset];simp
 refine ⟨o,ho,hnl',hpre,hLst,fun k o' hk hl e he hb=>?_,fun fuel hfu=>?_,by simp [hsize]⟩
 ·rw [hLst] at hl ⊢
  rcases hl with hl|rfl
  ·exact .inl (hclosed k o' hk hl e he hb)
  ·rw [ho] at hk;injection hk with hk;subst hk;exact .inl (hpre e he hb)
 ·have:=TD (f:=fun k=>D.getD k false) (g:=fun k=>(D.setIfInBounds i true).getD k false) (i:=i) hnl (fun k=>hset k) hlt
  omega
def StA (I:Act->World->Prop) (P:Program) (S:Sums) (all:List Oper) (R:AV->A0->Prop) (K:List AV->A0->VC) (Q:Exit->Act->World->Prop) (ds:Act->Prop) (ro:Option Nat) (rm:Nat) (fuel:Nat):Prop :=
 ∀ (D:Array Bool) (s:Nat) (T0:List Cnd) (fr0:List AV) (hp0:A0) (L:List Info) (T':List Cnd) (C:Cx) (w:World) (act:Act),Seg P all s T0 fr0 hp0 L T'->N2 P S all R K s fr0 hp0 L T' ->
   Inv all s fr0 hp0 L T' D C w act->S.lo<=hp0.length->J3 (fun i=>D.getD i false) all.length<=fuel->ds act->GoalI I P S R K Q C w ds->CQ I (Fa ro) rm P all.toArray Q fuel D act w
def yo (I:Act->World->Prop) (P:Program) (S:Sums) (all:List Oper) (R:AV->A0->Prop) (K:List AV->A0->VC) (Q:Exit->Act->World->Prop) (ds:Act->Prop) (ro:Option Nat) (rm:Nat) (fuel:Nat):Prop :=
 ∀ (D:Array Bool) (s:Nat) (T0:List Cnd) (fr0:List AV) (hp0:A0) (L:List Info) (o:Oper) (ρ:Operand->AV) (i:Nat) (fr2:List AV) (hp2:A0) (L2:List Info) (T2:List Cnd) (C:Cx) (w:World) (act:Act),
   Seg P all s T0 fr0 hp0 L []->LateG P S all (s+L.length) (E_ all s fr0 L L.length) (hps hp0 L L.length) o ρ i fr2 hp2->Seg P all (s+L.length+1) [] fr2 hp2 L2 T2->N2 P S all R K (s+L.length+1) fr2 hp2 L2 T2 ->
    m9 all i (EK all (s+L.length)) (s+L.length+1) fr2 L2->LateInv all s fr0 hp0 L (L2.take (EK all (s+L.length)-(s+L.length+1))) T2 D C w act ->
    S.lo<=hp0.length->J3 (fun i=>D.getD i false) all.length<=fuel->ds act->GoalI I P S R K Q C w ds->CQ I (Fa ro) rm P all.toArray Q fuel D act w
theorem LateInv.look {s:Nat} {fr0:List AV} {hp0:A0} {L M:List Info} {D:Array Bool} {act:Act} (hi:LateInv all s fr0 hp0 L M T' D C w act) (hback:GH all) (htmp:KO all=true) (hlen:s+L.length+1+M.length<=all.length)
  {q:Nat} (hq:q<L.length+M.length) {o:Oper} (ho:all[jx s L.length q]? = some o) (hn:¬ Ac D (jx s L.length q)) (hpre:∀ e∈o.after.toList,Region.binds .any e=true->Ac D e.on) {t:Nat} (ht:t∈DO all o) :
  RelG T' C w (A4 (HI (fun q=>Af all (jx s L.length q)) fr0 (L++M) q) t) (act.tmps.getD t undef):=by
 have hjl:∀ p,p<L.length+M.length->jx s L.length p<all.length:=fun p hp=>by unfold jx;split<;>omega
 refine hi.core.look (by rw [List.length_append];omega) (fun p hp hd=>?_) (.inl fun p hpq hp hl hd=>?_)
 ·obtain ⟨o',ho',hd'⟩:=AY hd
  exact Au hback hi.closed _ _ ho hpre ((Gr htmp ho' hd' ho ht).1 (bx hp))
 ·rw [List.length_append] at hp
  rcases Nat.lt_or_ge q p with h|h
  ·obtain ⟨o',ho',hd'⟩:=AY hd
   exact hn (LR hback hi.closed (hjl p hp) hl ((Gr htmp ho' hd' ho ht).2 (bx h)))
  ·obtain rfl:p=q:=by omega
   exact hn hl
theorem Ve {o:Oper} {c:Call} (ho:o.op=.call c) (hc:c.callee=.builtin .append) {t:Nat} (ht:t∈CR (Cc o.op)):t∈DO all o:=by
 refine G5 ?_
 have h1:(.tmp t:Operand)∈c.args.toList:=by
  have h2:Cc o.op=c.args.toList:=by rw [ho];simp only [Cc,hc]
  rw [h2] at ht
  revert ht
  generalize c.args.toList=l
  intro ht
  induction l with
  | nil=>simp [CR] at ht
  | cons x l ih =>
    cases x with
    | tmp u =>
      simp only [CR,List.mem_cons] at ht
      rcases ht with rfl|ht
      ·simp
      ·exact List.mem_cons_of_mem _ (ih ht)
    | _=>exact List.mem_cons_of_mem _ (ih (by simpa [CR] using ht))
 rw [ho]
 show _∈c.operands
 obtain ⟨cal,args,tys⟩:=c
 simp only at hc h1
 subst hc
 simpa [Call.operands] using h1
theorem hP {R:AV->A0->Prop} {K:List AV->A0->VC} {Q:Exit->Act->World->Prop} {ds:Act->Prop} {ro:Option Nat} {rm:Nat}:yo I P S all R K Q ds ro rm 0:=by
 intro D s T0 fr0 hp0 L o ρ i fr2 hp2 L2 T2 C w act hseg hG hseg2 hend2 hlate hi AQ hfu hds hgoal
 exact absurd (Hl (f:=fun i=>D.getD i false) (by omega) _ (List.getElem?_eq_some_iff.1 hG.ho).1) hi.notg
theorem hX (hS:SumsOK P S) (hu:Dd all=true) (htmp:KO all=true) (hback:GH all) {R:AV->A0->Prop} {K:List AV->A0->VC} {Q:Exit->Act->World->Prop} {ds:Act->Prop} (hput:Ep all ds) {ro:Option Nat} {rm:Nat} {fuel:Nat}
  (hA:StA I P S all R K Q ds ro rm fuel) (hB:yo I P S all R K Q ds ro rm fuel):yo I P S all R K Q ds ro rm (fuel+1):=by
 intro D s T0 fr0 hp0 L o ρ i fr2 hp2 L2 T2 C w act hseg hG hseg2 hend2 hlate hi AQ hfu hds hgoal
 have hgn:=(List.getElem?_eq_some_iff.1 hG.ho).1
 have hMl:(L2.take (EK all (s+L.length)-(s+L.length+1))).length=EK all (s+L.length)-(s+L.length+1):=by
  rw [List.length_take];have:=hlate.1;omega
 have hlate1:=hlate.1
 have hlt0:=hG.lt
 generalize hu':EK all (s+L.length)=u at *
 generalize hM:L2.take (u-(s+L.length+1))=M at *
 have hML:M.length<=L2.length:=by omega
 have hMg:∀ q,q<M.length->M.getD q default=L2.getD q default:=fun q hq=>by rw [<- hM];exact eu (by omega)
 have hlenM:s+L.length+1+M.length<=all.length:=by have:=hseg2.len;omega
 obtain ⟨c,hoc,hcc⟩:=hG.app
 obtain ⟨frb,av,hbo,hfr2⟩:=hG.bo
 obtain ⟨hloi,hav,hfrb,bb,hhp2⟩:=en hG.gr hbo
 subst hav hfrb
 have hil:i<(hps hp0 L L.length).length:=by
  rcases Nat.lt_or_ge i (hps hp0 L L.length).length with h|h
  ·exact h
  ·exfalso
   have:=ej hoc hcc hG.gr
   omega
 have hclM:∀ q,q<M.length->Jb i ((M.getD q default).new)=false:=fun q hq=>by
  rw [hMg q hq];exact (hlate.2 q (by omega) (by omega)).2.2
 have hcat:∀ q,hps hp0 (L++M) (L.length+q)=hps (hps hp0 L L.length) M q:=Nr hp0 L M
 have htn:∀ q,q<=M.length->hps hp2 L2 q=AM (E5 (EJ i .top) (hps hp0 (L++M) (L.length+q))) i bb:=fun q hq=>by
  rw [hcat,<- Wg hil fun p hp=>hclM p (by omega),<- hhp2]
  exact I4 fun p hp=>(hMg p (by omega)).symm
 have hlenq:∀ q,q<=M.length->(hps hp2 L2 q).length=(hps hp0 (L++M) (L.length+q)).length:=fun q hq=>by
  rw [htn q hq,Ah,DG]
 have hiq:∀ q,q<=M.length->i<(hps hp2 L2 q).length:=fun q hq=>by
  rw [hlenq q hq,hcat]
  obtain ⟨r,hr⟩:=Aj (hps hp0 L L.length) M q
  rw [hr,List.length_append];omega
 have hLM:(L++M).length=L.length+M.length:=List.length_append
 have hfrL:∀ q,q<=L.length->HI (fun q=>Af all (jx s L.length q)) fr0 (L++M) q=E_ all s fr0 L q:=fun q hq=>by
  rw [Kp]
  exact Pb fun p hp=>⟨by simp only [Wb (show p<L.length by omega)],F_ (by omega)⟩
 refine ⟨fun hr=>?_,fun k hir=>?_⟩
 ·exact absurd (Ef hback hi.size hr _ hgn) hi.notg
 ·obtain ⟨o',ho,hnl',hpre,hLst,hclosed,hfu',hsz⟩:=BJ hi.size hi.closed hir
  have hlt:=(List.getElem?_eq_some_iff.1 ho).1
  have hfu'':=hfu' fuel hfu
  have hao:all.toArray[k]? = some o':=by simpa using ho
  unfold wpOpIn
  simp only [hao]
  have his:s<=k:=by
   rcases Nat.lt_or_ge k s with h|h
   ·exact absurd (hi.before k h) hnl'
   ·exact h
  have hkk:∀ q,q<L.length+M.length->k=jx s L.length q->∀ v w',(∃ C',HR C' (hps hp0 (L++M) (L++M).length) w'/\RelG T2 C' w' ((L++M).getD q default).val v/\Grow (hps hp0 (L++M) q).length ((L++M).getD q default).new.length C w C' w') ->
    I (act.put o'.dst v) w'/\CQ I (Fa ro) rm P all.toArray Q fuel (D.setIfInBounds k true) (act.put o'.dst v) w':=by
   rintro q hq hkq v w' ⟨C',h1,h2,h3⟩
   subst hkq
   have hdd:Af all (jx s L.length q)=o'.dst:=El ho
   have hinj:∀ p,jx s L.length p=jx s L.length q->p=q:=fun p e=>by
    rcases Nat.lt_trichotomy p q with h|h|h
    ·have:=bx (s:=s) (n:=L.length) h;omega
    ·exact h
    ·have:=bx (s:=s) (n:=L.length) h;omega
   have hcore:=hi.core.next (dn':=fun q'=>Ac (D.setIfInBounds (jx s L.length q) true) (jx s L.length q')) (q:=q) (by rw [hLM];exact hq) hnl' (fun p hp=>by
     rw [hLst]
     exact ⟨fun h=>h.imp id (hinj p),fun h=>h.imp id fun e=>by rw [e]⟩) (fun p hp hne t hd hd'=>by
     obtain ⟨o2,ho2,hd2⟩:=AY hd'
     rw [hdd] at hd
     exact (DR hu ho).1 t hd _ o2 (fun e=>hne (hinj p e)) ho2 hd2) h1 h2 h3
   simp only [hdd] at hcore
   obtain ⟨rb,hrb⟩:=Aj hp0 (L++M) q
   have htr:Tr S.lo C w C' w':=h3.tr (by rw [hrb];simp;omega)
   have hds':=hput o' (List.mem_of_getElem? ho) act v hds
   refine ⟨hgoal.2 _ _ _ htr hds',hB _ s T0 fr0 hp0 L o ρ i fr2 hp2 L2 T2 C' w' _ hseg hG hseg2 hend2 (by rw [hu'];exact hlate) ?_ AQ hfu'' hds' (hgoal.step htr)⟩
   rw [hu',hM]
   refine ⟨hsz,fun k hk=>(hLst k).2 (.inl (hi.before k hk)),fun h=>?_,fun k hk h=>?_,hclosed,hcore⟩
   ·rcases (hLst _).1 h with h|h
    ·exact hi.notg h
    ·unfold jx at h;split at h<;>omega
   ·rcases (hLst _).1 h with h|h
    ·exact hi.behind k hk h
    ·unfold jx at h;split at h<;>omega
  have fin:∀ q,q<L.length+M.length->k=jx s L.length q ->
    ((Region.wanted o' (yielded all.toArray act.tmps)=true/\Ran P o' act.eval w fun v w'=>∃ C',HR C' (hps hp0 (L++M) (L++M).length) w'/\RelG T2 C' w' ((L++M).getD q default).val v/\Grow (hps hp0 (L++M) q).length ((L++M).getD q default).new.length C w C' w') \/
     (Region.wanted o' (yielded all.toArray act.tmps)=false/\∃ C',HR C' (hps hp0 (L++M) (L++M).length) w/\RelG T2 C' w ((L++M).getD q default).val undef/\Grow (hps hp0 (L++M) q).length ((L++M).getD q default).new.length C w C' w)) ->
    (if Region.wanted o' (yielded all.toArray act.tmps)=true then Oper.wpIn (Fa ro) rm P o' act w (fun a' w'=>I a' w'/\CQ I (Fa ro) rm P all.toArray Q fuel (D.setIfInBounds k true) a' w') Q
     else (∀ (f:FuncId),Oper.about P w act.eval o'=some f->(Fa ro).fn f)/\I (act.put o'.dst undef) w/\CQ I (Fa ro) rm P all.toArray Q fuel (D.setIfInBounds k true) (act.put o'.dst undef) w):=by
   intro q hq hkq hd
   rcases hd with ⟨hw,hr⟩|⟨hw,hr⟩
   ·rw [hw]
    simp only [if_true]
    exact Ran.wpIn (hr.mono (hkk q hq hkq))
   ·rw [hw]
    simp only [Bool.false_eq_true,if_false]
    exact ⟨fun _ _=>trivial,hkk q hq hkq _ _ hr⟩
  rcases Nat.lt_trichotomy k (s+L.length) with hile|hie|hige
  ·-- of the first piece
   obtain ⟨q,rfl⟩:=Nat.exists_eq_add_of_le his
   have hq:q<L.length:=by omega
   have hjq:jx s L.length q=s+q:=Wb hq
   refine fin q (by omega) hjq.symm ?_
   obtain ⟨o1,Tq,Tq1,h1,hst,hsub⟩:=hseg.step q hq
   rw [ho] at h1;injection h1 with h1;subst h1
   have e1:(L++M).getD q default=L.getD q default:=F_ hq
   have e2:hps hp0 (L++M) q=hps hp0 L q:=I4 fun p hp=>F_ (by omega)
   rw [e1,e2]
   have hlook:=fun t ht=>hi.look hback htmp hlenM (q:=q) (by omega) (by rw [hjq];exact ho) (by rw [hjq];exact hnl') hpre (t:=t) ht
   simp only [hfrL q (by omega)] at hlook
   have hq':q<(L++M).length:=by rw [hLM];omega
   have hff:=hi.core.ff (q:=q) hq' (by show ¬ Ac D (jx s L.length q);rw [hjq];exact hnl')
   rw [e1,e2] at hff
   have hpp:=Nq (hp0:=hp0) hq'
   rw [e2] at hpp
   exact G0 hst (hsub.trans fun k x hx=>by simp at hx) (act:=act) hi.core.hr hpp hff (fun x hx=>EL x fun t ht=>hlook t (G5 (ht▸hx))) (fun d hd=>hlook d (JW hd))
  ·-- the append
   subst hie
   have ho1:=hG.ho
   rw [ho] at ho1;injection ho1 with ho1;subst ho1
   have hall:∀ q,q<L.length->Ac D (s+q):=fun q hq=>Au hback hi.closed _ _ ho hpre (lc hG.bef (by omega) (by omega))
   have hlookg:∀ t,((∀ p,L.length<=p->p<L.length+M.length->Ac D (jx s L.length p)->Af all (jx s L.length p)≠some t)\/fr0.length<=t)->RelG T2 C w (A4 (E_ all s fr0 L L.length) t) (act.tmps.getD t undef):=fun t h=>by
    rw [<- hfrL L.length (Nat.le_refl _)]
    refine hi.core.look (by rw [hLM];omega) (fun p hp _=>?_) (h.imp (fun h p h1 h2=>h p h1 (by rw [hLM] at h2;exact h2)) id)
    show Ac D (jx s L.length p)
    rw [Wb hp];exact hall p hp
   have hev:∀ x,Rel C w (ρ x) (act.eval x):=fun x=>by
    rw [hG.sees]
    refine Ly (T:=T2) (fun t ht=>hlookg t (.inl fun p h1 h2 hl hd=>?_)) x
    obtain ⟨o2,ho2,hd2⟩:=AY hd
    exact hi.notg (LR hback hi.closed (by unfold jx;split<;>omega) hl ((Gr htmp ho2 hd2 ho (Ve hoc hcc ht)).2 (sr h1)))
   have hwant:Region.wanted o' (yielded all.toArray act.tmps)=true:=by unfold Region.wanted;rw [hG.hg]
   rw [hwant]
   simp only [if_true]
   have hpreL:Pre (hps hp0 L L.length) (hps hp0 (L++M) (L++M).length):=fun k hk=>by
    rw [hLM,hcat]
    obtain ⟨r,hr⟩:=Aj (hps hp0 L L.length) M M.length
    rw [hr,Ax _ _ _ hk]
   have hbb:A3 hp2 i=bb:=by rw [hhp2,DI,if_pos ⟨rfl,by rw [DG];exact hil⟩]
   refine Ran.wpIn ((eM o' hoc hcc hev hi.core.hr hpreL hG.gr hbo).mono fun v w' ⟨C',ht,h1,h2,h3⟩=>?_)
   rw [hbb,hLM,<- htn M.length (Nat.le_refl _)] at h1
   obtain ⟨r2,hr2⟩:=Ja hp2 L2 hML
   have ee:S.lo<=hp2.length:=by
    rw [hhp2,Ah,DG]
    obtain ⟨rb,hrb⟩:=Aj hp0 L L.length
    rw [hrb];simp;omega
   have hfl2:fr2.length=fr0.length:=by rw [hfr2,Li,Hz,K5]
   have hMlst:∀ q,Ac D (s+L.length+1+q)->q<M.length:=fun q h=>by
    rcases Nat.lt_or_ge q M.length with h'|h'
    ·exact h'
    ·exact absurd h (hi.behind _ (by omega))
   have hput':∀ t,(act.put o'.dst v).tmps.getD t undef=if o'.dst=some t/\t<act.tmps.size then v else act.tmps.getD t undef:=Dn act o'.dst v
   have hds':=hput o' (List.mem_of_getElem? ho) act v hds
   refine ⟨hgoal.2 _ _ _ h3 hds',hA _ _ _ _ _ L2 T2 C' w' _ hseg2 hend2 ⟨hsz,fun k hk=>(hLst k).2 ?_,fun k hk hl=>?_,hclosed,⟨by rw [hr2];exact h1.ext r2,fun q hq hn t ht'=>?_,fun q hq hl t hd hlt'=>?_,fun t hc=>?_,?_⟩⟩ ee hfu'' hds' (hgoal.step h3)⟩
   ·rcases Nat.lt_trichotomy k (s+L.length) with h|h|h
    ·rcases Nat.lt_or_ge k s with h'|h'
     ·exact .inl (hi.before k h')
     ·obtain ⟨q,rfl⟩:=Nat.exists_eq_add_of_le h'
      exact .inl (hall q (by omega))
    ·exact .inr h
    ·omega
   ·rcases (hLst k).1 hl with h|h
    ·exact hi.behind k (by omega) h
    ·omega
   ·rcases Nat.lt_or_ge q M.length with hqM|hqM
    ·rw [ht.rho _ (by have:=hiq q (by omega);omega),hlenq q (by omega)]
     have e3:(L++M).getD (L.length+q) default=L2.getD q default:=by rw [H8,hMg q hqM]
     refine hi.core.free (L.length+q) (by rw [hLM];omega) (fun h=>hn ((hLst _).2 (.inl ?_))) t (by rw [e3];exact ht')
     have h':Ac D (jx s L.length (L.length+q)):=h
     rw [eS] at h';exact h'
    ·cases hc:C'.ρ ((hps hp2 L2 q).length+t) with
     | none=>rfl
     | some p =>
       have:=h1.lt hc
       obtain ⟨r,hr⟩:=Ja hp2 L2 hqM
       rw [hr] at this;simp at this;omega
   ·have hl':Ac D (s+L.length+1+q):=by
     rcases (hLst _).1 hl with h|h
     ·exact h
     ·omega
    have hqM:=hMlst q hl'
    have e3:(L++M).getD (L.length+q) default=L2.getD q default:=by rw [H8,hMg q hqM]
    have hv:=hi.core.v1 (L.length+q) (by rw [hLM];omega) (by show Ac D (jx s L.length (L.length+q));rw [eS];exact hl') t (by show Af all (jx s L.length (L.length+q))=some t;rw [eS];exact hd) (by rw [<- hfl2];exact hlt')
    rw [e3] at hv
    have hv':=hv.turn ht trivial
    rw [Ik ((hlate.2 q hq (by omega)).2.1 t hd hlt')] at hv'
    rw [hput',if_neg]
    ·exact hv'
    ·rintro ⟨hd',_⟩
     obtain ⟨o2,ho2,hd2⟩:=AY hd
     exact (DR hu ho).1 t hd' _ o2 (by omega) ho2 hd2
   ·rw [hput',hfr2,I8,Hz,K5,<- hi.core.tsz]
    by_cases hdt:o'.dst=some t/\t<fr0.length
    ·rw [if_pos hdt,if_pos hdt]
     exact .plain (Du h2) (BQ _)
    ·rw [if_neg hdt,if_neg hdt,F9]
     refine (hlookg t ?_).turn ht trivial
     rw [hfl2] at hc
     refine hc.imp (fun hc p h1 h2 hl hd=>?_) id
     obtain ⟨q,rfl⟩:=Nat.exists_eq_add_of_le h1
     rw [eS] at hl hd
     exact hc q (by omega) ((hLst _).2 (.inl hl)) hd
   ·rw [hfl2,hi.core.tsz];cases o'.dst<;>simp [Act.put]
  ·rcases Nat.lt_or_ge k u with hku|hku
   ·-- of the second piece
    obtain ⟨q,rfl⟩:=Nat.exists_eq_add_of_le (show s+L.length+1<=k from hige)
    have hqM:q<M.length:=by omega
    have hq2:q<L2.length:=by omega
    have hjq:jx s L.length (L.length+q)=s+L.length+1+q:=eS _ _ _
    refine fin (L.length+q) (by omega) hjq.symm ?_
    obtain ⟨o1,Tq,Tq1,h1,hst,hsub⟩:=hseg2.step q hq2
    rw [ho] at h1;injection h1 with h1;subst h1
    have e3:(L++M).getD (L.length+q) default=L2.getD q default:=by rw [H8,hMg q hqM]
    rw [e3,<- hlenq q (by omega)]
    obtain ⟨hcT,hcV,hcN⟩:=hlate.2 q hq2 (by omega)
    obtain ⟨_,hcT⟩:=hcT _ ho
    have hfrM:∀ p,p<=q->∀ t,hasO i (A4 (E_ all (s+L.length+1) fr2 L2 p) t)=false->A4 (E_ all (s+L.length+1) fr2 L2 p) t=mapR (EJ i .top) (A4 (HI (fun q=>Af all (jx s L.length q)) fr0 (L++M) (L.length+p)) t):=by
     intro p
     induction p with
     | zero =>
       intro _ t ht
       show A4 fr2 t=mapR (EJ i .top) (A4 (HI _ fr0 (L++M) L.length) t)
       have ht':hasO i (A4 fr2 t)=false:=ht
       rw [hfrL L.length (Nat.le_refl _)]
       rw [hfr2,I8] at ht' ⊢
       split at ht'
       ·simp [DN,hasO] at ht'
       ·rename_i hne
        rw [if_neg hne,F9]
     | succ p ihp =>
       intro hp t ht
       have hfl2:fr2.length=fr0.length:=by rw [hfr2,Li,Hz,K5]
       show A4 (E_ all (s+L.length+1) fr2 L2 (p+1)) t=mapR (EJ i .top) (A4 (HI _ fr0 (L++M) (L.length+p+1)) t)
       simp only [E_,HI] at ht ⊢
       rw [I8,K5] at ht ⊢
       rw [I8,Ls,eS,H8,hMg p (by omega),<- hfl2]
       split at ht
       ·rename_i hd
        rw [if_pos hd,if_pos hd,Ik ht]
       ·rename_i hd
        rw [if_neg hd,if_neg hd]
        exact ihp (by omega) t ht
    have hlook:∀ t∈DO all o',RelG T2 (C.less i) w (A4 (E_ all (s+L.length+1) fr2 L2 q) t) (act.tmps.getD t undef):=fun t ht=>by
     rw [hfrM q (Nat.le_refl _) t (hcT t ht)]
     exact (hi.look hback htmp hlenM (q:=L.length+q) (by omega) (by rw [hjq];exact ho) (by rw [hjq];exact hnl') hpre (t:=t) ht).turn (Turn.less C w i) trivial
    have hqLM:L.length+q<(L++M).length:=by rw [hLM];omega
    refine Ys (bb:=bb) hst hsub hi.core.hr (hiq q (by omega)) ?_ ?_ (fun t ht=>?_) (fun t ht=>?_) hcN (fun x hx=>EL x fun t ht=>hlook t (G5 (ht▸hx))) (fun d hd=>hlook d (JW hd))
    ·have:=hiq M.length (Nat.le_refl _)
     rw [hlenq _ (Nat.le_refl _)] at this
     rw [hLM];exact this
    ·rw [hLM,<- htn M.length (Nat.le_refl _)]
     obtain ⟨r,hr⟩:=Ja hp2 L2 (show q<=M.length by omega)
     exact fun k hk=>by rw [hr,Ax _ _ _ hk]
    ·rw [hlenq q (by omega)]
     exact hi.core.free (L.length+q) hqLM (by show ¬ Ac D (jx s L.length (L.length+q));rw [hjq];exact hnl') t (by rw [e3];exact ht)
    ·rw [hlenq q (by omega)]
     have:=Ym (hp0:=hp0) hqLM (t:=t) (by rw [e3];exact ht)
     rw [e3] at this
     exact this
   ·-- behind the append
    exact absurd (Au hback hi.closed _ _ ho hpre (eL (by rw [hu'];exact hku) hlt hige)) hi.notg
theorem Yc (hS:SumsOK P S) (hu:Dd all=true) {R:AV->A0->Prop} {K:List AV->A0->VC} {Q:Exit->Act->World->Prop} {ds:Act->Prop} {ro:Option Nat} {rm:Nat} {fuel:Nat} (hB:yo I P S all R K Q ds ro rm fuel)
  {D:Array Bool} {s:Nat} {T0:List Cnd} {fr0:List AV} {hp0:A0} {L:List Info} {act:Act} {o:Oper} {ρ:Operand->AV} {i:Nat} {fr':List AV} {hp':A0} {a:AV}
  (hseg:Seg P all s T0 fr0 hp0 L []) (hi:Inv all s fr0 hp0 L [] D C w act) (ho:all[s+L.length]? = some o) (hg:o.guard=none) (hbef:MC all (s+L.length)=true) (hlt:s+L.length+1<EK all (s+L.length)) (happ:∃ c,o.op=.call c/\c.callee=.builtin .append)
  (hρ:ρ=Ks ((CR (Cc o.op)).map fun t=>(t,Dk [] (A4 (E_ all s fr0 L L.length) t)))) (hgr:Dx (Hk P S ρ (hps hp0 L L.length) o.op)=some i) (hbo:BO S (E_ all s fr0 L L.length) (hps hp0 L L.length) (Hk P S ρ (hps hp0 L L.length) o.op) fr' hp' a)
  (hh:(AI P S true all (some (i,EK all (s+L.length))) (s+L.length+1) (all.drop (s+L.length+1)) [] (CT fr' o.dst (DN a)) hp' K).sat R)
  (AQ:S.lo<=hp0.length) (hfu:J3 (fun i=>D.getD i false) all.length<=fuel) (hds:ds act) (hgoal:GoalI I P S R K Q C w ds):CQ I (Fa ro) rm P all.toArray Q fuel D act w:=by
 have hgn:=(List.getElem?_eq_some_iff.1 ho).1
 obtain ⟨L2,T2,hs2,he2,hlate⟩:=iS hS hu (s:=s+L.length+1) (fr0:=CT fr' o.dst (DN a)) (hp0:=hp') (i:=i) (u:=EK all (s+L.length)) (all.drop (s+L.length+1)) []
  ⟨by simp only [List.length_nil];omega,.refl _,fun q hq=>by simp at hq⟩ rfl (by simp only [List.length_nil];omega) (fun q hq=>by simp at hq) hh
 refine hB D s T0 fr0 hp0 L o ρ i _ _ L2 T2 C w act hseg ⟨ho,hg,hbef,hlt,happ,hρ,hgr,⟨fr',a,hbo,rfl⟩⟩ hs2 he2 hlate ?_ AQ hfu hds hgoal
 generalize L2.take (EK all (s+L.length)-(s+L.length+1))=M
 have hx:∃ r,hps hp0 (L++M) (L++M).length=hps hp0 L L.length++r:=by
  rw [List.length_append,Nr];exact Aj _ _ _
 obtain ⟨r,hr⟩:=hx
 have hold:∀ q,q<(L++M).length->Ac D (jx s L.length q)->q<L.length/\Ac D (s+q):=fun q _ hl=>by
  rcases Nat.lt_or_ge q L.length with h|h
  ·rw [Wb h] at hl;exact ⟨h,hl⟩
  ·exact absurd hl (hi.behind _ (Nat.le_of_lt (sr h)))
 refine ⟨hi.size,hi.before,hi.behind _ (Nat.le_refl _),fun k hk=>hi.behind k (by omega),hi.closed,⟨by rw [hr];exact hi.core.hr.ext r,fun q hq hn t ht=>?_,fun q hq hl t hd hlt'=>?_,fun t ht=>?_,hi.core.tsz⟩⟩
 ·rcases Nat.lt_or_ge q L.length with h|h
  ·rw [Wb h] at hn
   rw [F_ h] at ht
   rw [show hps hp0 (L++M) q=hps hp0 L q from I4 fun p hp=>F_ (by omega)]
   exact hi.core.free q h hn t ht
  ·cases hc:C.ρ ((hps hp0 (L++M) q).length+t) with
   | none=>rfl
   | some p =>
     have:=hi.core.hr.lt hc
     obtain ⟨q,rfl⟩:=Nat.exists_eq_add_of_le h
     rw [Nr] at this
     obtain ⟨r',hr'⟩:=Aj (hps hp0 L L.length) M q
     rw [hr'] at this;simp at this;omega
 ·obtain ⟨h1,h2⟩:=hold q hq hl
  rw [F_ h1]
  rw [Wb h1] at hd
  exact (hi.core.v1 q h1 h2 t hd hlt').sub fun k x hx=>by simp at hx
 ·refine (hi.core.v2 t (ht.imp (fun h q hq hl hd=>?_) id)).sub fun k x hx=>by simp at hx
  exact h q (by rw [List.length_append];omega) (by rw [Wb hq];exact hl) (by rw [Wb hq];exact hd)
theorem Inv.frame {s:Nat} {fr0:List AV} {hp0:A0} {L:List Info} {D:Array Bool} {act:Act} (hi:Inv all s fr0 hp0 L T' D C w act) (hall:∀ q,q<L.length->Ac D (s+q)):FR T' C w (E_ all s fr0 L L.length) act.tmps:=by
 rw [Kp];exact hi.core.frame hall
theorem Inv.look {s:Nat} {fr0:List AV} {hp0:A0} {L:List Info} {D:Array Bool} {act:Act} (hi:Inv all s fr0 hp0 L T' D C w act) (hback:GH all) (htmp:KO all=true) (hlen:s+L.length<=all.length) {q:Nat} (hq:q<L.length) {o:Oper} (ho:all[s+q]? = some o)
  (hn:¬ Ac D (s+q)) (hpre:∀ e∈o.after.toList,Region.binds .any e=true->Ac D e.on) {t:Nat} (ht:t∈DO all o):RelG T' C w (A4 (E_ all s fr0 L q) t) (act.tmps.getD t undef):=by
 rw [Kp]
 refine hi.core.look (by omega) (fun p hp hd=>?_) (.inl fun p hpq hp hl hd=>?_)
 ·obtain ⟨o',ho',hd'⟩:=AY hd
  exact Au hback hi.closed _ _ ho hpre ((Gr htmp ho' hd' ho ht).1 (by omega))
 ·rcases Nat.lt_or_ge q p with h|h
  ·obtain ⟨o',ho',hd'⟩:=AY hd
   exact hn (LR hback hi.closed (by omega) hl ((Gr htmp ho' hd' ho ht).2 (by omega)))
  ·obtain rfl:p=q:=by omega
   exact hn hl
theorem Zj {R:AV->A0->Prop} {K:List AV->A0->VC} {Q:Exit->Act->World->Prop} {ds:Act->Prop} {D:Array Bool} {s:Nat} {T0:List Cnd} {fr0:List AV} {hp0:A0} {L:List Info} {act:Act}
  (hseg:Seg P all s T0 fr0 hp0 L T') (hend:N2 P S all R K s fr0 hp0 L T') (hi:Inv all s fr0 hp0 L T' D C w act) (AQ:S.lo<=hp0.length) (hds:ds act) (hgoal:GoalI I P S R K Q C w ds) (hall:∀ i,i<all.length->Ac D i):Q .normal act w:=by
 have hfin:s+L.length=all.length:=by
  rcases Nat.lt_or_ge (s+L.length) all.length with h|h
  ·exact absurd (hall _ h) (hi.behind _ (Nat.le_refl _))
  ·have:=hseg.len;omega
 rcases hend with ⟨_,h⟩|⟨o,ho,_⟩|⟨o,ho,_⟩
 ·have hF:=hi.frame fun q hq=>hall _ (by omega)
  obtain ⟨r,hr⟩:=Aj hp0 L L.length
  exact hgoal.1 _ _ C w act h (by rw [hr];simp;omega) hi.core.hr hF.clean (.refl _ _ _) hds
 ·have:=(List.getElem?_eq_some_iff.1 ho).1;omega
 ·have:=(List.getElem?_eq_some_iff.1 ho).1;omega
theorem hZ {R:AV->A0->Prop} {K:List AV->A0->VC} {Q:Exit->Act->World->Prop} {ds:Act->Prop} {ro:Option Nat} {rm:Nat}:StA I P S all R K Q ds ro rm 0:=by
 intro D s T0 fr0 hp0 L T' C w act hseg hend hi AQ hfu hds hgoal
 have hall:∀ i,i<all.length->Ac D i:=Hl (by omega)
 refine ⟨?_,Zj hseg hend hi AQ hds hgoal hall⟩
 cases hr:Region.ready .any all.toArray D with
 | nil=>rfl
 | cons i l =>
   obtain ⟨o,h1,h2,_⟩:=EA (show i∈Region.ready .any all.toArray D by rw [hr];simp)
   have hlt:=(List.getElem?_eq_some_iff.1 h1).1
   rw [CY (by rw [hi.size];exact hlt)] at h2
   have:=hall i hlt
   rw [show D.getD i false=true from this] at h2;cases h2
theorem AF9 {p:Nat->Prop} (h:∃ n,p n):∃ n,p n/\∀ m,m<n->¬ p m:=by
 obtain ⟨n,hn⟩:=h
 induction n using Nat.strongRecOn with
 | _ n ih =>
   rcases Classical.em (∃ m,m<n/\p m) with ⟨m,h1,h2⟩|h
   ·exact ih m h1 h2
   ·exact ⟨n,hn,fun m h1 h2=>h ⟨m,h1,h2⟩⟩
theorem jD {n j:Nat} {g:Nat->AV} (h:okU P all n g j=true):∃ o a,all[j]? = some o/\okG all g o=true/\Lu P (Ks ((CR (Cc o.op)).map fun t=>(t,Dk [] (g t)))) o.op=some ([],a) /\
  (∀ p o' d,j<=p->p<n->all[p]? = some o'->o'.dst=some d->d ∉ DO all o) /\
  (∀ k o',all[k]? = some o'->k≠j->Er (Cq all []) k j=false->(∀ e∈o'.after.toList,Region.binds .any e=true->e.on≠j)->o.apart all.toArray o'=true):=by
 unfold okU at h
 split at h
 ·cases h
 ·rename_i o ho
  split at h
  ·rename_i a hg hf
   simp only [Bool.and_eq_true] at h
   refine ⟨o,a,ho,hg,hf,fun p o' d h1 h2 h3 h4=>?_,fun k o' h1 h2 h3 h4=>?_⟩
   ·have h5:=Ag h.1 p (List.getElem?_eq_some_iff.1 h3).1
    simp only [h3] at h5
    have e1:Nat.blt p j=false:=by
     cases hb:Nat.blt p j with
     | false=>rfl
     | true=>have:=Nat.le_of_ble_eq_true (show Nat.ble (p+1) j=true from hb);omega
    rw [e1,IK h2] at h5
    simp only [h4,Bool.not_eq_true'] at h5
    intro hm
    have:=List.contains_iff_mem.2 hm
    rw [this] at h5;cases h5
   ·have h5:=Ag h.2 k (List.getElem?_eq_some_iff.1 h1).1
    simp only [h1,Bool.or_eq_true,h3,List.any_eq_true,Bool.and_eq_true] at h5
    rcases h5 with ((h5|h5)|⟨e,h5,h6,h7⟩)|h5
    ·exact absurd (Nat.eq_of_beq_eq_true h5) h2
    ·cases h5
    ·exact absurd (Nat.eq_of_beq_eq_true h7) (h4 e (by simpa using h5) h6)
    ·exact h5
  ·cases h
theorem Sx {n:Nat} {g:Nat->AV} (h:rB P all n g=true):(∀ o∈all,∀ cs b,o.op≠.select cs b)/\(∀ k,n<k->k<all.length->Er (Cq all []) n k=true)/\(∀ j,j<n->j<all.length->Er (Cq all []) j n=true\/okU P all n g j=true):=by
 unfold rB at h
 simp only [Bool.and_eq_true] at h
 refine ⟨fun o ho cs b hc=>?_,fun k h1 h2=>?_,fun j h1 h2=>?_⟩
 ·have:=List.all_eq_true.1 h.1 o ho
  rw [hc] at this;simp [Mg] at this
 ·have h3:=Ag h.2 k h2
  have e1:Nat.blt k n=false:=by
   cases hb:Nat.blt k n with
   | false=>rfl
   | true=>have:=Nat.le_of_ble_eq_true (show Nat.ble (k+1) n=true from hb);omega
  have e2:Nat.beq k n=false:=by
   cases hb:Nat.beq k n with
   | false=>rfl
   | true=>have:=Nat.eq_of_beq_eq_true hb;omega
  rw [e1] at h3
  simp only [e2] at h3
  exact h3
 ·have h3:=Ag h.2 j h2
  rw [IK h1] at h3
  simp only at h3
  split at h3
  ·rename_i hb;exact .inl hb
  ·exact .inr h3
theorem X2 {s q:Nat} {fr0:List AV} {L:List Info} {t:Nat}:∀ {n:Nat},q<=n->(∀ p,q<=p->p<n->Af all (s+p)≠some t)->A4 (E_ all s fr0 L n) t=A4 (E_ all s fr0 L q) t
 | 0,h,_=>by obtain rfl:q=0:=by omega
             rfl
 | n+1,h,hn=>by
   rcases Nat.lt_or_ge q (n+1) with hlt|hge
   ·rw [<- X2 (n:=n) (by omega) (fun p h1 h2=>hn p h1 (by omega))]
    have hd:=hn n (by omega) (by omega)
    simp only [E_]
    cases hdd:Af all (s+n) with
    | none=>rfl
    | some d =>
      simp only [CT,E9]
      rw [if_neg]
      rintro ⟨rfl,_⟩
      exact hd hdd
   ·obtain rfl:q=n+1:=by omega
    rfl
theorem dj {ρ:Operand->AV} {op:Op} {x:List Cd × AV} (h:Lu P ρ op=some x) {t:Nat} (ht:t∈CR (Cc op)):(.tmp t:Operand)∈op.operands:=by
 have key:∀ {l:List Operand},t∈CR l->(.tmp t:Operand)∈l:=by
  intro l
  induction l with
  | nil=>intro h;simp [CR] at h
  | cons y l ih =>
    intro h
    cases y with
    | tmp u =>
      simp only [CR,List.mem_cons] at h
      rcases h with rfl|h
      ·simp
      ·exact List.mem_cons_of_mem _ (ih h)
    | _=>exact List.mem_cons_of_mem _ (ih (by simpa [CR] using h))
 unfold Lu at h
 split at h
 ·have:=key ht;simpa [Cc,Op.operands] using this
 ·have:=key ht;simpa [Cc,Op.operands] using this
 ·have:=key ht;simpa [Cc,Op.operands] using this
 ·have:=key ht;simpa [Cc,Op.operands] using this
 ·have:=key ht;simpa [Cc,Op.operands] using this
 ·rename_i c
  have h1:=key ht
  split at h
  ·rename_i x y hc ha
   obtain ⟨cal,args,tys⟩:=c
   simp only at hc ha;subst hc
   simpa [Cc,Op.operands,Call.operands] using h1
  ·rename_i x y hc ha
   obtain ⟨cal,args,tys⟩:=c
   simp only at hc ha;subst hc
   simpa [Cc,Op.operands,Call.operands] using h1
  ·cases h
 ·have:=key ht;simpa [Cc,Op.operands] using this
 ·have:=key ht;simpa [Cc,Op.operands] using this
 ·have:=key ht;simpa [Cc,Op.operands] using this
 ·have:=key ht;simpa [Cc,Op.operands] using this
 ·cases h
def IP (all:List Oper) (I:Act->World->Prop):Prop:=∀ o∈all,∀ (a:Act) (v:Value) (w:World),I (a.put o.dst v) w->I a w
theorem i9 (hS:SumsOK P S) (hu:Dd all=true) (htmp:KO all=true) (hback:GH all) {R:AV->A0->Prop} {K:List AV->A0->VC} {Q:Exit->Act->World->Prop} {ds:Act->Prop} (hput:Ep all ds) {ro:Option Nat} {rm:Nat} {fuel:Nat}
  (hQ:∀ c a w,¬ Q (.panic c) a w) (hIP:IP all I) (ihA:∀ I',IP all I'->StA I' P S all R K Q ds ro rm fuel) (hB:yo I P S all R K Q ds ro rm (fuel+1)):StA I P S all R K Q ds ro rm (fuel+1):=by
 intro D s T0 fr0 hp0 L T' C w act hseg hend hi AQ hfu hds hgoal
 have ih:=ihA I hIP
 rcases Classical.em (∃ o,all[s+L.length]? = some o/\T'=[]/\o.guard=none/\MC all (s+L.length)=true/\s+L.length+1<EK all (s+L.length)/\(∃ c,o.op=.call c/\c.callee=.builtin .append) /\
  ∃ ρ,ρ=Ks ((CR (Cc o.op)).map fun t=>(t,Dk [] (A4 (E_ all s fr0 L L.length) t)))/\∃ i,Dx (Hk P S ρ (hps hp0 L L.length) o.op)=some i/\∃ fr' hp' a,BO S (E_ all s fr0 L L.length) (hps hp0 L L.length) (Hk P S ρ (hps hp0 L L.length) o.op) fr' hp' a /\
    (AI P S true all (some (i,EK all (s+L.length))) (s+L.length+1) (all.drop (s+L.length+1)) [] (CT fr' o.dst (DN a)) hp' K).sat R) with h|hne
 ·obtain ⟨o,ho,rfl,hg,hbef,hlt,happ,ρ,hρ,i,hgr,fr',hp',a,hbo,hh⟩:=h
  exact Yc hS hu hB hseg hi ho hg hbef hlt happ hρ hgr hbo hh AQ hfu hds hgoal
 rcases Classical.em (fY P all true (s+L.length) T' (E_ all s fr0 L L.length)->Dj true all (s+L.length)=true\/¬ (s+L.length∈Region.ready .any all.toArray D)\/∀ j,j<s+L.length->Ac D j) with hbx|hbx
 rotate_left
 ·simp only [Classical.not_imp,not_or,Classical.not_not] at hbx
  obtain ⟨hbx,hnb,hrd,hnj⟩:=hbx
  rcases hbx with h|⟨_,rfl,hbu⟩
  ·exact absurd h hnb
  obtain ⟨hsel,_,hbf⟩:=Sx hbu
  obtain ⟨on,hon,hnn,hnpre,_⟩:=BJ hi.size hi.closed hrd
  have hnlt:=(List.getElem?_eq_some_iff.1 hon).1
  obtain ⟨j,⟨hjn,hjl⟩,hmin⟩:=AF9 (p:=fun j=>j<s+L.length/\¬ Ac D j) (by
   rcases Classical.em (∃ j,j<s+L.length/\¬ Ac D j) with h|h
   ·exact h
   ·exact absurd (fun j hj=>Classical.byContradiction fun hl=>h ⟨j,hj,hl⟩) hnj)
  have hjs:s<=j:=by
   rcases Nat.lt_or_ge j s with h|h
   ·exact absurd (hi.before j h) hjl
   ·exact h
  have hjlen:j<all.length:=by omega
  rcases hbf j hjn hjlen with h|hok
  ·exact absurd (Au hback hi.closed _ _ hon hnpre h) hjl
  obtain ⟨o,a,ho,hg,hfr,hst,hap⟩:=jD hok
  obtain ⟨q,rfl⟩:=Nat.exists_eq_add_of_le hjs
  have hq:q<L.length:=by omega
  have hjr:s+q∈Region.ready .any all.toArray D:=mem_ready ho (by rw [CY (by rw [hi.size];exact hjlen)];simpa [Ac] using hjl) fun e he hb=>Classical.byContradiction fun hl=>hmin e.on (hback _ _ ho e he hb) ⟨by have:=hback _ _ ho e he hb;omega,hl⟩
  obtain ⟨o2,ho2,hnl',hpre,hLst,hclosed,hfu1,hsz⟩:=BJ hi.size hi.closed hjr
  rw [ho] at ho2;injection ho2 with ho2;subst ho2
  have hlook:=fun t ht=>hi.look hback htmp hseg.len hq ho hnl' hpre (t:=t) ht
  have hsame:∀ t∈DO all o,A4 (E_ all s fr0 L L.length) t=A4 (E_ all s fr0 L q) t:=fun t ht=>X2 (by omega) fun p h1 h2 hd=>by
   obtain ⟨o',ho',hd'⟩:=AY hd
   exact hst (s+p) o' t (by omega) (by omega) ho' hd' ht
  have hrho:∀ x,Rel C w (Ks ((CR (Cc o.op)).map fun t=>(t,Dk [] (A4 (E_ all s fr0 L L.length) t))) x) (act.eval x):=fun x=>Ly (T:=[]) (fun t ht=>by
   have hm:=G5 (all:=all) (dj hfr ht)
   rw [hsame t hm];exact hlook t hm) x
  obtain ⟨v,hv,hdf,hsl,hrun⟩:=Lt hi.core.hr.ilt hrho (fun v=>rfl) hfr (fun p hp=>by cases hp)
  have hwt:Region.wanted o (yielded all.toArray act.tmps)=true:=by
   unfold okG at hg
   unfold Region.wanted
   cases hgd:o.guard with
   | none=>rfl
   | some gw =>
     obtain ⟨k,b⟩:=gw
     rw [hgd] at hg
     simp only at hg ⊢
     cases hd:Af all k with
     | none=>rw [hd] at hg;cases hg
     | some d =>
       rw [hd] at hg
       simp only at hg
       have hm:d∈DO all o:=JW ⟨k,b,hgd,hd⟩
       have hl:=hlook d hm
       rw [<- hsame d hm] at hl
       have hr:=Ly (C:=C) (w:=w) (T:=[]) (l:=[d]) (fr:=E_ all s fr0 L L.length) (act:=act) (fun t ht=>by rw [List.mem_singleton.1 ht];exact hl) (.tmp d)
       have he:Ks ([d].map fun t=>(t,Dk [] (A4 (E_ all s fr0 L L.length) t))) (.tmp d)=Dk [] (A4 (E_ all s fr0 L L.length) d):=by
        show JX [(d,Dk [] (A4 (E_ all s fr0 L L.length) d))] d=_
        simp [JX]
       rw [he] at hr
       rw [F3 hd]
       generalize Dk [] (A4 (E_ all s fr0 L L.length) d)=A at hr hg
       have hB:A=.lb b:=by
        cases A<;>simp only at hg<;>first|(cases hg;done)|(rw [eq_of_beq hg])
       rw [hB] at hr
       have hr:Rel C w (.lb b) (act.tmps.getD d undef):=hr
       generalize act.tmps.getD d undef=u at hr
       cases hr
       simp [yv]
  have hfix:Fix P (Imm C w) all.toArray o act v:=⟨hdf,hsl,hwt,hrun⟩
  have hao:all.toArray[s+q]? = some o:=by simpa using ho
  obtain ⟨o',Tq,Tq1,g1,hstp,hsub⟩:=hseg.step q hq
  rw [ho] at g1;injection g1 with g1;subst g1
  have hdd:Af all (s+q)=o.dst:=El ho
  obtain ⟨rb,hrb⟩:=Aj hp0 L q
  have hds':=hput o (List.mem_of_getElem? ho) act v hds
  obtain ⟨C',k1,k2,k3⟩:∃ C',HR C' (hps hp0 L L.length) w/\RelG [] C' w (L.getD q default).val v/\Grow (hps hp0 L q).length (L.getD q default).new.length C w C' w:=by
   rcases G0 hstp hsub (act:=act) hi.core.hr (Nq hq) (hi.core.ff hq hnl') (fun x hx=>EL x fun t ht=>hlook t (G5 (ht▸hx))) (fun d hd=>hlook d (JW hd)) with ⟨_,hr⟩|⟨hw,_⟩
   ·have hr0:=hrun w (fun _ _=>rfl)
    rcases hr with ⟨v',w',h1,h2⟩|⟨f,args,h1,_⟩|⟨w',h1,_⟩
    ·rw [hr0] at h1;injection h1 with h1 h3;injection h1 with h1;subst h1 h3;exact h2
    ·rw [hr0] at h1;injection h1 with h1 _;cases h1
    ·rw [hr0] at h1;injection h1 with h1 _;cases h1
   ·rw [hwt] at hw;cases hw
  have htr:Tr S.lo C w C' w:=k3.tr (by rw [hrb];simp;omega)
  have hcore:=hi.core.next (dn':=fun q'=>Ac (D.setIfInBounds (s+q) true) (s+q')) (q:=q) hq hnl' (fun p hp=>by
    rw [hLst]
    exact ⟨fun h=>h.imp id (by omega),fun h=>h.imp id (by omega)⟩) (fun p hp hne t hd hd'=>by
    obtain ⟨o2,ho2,hd2⟩:=AY hd'
    rw [hdd] at hd
    exact (DR hu ho).1 t hd _ o2 (by omega) ho2 hd2) k1 k2 k3
  simp only [hdd] at hcore
  refine VF (I:=I) (J:=Imm C w) (a0:=act) hao hfix (fun f=>trivial) (fun k o' cs b hk=>hsel o' (List.mem_of_getElem? (by simpa using hk)) cs b) hQ (fun a' w' h=>hIP o (List.mem_of_getElem? ho) a' v w' h) fuel D act w
   (fun k ok hk hne hun hno=>?_) hjr (fun t _=>rfl) (hgoal.2 _ _ _ (.refl _ _ _) hds') (fun _ _=>rfl) ?_
  ·have hk':all[k]? = some ok:=by simpa using hk
   refine hap k ok hk' hne ?_ (fun e he hb=>hno e (by simpa using he) hb)
   cases ho3:Er (Cq all []) k (s+q) with
   | false=>rfl
   | true =>
     have:=Au hback hi.closed _ _ ho hpre ho3
     rw [CY (by rw [hi.size];exact (List.getElem?_eq_some_iff.1 hk').1)] at hun
     unfold Ac at this
     rw [hun] at this;cases this
  ·refine ihA (fun a' w'=>I a' w'/\Imm C w w') (fun o' ho' a' v' w' h=>⟨hIP o' ho' a' v' w' h.1,h.2⟩) _ s T0 fr0 hp0 L [] C' w _ hseg hend ⟨hsz,fun k hk=>(hLst k).2 (.inl (hi.before k hk)),fun k hk hl=>?_,hclosed,hcore⟩ AQ (hfu1 fuel hfu) hds'
    ⟨hgoal.1.step htr,fun C2 w2 act2 t h=>⟨(hgoal.step htr).2 _ _ _ t h,fun b hb=>Imm.tr k1 t b (k3.imm b hb)⟩⟩
   rcases (hLst k).1 hl with h|h
   ·exact hi.behind k hk h
   ·omega
 refine ⟨fun hr=>Zj hseg hend hi AQ hds hgoal (Ef hback hi.size hr),fun i hir=>?_⟩
 obtain ⟨o,ho,hnl',hpre,hLst,hclosed,hfu1,hsz⟩:=BJ hi.size hi.closed hir
 have hlt:=(List.getElem?_eq_some_iff.1 ho).1
 have hfu':=hfu1 fuel hfu
 have hao:all.toArray[i]? = some o:=by simpa using ho
 unfold wpOpIn
 simp only [hao]
 have his:s<=i:=by
  rcases Nat.lt_or_ge i s with h|h
  ·exact absurd (hi.before i h) hnl'
  ·exact h
 rcases Nat.lt_trichotomy i (s+L.length) with hile|hie|hige
 ·-- an operation that turns nothing
  obtain ⟨q,rfl⟩:=Nat.exists_eq_add_of_le his
  have hq:q<L.length:=by omega
  obtain ⟨o',Tq,Tq1,h1,hst,hsub⟩:=hseg.step q hq
  rw [ho] at h1;injection h1 with h1;subst h1
  have hlook:=fun t ht=>hi.look hback htmp hseg.len hq ho hnl' hpre (t:=t) ht
  obtain ⟨rb,hrb⟩:=Aj hp0 L q
  have hdd:Af all (s+q)=o.dst:=El ho
  have hk:∀ v w',(∃ C',HR C' (hps hp0 L L.length) w'/\RelG T' C' w' (L.getD q default).val v/\Grow (hps hp0 L q).length (L.getD q default).new.length C w C' w') ->
    I (act.put o.dst v) w'/\CQ I (Fa ro) rm P all.toArray Q fuel (D.setIfInBounds (s+q) true) (act.put o.dst v) w':=by
   intro v w' ⟨C',h1,h2,h3⟩
   have hcore:=hi.core.next (dn':=fun q'=>Ac (D.setIfInBounds (s+q) true) (s+q')) (q:=q) hq hnl' (fun p hp=>by
     rw [hLst]
     exact ⟨fun h=>h.imp id (by omega),fun h=>h.imp id (by omega)⟩) (fun p hp hne t hd hd'=>by
     obtain ⟨o2,ho2,hd2⟩:=AY hd'
     rw [hdd] at hd
     exact (DR hu ho).1 t hd _ o2 (by omega) ho2 hd2) h1 h2 h3
   simp only [hdd] at hcore
   have htr:Tr S.lo C w C' w':=h3.tr (by rw [hrb];simp;omega)
   have hds':=hput o (List.mem_of_getElem? ho) act v hds
   refine ⟨hgoal.2 _ _ _ htr hds',ih _ s T0 fr0 hp0 L T' C' w' _ hseg hend ⟨hsz,fun k hk=>(hLst k).2 (.inl (hi.before k hk)),fun k hk hl=>?_,hclosed,hcore⟩ AQ hfu' hds' (hgoal.step htr)⟩
   rcases (hLst k).1 hl with h|h
   ·exact hi.behind k hk h
   ·omega
  rcases G0 hst hsub (act:=act) hi.core.hr (Nq hq) (hi.core.ff hq hnl') (fun x hx=>EL x fun t ht=>hlook t (G5 (ht▸hx))) (fun d hd=>hlook d (JW hd)) with ⟨hw,hr⟩|⟨hw,hr⟩
  ·rw [hw]
   simp only [if_true]
   exact Ran.wpIn (hr.mono hk)
  ·rw [hw]
   simp only [Bool.false_eq_true,if_false]
   exact ⟨fun _ _=>trivial,hk _ _ hr⟩
 ·-- the one that turns
  subst hie
  rcases hend with ⟨h,_⟩|⟨o',ho',hbar,htu,hw,ρ,hρ,fr',hp',a,hbo,ht1,hh⟩|h
  ·omega
  ·rw [ho] at ho';injection ho' with ho';subst ho'
   have hall:∀ q,q<L.length->Ac D (s+q):=fun q hq=>by
    rcases hbx hbar with h|h|h
    ·exact Au hback hi.closed _ _ ho hpre ((IL h (by omega)).1 (by omega))
    ·exact absurd hir h
    ·exact h (s+q) (by omega)
   have hF:=hi.frame hall
   have hwant:Region.wanted o (yielded all.toArray act.tmps)=true:=Fg hw fun d _=>hF.get d
   rw [hwant]
   simp only [if_true]
   obtain ⟨rb,hrb⟩:=Aj hp0 L L.length
   have hlo1:S.lo<=(hps hp0 L L.length).length:=by rw [hrb];simp;omega
   refine Ran.wpIn ((Jk hS o htu hρ hi.core.hr hF hlo1 hbo).mono fun v w' ⟨C',h1,h2,h3,h4⟩=>?_)
   have hF2:FR T' C' w' (CT fr' o.dst (DN a)) (act.put o.dst v).tmps:=h3.put (.plain (Du h2) (BQ _)) _
   have ee:=Nat.le_trans hlo1 hbo.len
   obtain ⟨L2,T2,hs2,he2⟩:=LG hS hu (s:=s+L.length+1) (T0:=T') (fr0:=CT fr' o.dst (DN a)) (hp0:=hp') (all.drop (s+L.length+1)) [] T' ⟨by simp only [List.length_nil];omega,.refl _,fun q hq=>by simp at hq⟩ rfl ht1 hh
   obtain ⟨r2,hr2⟩:=Aj hp' L2 L2.length
   have hds':=hput o (List.mem_of_getElem? ho) act v hds
   refine ⟨hgoal.2 _ _ _ h4 hds',ih _ _ _ _ _ L2 T2 C' w' _ hs2 he2 ⟨hsz,fun k hk=>(hLst k).2 ?_,fun k hk hl=>?_,hclosed,⟨by rw [hr2];exact h1.ext r2,fun q hq _ t ht=>?_,fun q hq hl=>?_,fun t _=>(hF2.get t).sub hs2.sub,hF2.len⟩⟩ ee hfu' hds' (hgoal.step h4)⟩
   ·rcases Nat.lt_trichotomy k (s+L.length) with h|h|h
    ·rcases Nat.lt_or_ge k s with h'|h'
     ·exact .inl (hi.before k h')
     ·obtain ⟨q,rfl⟩:=Nat.exists_eq_add_of_le h'
      exact .inl (hall q (by omega))
    ·exact .inr h
    ·omega
   ·rcases (hLst k).1 hl with h|h
    ·exact hi.behind k (by omega) h
    ·omega
   ·obtain ⟨r,hr⟩:=Aj hp' L2 q
    cases hc:C'.ρ ((hps hp' L2 q).length+t) with
    | none=>rfl
    | some p=>have:=h1.lt hc;rw [hr] at this;simp at this;omega
   ·exfalso
    rcases (hLst _).1 hl with h|h
    ·exact hi.behind _ (by omega) h
    ·omega
  ·exact absurd h hne
 ·exfalso
  rcases hend with ⟨h,_⟩|⟨o',ho',hbar,_⟩|h
  ·omega
  ·refine hi.behind _ (Nat.le_refl _) (Au hback hi.closed _ _ ho hpre ?_)
   rcases hbar with h|⟨_,_,h⟩
   ·exact (IL h hlt).2 hige
   ·exact (Sx h).2.1 i hige hlt
  ·exact absurd h hne
theorem ME (hS:SumsOK P S) (hu:Dd all=true) (htmp:KO all=true) (hback:GH all) {R:AV->A0->Prop} {K:List AV->A0->VC} {Q:Exit->Act->World->Prop} {ds:Act->Prop} (hput:Ep all ds) {ro:Option Nat} {rm:Nat} (hQ:∀ c a w,¬ Q (.panic c) a w) :
  ∀ (fuel:Nat) (I:Act->World->Prop),IP all I->StA I P S all R K Q ds ro rm fuel/\yo I P S all R K Q ds ro rm fuel:=by
 intro fuel
 induction fuel with
 | zero=>exact fun I _=>⟨hZ,hP⟩
 | succ fuel ih =>
   intro I hI
   have hb:=hX hS hu htmp hback hput (ih I hI).1 (ih I hI).2
   exact ⟨i9 hS hu htmp hback hput hQ hI (fun I' h=>(ih I' h).1) hb,hb⟩
end
end Abs
end Go.Proofs.YtccgngldoinokaaGreat

namespace Go.Proofs.YtccgngldoinokaaGreat
namespace Abs
open Go Go.RowKit
theorem Ms:∀ (l:List Oper) (n:Nat) (d:Option Nat) (q:Nat),(Jl l n d)[q]? = if q=n then (l[q]?).map (fun o=>{ o with dst:=d }) else l[q]?
 | [],n,d,q=>by simp [Jl]
 | o::l,0,d,0=>by simp [Jl]
 | o::l,0,d,q+1=>by simp [Jl]
 | o::l,n+1,d,0=>by simp [Jl]
 | o::l,n+1,d,q+1=>by
   simp only [Jl,List.getElem?_cons_succ]
   rw [Ms l n d q]
   simp
theorem Mr:∀ (l:List Oper) (n:Nat) (d:Option Nat),(Jl l n d).length=l.length
 | [],_,_=>rfl
 | _::_,0,_=>rfl
 | _::l,n+1,d=>by simp [Jl,Mr l n d]
theorem MF {d:Nat} {t:TypeId}:∀ {l:List Oper} {n a:Nat},O0 d t n l=some a->n<=a/\∃ o,l[a-n]? = some o/\o.dst=some d/\o.op=.alloc t
 | [],_,_,h=>by cases h
 | o::l,n,a,h=>by
   simp only [O0] at h
   split at h
   ·rename_i h1 h2
    injection h with h;subst h
    refine ⟨Nat.le_refl _,o,by simp,?_,?_⟩
    ·unfold k6 at h1
     split at h1
     ·rename_i e he;rw [he,Nat.eq_of_beq_eq_true h1]
     ·cases h1
    ·unfold AG6 at h2
     split at h2
     ·rename_i t' he;rw [he,Nat.eq_of_beq_eq_true h2]
     ·cases h2
   ·obtain ⟨h1,o',h2,h3⟩:=MF h
    refine ⟨by omega,o',?_,h3⟩
    rw [show a-n=(a-(n+1))+1 by omega,List.getElem?_cons_succ]
    exact h2
theorem eW {op:Op} {t:TypeId} {d:Nat} {x:Operand} (h:vg op=some (t,d,x)):op=.store t (.tmp d) x:=by
 unfold vg at h
 split at h
 ·injection h with h;injection h with h1 h2;injection h2 with h2 h3;subst h1 h2 h3;rfl
 ·cases h
theorem Jw {all:List Oper} {z:Sw}:∀ {l:List Oper} {n:Nat},QP all n l=some z->(∀ q,l[q]? = all[n+q]?)->(∃ o,all[z.a]? = some o/\o.dst=some z.d/\o.op=.alloc z.t)/\∃ o,all[z.s]? = some o/\o.op=.store z.t (.tmp z.d) z.x
 | [],_,h,_=>by cases h
 | o::l,n,h,hl=>by
   have hl':∀ q,l[q]? = all[n+1+q]?:=fun q=>by
    have:=hl (q+1)
    rw [List.getElem?_cons_succ] at this
    rw [this];congr 1;omega
   simp only [QP] at h
   split at h
   ·rename_i t d x ho
    split at h
    ·exact Jw h hl'
    ·split at h
     ·rename_i a ha
      injection h with h;subst h
      obtain ⟨_,o',h2,h3,h4⟩:=MF ha
      refine ⟨⟨o',by simpa using h2,h3,h4⟩,o,?_,eW ho⟩
      have:=hl 0
      simpa using this.symm
     ·exact Jw h hl'
   ·exact Jw h hl'
section
variable {P:Program} {S:Sums} {C C':Cx} {w w':World} {H hp:A0} {all:List Oper} {z:Sw}
structure SwReg (all:List Oper) (z:Sw):Prop where
 oa:∃ o:Oper,all[z.a]? = some o/\o.dst=some z.d/\o.op=.alloc z.t
 os:∃ o:Oper,all[z.s]? = some o/\o.dst=none/\o.op=.store z.t (.tmp z.d) z.x
 ord:Er (Cq all []) z.a z.s=true
 ng:∀ (q:Nat) (o:Oper),all[q]? = some o->o.guard=none
 uq:Dd (Ap all z)=true
 tm:KO (Ap all z)=true
 bk:GH (Ap all z)
theorem SwReg.of (hz:QP all 0 all=some z) (h:ta all=true):SwReg all z:=by
 obtain ⟨h1,o,h2,h3⟩:=Jw hz (fun q=>by simp)
 unfold ta at h
 rw [hz] at h
 simp only [h2,Bool.and_eq_true,Iy] at h
 obtain ⟨⟨⟨⟨h4,h5,h6⟩,h7⟩,h8⟩,h9⟩:=h
 refine ⟨h1,⟨o,h2,by simpa using h9,h3⟩,h8,fun q o' hq=>?_,h4,h5,ED h6⟩
 have:=List.all_eq_true.1 h7 o' (List.mem_of_getElem? hq)
 simpa using this
theorem SwReg.ne (hz:SwReg all z):z.a≠z.s:=fun e=>by
 obtain ⟨o,h1,_,h2⟩:=hz.oa
 obtain ⟨o',h3,_,h4⟩:=hz.os
 rw [e,h3] at h1;injection h1 with h1;subst h1
 rw [h4] at h2;cases h2
theorem Hp:(Ap all z).length=all.length:=by unfold Ap;rw [Mr,Mr]
theorem dG (hz:SwReg all z) (q:Nat):(Ap all z)[q]? = if q=z.a then (all[q]?).map (fun o=>{ o with dst:=none }) else if q=z.s then (all[q]?).map (fun o=>{ o with dst:=some z.d }) else all[q]?:=by
 unfold Ap
 have hne:=hz.ne
 rw [Ms,Ms]
 by_cases h1:q=z.s
 ·subst h1
  rw [if_pos rfl,if_neg (Ne.symm hne),if_neg (Ne.symm hne),if_pos rfl]
 ·rw [if_neg h1]
  by_cases h2:q=z.a
  ·rw [if_pos h2,if_pos h2]
  ·rw [if_neg h2,if_neg h2,if_neg h1]
theorem Hq (hz:SwReg all z) {q:Nat} {o:Oper} (ho:all[q]? = some o):∃ d,(Ap all z)[q]? = some { o with dst:=d }/\Af (Ap all z) q=d/\(q≠z.a->q≠z.s->d=o.dst)/\(q=z.a->d=none)/\(q=z.s->d=some z.d):=by
 have h:=dG hz q
 rw [ho] at h
 by_cases h1:q=z.a
 ·rw [if_pos h1] at h
  exact ⟨none,h,El h,fun h=>absurd h1 h,fun _=>rfl,fun h2=>absurd (h1.symm.trans h2) hz.ne⟩
 ·rw [if_neg h1] at h
  by_cases h2:q=z.s
  ·rw [if_pos h2] at h
   exact ⟨some z.d,h,El h,fun _ h=>absurd h2 h,fun h=>absurd h h1,fun _=>rfl⟩
  ·rw [if_neg h2] at h
   exact ⟨o.dst,h,El h,fun _ _=>rfl,fun h=>absurd h h1,fun h=>absurd h h2⟩
theorem Xu (hz:SwReg all z) {q:Nat} {o:Oper} (ho:(Ap all z)[q]? = some o):∃ o',all[q]? = some o'/\o.after=o'.after:=by
 have hlt:q<all.length:=by rw [<- Hp (z:=z)];exact (List.getElem?_eq_some_iff.1 ho).1
 have hq:all[q]? = some (all[q]'hlt):=List.getElem?_eq_getElem _
 obtain ⟨d,h1,_⟩:=Hq hz hq
 rw [h1] at ho;injection ho with ho
 exact ⟨_,hq,by rw [<- ho]⟩
theorem fH (hz:SwReg all z) {D:Nat->Prop} (h:Fc all D):Fc (Ap all z) D:=fun i o ho hi e he hb=>by
 obtain ⟨o',h1,h2⟩:=Xu hz ho
 exact h i o' h1 hi e (h2▸he) hb
structure SwSeg (P:Program) (all:List Oper) (z:Sw) (fr0:List AV) (hp0:A0) (L:List Info):Prop where
 len:L.length<=all.length
 la:z.a<L.length->(L.getD z.a default).new=[]/\(FD P z.t).isSome=true
 ls:z.s<L.length->∃ l,l=AU (Ks ((CR [z.x]).map fun t=>(t,Dk [] (A4 (E_ (Ap all z) 0 fr0 L z.s) t))) z.x)/\l.length=A9 P z.t/\0<A9 P z.t/\LU l=true /\
  (L.getD z.s default).val=.own (hps hp0 L z.s).length 0/\(L.getD z.s default).new=[.cells z.t l]
 step:∀ q,q<L.length->q≠z.a->q≠z.s->∃ o,all[q]? = some o/\StepOK P all [] [] o (E_ (Ap all z) 0 fr0 L q) (hps hp0 L q) (L.getD q default)
def lz (P:Program) (S:Sums) (all:List Oper) (z:Sw) (R:AV->A0->Prop) (K:List AV->A0->VC) (fr0:List AV) (hp0:A0) (L:List Info):Prop :=
 (L.length=all.length/\(K (E7 (E_ (Ap all z) 0 fr0 L L.length)) (hps hp0 L L.length)).sat R) \/
 (L.length+1=all.length/\z.a≠L.length/\z.s≠L.length/\Dj true all L.length=true/\∃ o,all[L.length]? = some o/\GA o.op=true/\∃ ρ,MG (E_ (Ap all z) 0 fr0 L L.length) ρ /\
  ∃ fr' hp' a,BO S (E_ (Ap all z) 0 fr0 L L.length) (hps hp0 L L.length) (Hk P S ρ (hps hp0 L L.length) o.op) fr' hp' a/\(K (E7 (CT fr' o.dst (DN a))) hp').sat R)
theorem tY (hS:SumsOK P S) (hz:SwReg all z) {R:AV->A0->Prop} {K:List AV->A0->VC} {fr0:List AV} {hp0:A0} {fb:Bool} (hfb:fb=true->Dj true all (all.length-1)=true):∀ (rest:List Oper) (L:List Info),SwSeg P all z fr0 hp0 L->(Ap all z).drop L.length=rest ->
  (Gw P S z fb L.length rest (E_ (Ap all z) 0 fr0 L L.length) (hps hp0 L L.length) K).sat R ->
  ∃ L',SwSeg P all z fr0 hp0 L'/\lz P S all z R K fr0 hp0 L':=by
 intro rest
 induction rest with
 | nil =>
   intro L hs hd h
   refine ⟨L,hs,.inl ⟨?_,by simpa only [Gw,EC] using h⟩⟩
   have:=List.drop_eq_nil_iff.1 hd
   have:=hs.len
   rw [Hp] at *
   omega
 | cons o rest ih =>
   intro L hs hd h
   have hlt:L.length<all.length:=by
    rw [<- Hp (z:=z)]
    rcases Nat.lt_or_ge L.length (Ap all z).length with h|h
    ·exact h
    ·rw [List.drop_eq_nil_of_le h] at hd;cases hd
   have ho:(Ap all z)[L.length]? = some o:=by
    have:=List.getElem?_drop (xs:=Ap all z) (i:=L.length) (j:=0)
    rw [hd] at this;simpa using this.symm
   have hd':(Ap all z).drop (L.length+1)=rest:=by
    rw [<- List.drop_drop,hd];rfl
   have hoa:all[L.length]? = some (all[L.length]'hlt):=List.getElem?_eq_getElem _
   obtain ⟨dd,hg,hdst,hd1,hd2,hd3⟩:=Hq hz hoa
   have eo:o={ all[L.length]'hlt with dst:=dd }:=by rw [ho] at hg;injection hg
   have next:∀ i:Info,(z.a=L.length->i.new=[]/\(FD P z.t).isSome=true) ->
     (z.s=L.length->∃ l,l=AU (Ks ((CR [z.x]).map fun t=>(t,Dk [] (A4 (E_ (Ap all z) 0 fr0 L L.length) t))) z.x)/\l.length=A9 P z.t/\0<A9 P z.t/\LU l=true/\i.val=.own (hps hp0 L L.length).length 0/\i.new=[.cells z.t l]) ->
     (L.length≠z.a->L.length≠z.s->StepOK P all [] [] (all[L.length]'hlt) (E_ (Ap all z) 0 fr0 L L.length) (hps hp0 L L.length) i) ->
     (Gw P S z fb (L.length+1) rest (CT (E_ (Ap all z) 0 fr0 L L.length) dd i.val) (hps hp0 L L.length++i.new) K).sat R ->
     ∃ L',SwSeg P all z fr0 hp0 L'/\lz P S all z R K fr0 hp0 L':=by
    intro i hna hns hst hh
    have e1:E_ (Ap all z) 0 fr0 (L++[i]) (L++[i]).length=CT (E_ (Ap all z) 0 fr0 L L.length) dd i.val:=by
     rw [List.length_append,List.length_singleton]
     simp only [E_]
     rw [DZ (Nat.le_refl _),DT,Nat.zero_add,hdst]
    have e2:hps hp0 (L++[i]) (L++[i]).length=hps hp0 L L.length++i.new:=by
     rw [List.length_append,List.length_singleton]
     simp only [hps]
     rw [E8 (Nat.le_refl _),DT]
    have e3:(L++[i]).length=L.length+1:=by simp
    refine ih (L++[i]) ⟨by rw [e3];omega,fun ha=>?_,fun hs'=>?_,fun q hq hqa hqs=>?_⟩ (by rw [e3];exact hd') (by rw [e1,e2,e3];exact hh)
    ·rw [e3] at ha
     rcases Nat.lt_or_ge z.a L.length with h|h
     ·rw [DY h];exact hs.la h
     ·have:z.a=L.length:=by omega
      rw [this,DT];exact hna this
    ·rw [e3] at hs'
     rcases Nat.lt_or_ge z.s L.length with h|h
     ·rw [DY h,DZ (by omega),E8 (by omega)];exact hs.ls h
     ·have:z.s=L.length:=by omega
      rw [this,DT,DZ (Nat.le_refl _),E8 (Nat.le_refl _)];exact hns this
    ·rw [e3] at hq
     rcases Nat.lt_or_ge q L.length with hql|hql
     ·rw [DY hql,DZ (by omega),E8 (by omega)];exact hs.step q hql hqa hqs
     ·obtain rfl:q=L.length:=by omega
      rw [DT,DZ (Nat.le_refl _),E8 (Nat.le_refl _)]
      exact ⟨_,hoa,hst hqa hqs⟩
   simp only [Gw] at h
   split at h
   ·rename_i ha
    have ha:=Nat.eq_of_beq_eq_true ha
    split at h
    ·rename_i l hl
     refine next ⟨none,true,.top,[]⟩ (fun _=>⟨rfl,by rw [hl];rfl⟩) (fun hs'=>absurd (ha.symm.trans hs'.symm) hz.ne) (fun hn=>absurd ha hn) ?_
     rw [hd2 ha]
     simpa [CT] using h
    ·exact h.elim
   ·rename_i ha hs'
    have hs':=Nat.eq_of_beq_eq_true hs'
    rw [Cy,Ae] at h
    split at h
    ·rename_i hc
     simp only [Bool.and_eq_true,decide_eq_true_eq] at hc
     rw [A8,Aq,GW] at h
     refine next ⟨none,false,.own (hps hp0 L L.length).length 0,[.cells z.t _]⟩ (fun ha'=>absurd (ha'.trans hs') hz.ne) (fun _=>⟨_,rfl,hc.1.1,hc.1.2,hc.2,rfl,rfl⟩) (fun _ hn=>absurd hs' hn) ?_
     rw [hd3 hs']
     exact h
    ·exact h.elim
   ·rename_i ha hs'
    have hqa:L.length≠z.a:=fun e=>by rw [e] at ha;simp at ha
    have hqs:L.length≠z.s:=fun e=>by rw [e] at hs';simp at hs'
    have hdd:=hd1 hqa hqs
    rw [hdd] at eo
    have eo:o=all[L.length]'hlt:=eo
    rcases Ht hS (T:=[]) (ctx:=none) trivial h with ⟨b,new,h1,h2⟩|⟨hn,_,htu,ρ,hρ,fr',hp',a,h1,h2⟩
    ·refine next ⟨none,false,b,new⟩ (fun e=>absurd e.symm hqa) (fun e=>absurd e.symm hqs) (fun _ _=>⟨.refl _,by unfold Eo;rw [hz.ng _ _ hoa];rfl,fun _=>⟨by rw [<- eo];exact h1,trivial⟩,fun h=>by cases h⟩) ?_
     rw [hdd,<- eo]
     exact h2
    ·cases rest with
     | cons _ _=>cases hn
     | nil =>
       have hl1:L.length+1=all.length:=by
        have:=List.drop_eq_nil_iff.1 hd'
        rw [Hp] at this;omega
       simp only [Gw,EC] at h2
       refine ⟨L,hs,.inr ⟨hl1,Ne.symm hqa,Ne.symm hqs,by have:=hfb hn;rwa [show all.length-1=L.length by omega] at this,o,by rw [eo];exact hoa,htu,ρ,hρ,fr',hp',a,h1,h2⟩⟩
structure SwObj (P:Program) (z:Sw) (n0:Nat) (C:Cx) (w:World) (act:Act) (b:Nat):Prop where
 val:act.tmps.getD z.d undef=.pointer (some ⟨b,0,none⟩)
 new:n0<=b
 lt:b<w.heap.size
 cell:∃ zs:Array Value,w.heap[b]? = some (.cells zs z.t (0,0))/\zs.size=A9 P z.t
 ni:¬ C.I b
 nr:∀ i b' c n,C.ρ i=some (.at b' c n)->b'≠b
 no:C.O b=none
structure SwInv (P:Program) (S:Sums) (all:List Oper) (z:Sw) (fr0:List AV) (hp0:A0) (L:List Info) (Cs:Cx) (ws:World) (D:Array Bool) (C:Cx) (w:World) (act:Act):Prop where
 size:D.size=all.length
 closed:Fc all (Ac D)
 core:Core (fun q=>Af (Ap all z) q) (fun q=>Ac D q) fr0 hp0 L [] C w act
 tr:Tr S.lo Cs ws C w
 ob:Ac D z.a->¬ Ac D z.s->∃ b,SwObj P z ws.heap.size C w act b
 last:L.length<all.length->¬ Ac D L.length
theorem Core.put {dd:Nat->Option Nat} {dn dn':Nat->Prop} {fr0:List AV} {hp0:A0} {L:List Info} {act:Act} (hi:Core dd dn fr0 hp0 L [] C w act) (hx:Cext C w C' w') (hr:HR C' (hps hp0 L L.length) w')
  (hfree:∀ q,q<L.length->¬ dn' q->∀ t,t<(L.getD q default).new.length->C'.ρ ((hps hp0 L q).length+t)=none) (hd:∀ q,q<L.length->dn' q->dn q\/∃ t,dd q=some t/\RelG [] C' w' (L.getD q default).val (act.tmps.getD t undef))
  (hdn:∀ q,q<L.length->dn q->dn' q):Core dd dn' fr0 hp0 L [] C' w' act:=by
 refine ⟨hr,hfree,fun q hq hn t hdt hlt=>?_,fun t ht=>(hi.v2 t (ht.imp (fun h q hq hn=>h q hq (hdn q hq hn)) id)).mono hx,hi.tsz⟩
 rcases hd q hq hn with h|⟨t',h1,h2⟩
 ·exact (hi.v1 q hq h t hdt hlt).mono hx
 ·rw [hdt] at h1;injection h1 with h1;subst h1;exact h2
theorem HR.alloc (h:HR C H w) (o:Obj):HR C H (w.alloc o)/\Cext C w C (w.alloc o):=by
 have hx:Cext C w C (w.alloc o):=⟨fun _ _ h=>h,fun _ h=>h,fun b hb=>heap_alloc w o b (h.ilt b hb)⟩
 exact ⟨⟨fun i p hi=>(h.live i p hi).mono hx (fun q c m hq=>heap_alloc w o q (by subst hq;exact (h.fresh _ _ _ _ hi).1)) (fun b x hb=>⟨hb,heap_alloc w o b (h.sub b x hb).1⟩),h.inj,fun i b c n hi=>⟨Nat.lt_of_lt_of_le (h.fresh _ _ _ _ hi).1 (by simp),(h.fresh _ _ _ _ hi).2⟩,
  fun b hb=>Nat.lt_of_lt_of_le (h.ilt b hb) (by simp),fun b x hb=>⟨Nat.lt_of_lt_of_le (h.sub b x hb).1 (by simp),(h.sub b x hb).2.1,(h.sub b x hb).2.2.1,(h.sub b x hb).2.2.2.keep (heap_alloc w o b (h.sub b x hb).1)⟩⟩,hx⟩
theorem Tr.alloc (lo:Nat) (hi:∀ b,C.I b->b<w.heap.size) (o:Obj):Tr lo C w C (w.alloc o) :=
 ⟨rfl,rfl,rfl,by simp,fun k hk _ _=>heap_alloc w o k hk,fun _ h=>h,fun _ h=>.inl h,fun _ _=>rfl,fun i b c n h h'=>.inl ⟨i,c,n,h,h'⟩,fun b x h=>.inl ⟨x,h⟩⟩
theorem gt {lo j:Nat} {Cs:Cx} {ws:World} {act:Act} {b:Nat} (hH:HR C H w) (ht:Tr lo Cs ws C w) (hob:SwObj P z ws.heap.size C w act b) (hj:C.ρ j=none) (AQ:lo<=j) {x:AV} {v:Value} (hx:Rel C w x v)
  (hl:(AU x).length=A9 P z.t) (hpos:0<A9 P z.t) (ho:LU (AU x)=true) (hg:A3 H j=.cells z.t (AU x)) :
  ∃ w' C',(Instr.storeAt z.t (act.tmps.getD z.d undef) v).run P w=.ok () w'/\HR C' H w'/\Cext C w C' w'/\Tr lo Cs ws C' w'/\C'=C.put j (.at b 0 0):=by
 obtain ⟨zs,hz1,hz2⟩:=hob.cell
 have hjl:j<H.length:=DL (by rw [hg];simp)
 have hx1:Cext C w (C.put j (.at b 0 0)) w:=⟨fun i p hp=>by
  by_cases hi:i=j
  ·subst hi;rw [hj] at hp;cases hp
  ·rw [Cx.put_ne hi];exact hp,fun _ h=>h,fun _ _=>rfl⟩
 have htop:∀ l:List Value,RelL (C.put j (.at b 0 0)) w (l.map fun _=>AV.top) l:=fun l=>by
  induction l with
  | nil=>exact .nil
  | cons a l ih=>exact .cons _ _ _ _ (.top _) ih
 have hH1:HR (C.put j (.at b 0 0)) (AM H j (.cells z.t (zs.toList.map fun _=>AV.top))) w:=by
  refine ⟨fun i p hp=>?_,fun i i' b1 c m b2 c' m' hp hp' hne=>?_,fun i b1 c m hp=>?_,hH.ilt,fun b1 x hb1=>⟨(hH.sub b1 x hb1).1,(hH.sub b1 x hb1).2.1,fun i b' c n hp=>?_,(hH.sub b1 x hb1).2.2.2⟩⟩
  ·by_cases hi:i=j
   ·subst hi;rw [Cx.put_eq] at hp;injection hp with hp;subst hp
    rw [DI,if_pos ⟨rfl,hjl⟩]
    exact ⟨zs.toList,htop _,by simpa using hz1⟩
   ·rw [Cx.put_ne hi] at hp
    rw [BK hi]
    exact (hH.live i p hp).mono hx1 (fun _ _ _ _=>rfl) fun b x hb=>⟨hb,rfl⟩
  ·by_cases hi:i=j
   ·by_cases hi':i'=j
    ·omega
    ·subst hi;rw [Cx.put_eq] at hp;rw [Cx.put_ne hi'] at hp'
     injection hp with hp;injection hp with hp _ _
     rw [<- hp];exact Ne.symm (hob.nr _ _ _ _ hp')
   ·rw [Cx.put_ne hi] at hp
    by_cases hi':i'=j
    ·subst hi';rw [Cx.put_eq] at hp'
     injection hp' with hp';injection hp' with hp' _ _
     rw [<- hp'];exact hob.nr _ _ _ _ hp
    ·rw [Cx.put_ne hi'] at hp';exact hH.inj _ _ _ _ _ _ _ _ hp hp' hne
  ·by_cases hi:i=j
   ·subst hi;rw [Cx.put_eq] at hp;injection hp with hp;injection hp with hp _ _
    rw [<- hp];exact ⟨hob.lt,hob.ni⟩
   ·rw [Cx.put_ne hi] at hp;exact hH.fresh _ _ _ _ hp
  ·by_cases hi:i=j
   ·subst hi;rw [Cx.put_eq] at hp;injection hp with hp;injection hp with hp _ _
    rw [<- hp];rintro rfl
    have hno:=hob.no
    have hb1':C.O b=some x:=hb1
    rw [hno] at hb1';cases hb1'
   ·rw [Cx.put_ne hi] at hp;exact (hH.sub b1 x hb1).2.2.1 _ _ _ _ hp
 have hlen:(zs.toList.map fun _=>AV.top).length=A9 P z.t:=by simp [hz2]
 have hst:Fh P (AM H j (.cells z.t (zs.toList.map fun _=>AV.top))) z.t (.own j 0) x=.upd j (.cells z.t (EH (zs.toList.map fun _=>AV.top) 0 (AU x))):=by
  unfold Fh
  have h1:decide ((AU x).length=A9 P z.t/\0<A9 P z.t)=true:=by simp [hl,hpos]
  have h2:A3 (AM H j (.cells z.t (zs.toList.map fun _=>AV.top))) j=.cells z.t (zs.toList.map fun _=>AV.top):=by rw [DI,if_pos ⟨rfl,hjl⟩]
  simp only [h1,h2]
  have h3:(decide (0+(AU x).length<=(zs.toList.map fun _=>AV.top).length)&&LU (AU x))=true:=by
   rw [hlen,ho];simp [hl]
  simp only [h3]
 obtain ⟨w',hrun,h1,h2,h3⟩:=Qj hH1 (.own _ _ _ _ _ Cx.put_eq) (hx.mono hx1) hst lo
 have hpaste:EH (zs.toList.map fun _=>AV.top) 0 (AU x)=AU x:=by
  rw [Fm,List.take_zero,List.nil_append,List.drop_eq_nil_of_le (by rw [hlen];omega),List.append_nil]
 have hset:AM (AM H j (.cells z.t (zs.toList.map fun _=>AV.top))) j (.cells z.t (AU x))=H:=by
  rw [IU,IU,List.set_set,<- hg]
  rw [Ds,List.getD_eq_getElem?_getD,List.getElem?_eq_getElem hjl]
  simp
 rw [hpaste,hset] at h1
 have ht1:Tr lo Cs ws (C.put j (.at b 0 0)) w:=by
  refine ⟨ht.os,ht.tape,ht.output,ht.size,ht.keep,ht.imm,ht.imm',fun i hi=>?_,fun i b1 c n hi hp=>?_,ht.sub⟩
  ·rw [Cx.put_ne (by omega)];exact ht.rho i hi
  ·by_cases hij:i=j
   ·subst hij;rw [Cx.put_eq] at hp;injection hp with hp;injection hp with hp _ _
    rw [<- hp];exact .inr (.inl hob.new)
   ·rw [Cx.put_ne hij] at hp;exact ht.own _ _ _ _ hi hp
 exact ⟨w',C.put j (.at b 0 0),by rw [hob.val];exact hrun,h1,hx1.trans h2,ht1.trans h3,rfl⟩
theorem tZ (hS:SumsOK P S) (hz:SwReg all z) {R:AV->A0->Prop} {K:List AV->A0->VC} {Q:Exit->Act->World->Prop} {ds:Act->Prop} (hput:Ep all ds) {ro:Option Nat} {rm:Nat} {fr0:List AV} {hp0:A0} {L:List Info} {Cs:Cx} {ws:World}
  (hseg:SwSeg P all z fr0 hp0 L) (hend:lz P S all z R K fr0 hp0 L) (AQ:S.lo<=hp0.length) (hd0:z.d<fr0.length) (htop:A4 fr0 z.d=.top) (hgoal:Goal P S R K Q Cs ws ds) :
  ∀ (fuel:Nat) (D:Array Bool) (C:Cx) (w:World) (act:Act),SwInv P S all z fr0 hp0 L Cs ws D C w act->J3 (fun i=>D.getD i false) all.length<=fuel->ds act->wpAnyIn (Fa ro) rm P .any all.toArray Q fuel D act w:=by
 have fin:∀ {D:Array Bool} {C:Cx} {w:World} {act:Act},SwInv P S all z fr0 hp0 L Cs ws D C w act->ds act->(∀ i,i<all.length->Ac D i)->Q .normal act w:=by
  intro D C w act hi hds hall
  rcases hend with ⟨hlen,hK⟩|⟨hlen,_⟩
  rotate_left
  ·exact absurd (hall L.length (by omega)) (hi.last (by omega))
  have hF:=hi.core.frame fun q hq=>hall q (by omega)
  have e:HI (fun q=>Af (Ap all z) q) fr0 L L.length=E_ (Ap all z) 0 fr0 L L.length:=by
   rw [Kp]
   congr 1
   funext q
   rw [Nat.zero_add]
  rw [e] at hF
  obtain ⟨r,hr⟩:=Aj hp0 L L.length
  exact hgoal _ _ C w act hK (by rw [hr];simp;omega) hi.core.hr hF.clean hi.tr hds
 have hback:GH all:=fun i o ho e he hb=>by
  obtain ⟨d,h1,_⟩:=Hq hz ho
  exact hz.bk i _ h1 e he hb
 intro fuel
 induction fuel with
 | zero =>
   intro D C w act hi hfu hds
   have hall:∀ i,i<all.length->Ac D i:=Hl (by omega)
   refine ⟨?_,fin hi hds hall⟩
   cases hr:Region.ready .any all.toArray D with
   | nil=>rfl
   | cons i l =>
     obtain ⟨o,h1,h2,_⟩:=EA (show i∈Region.ready .any all.toArray D by rw [hr];simp)
     have hlt:=(List.getElem?_eq_some_iff.1 h1).1
     rw [CY (by rw [hi.size];exact hlt)] at h2
     have:=hall i hlt
     rw [show D.getD i false=true from this] at h2;cases h2
 | succ fuel ih =>
   intro D C w act hi hfu hds
   refine ⟨fun hr=>fin hi hds (Ef hback hi.size hr),fun q hir=>?_⟩
   obtain ⟨o,ho,hnl',hpre,hLst,hclosed,hfu1,hsz⟩:=BJ hi.size hi.closed hir
   have hlt:=(List.getElem?_eq_some_iff.1 ho).1
   have hfu':=hfu1 fuel hfu
   have hao:all.toArray[q]? = some o:=by simpa using ho
   obtain ⟨dq,hg',hdst,hd1,hd2,hd3⟩:=Hq hz ho
   have hwt:Region.wanted o (yielded all.toArray act.tmps)=true:=by unfold Region.wanted;rw [hz.ng _ _ ho]
   unfold wpOpIn
   simp only [hao,hwt,if_true]
   have hcl:=fH hz hi.closed
   have hL1:L.length=all.length\/L.length+1=all.length:=by
    rcases hend with ⟨h,_⟩|⟨h,_⟩
    ·exact .inl h
    ·exact .inr h
   rcases Nat.lt_or_ge q L.length with hq|hqL
   rotate_left
   ·-- the last one,which turns
    rcases hend with ⟨h,_⟩|⟨hlen,hna,hns,hbar,o',ho',htu,ρ,hρ,fr',hp',a,hbo,hK⟩
    ·omega
    obtain rfl:q=L.length:=by omega
    rw [ho] at ho';injection ho' with ho';subst ho'
    have hall:∀ p,p<L.length->Ac D p:=fun p hp=>Au hback hi.closed _ _ ho hpre ((IL hbar (by omega)).1 hp)
    have hF:=hi.core.frame fun p hp=>hall p hp
    have e:HI (fun q=>Af (Ap all z) q) fr0 L L.length=E_ (Ap all z) 0 fr0 L L.length:=by
     rw [Kp]
     congr 1
     funext q
     rw [Nat.zero_add]
    rw [e] at hF
    obtain ⟨rb,hrb⟩:=Aj hp0 L L.length
    have hlo1:S.lo<=(hps hp0 L L.length).length:=by rw [hrb];simp;omega
    refine Ran.wpIn ((Jk hS o htu hρ hi.core.hr hF hlo1 hbo).mono fun v w' ⟨C',h1,h2,h3,h4⟩=>?_)
    have hF2:FR [] C' w' (CT fr' o.dst (DN a)) (act.put o.dst v).tmps:=h3.put (.plain (Du h2) (BQ _)) _
    have hQ:Q .normal (act.put o.dst v) w':=hgoal _ _ C' w' _ hK (Nat.le_trans hlo1 hbo.len) h1 hF2.clean (hi.tr.trans h4) (hput o (List.mem_of_getElem? ho) act v hds)
    have hall':∀ i,i<all.length->Ac (D.setIfInBounds L.length true) i:=fun i hi'=>(hLst i).2 (by
     rcases Nat.lt_or_ge i L.length with h|h
     ·exact .inl (hall i h)
     ·exact .inr (by omega))
    have hnr:∀ i,i ∉ Region.ready .any all.toArray (D.setIfInBounds L.length true):=fun i hir'=>by
     obtain ⟨o2,h1,h2,_⟩:=EA hir'
     have hlt2:=(List.getElem?_eq_some_iff.1 h1).1
     rw [CY (by rw [hsz];exact hlt2)] at h2
     have:=hall' i hlt2
     rw [show (D.setIfInBounds L.length true).getD i false=true from this] at h2;cases h2
    cases fuel with
    | zero =>
      refine ⟨?_,hQ⟩
      cases hr:Region.ready .any all.toArray (D.setIfInBounds L.length true) with
      | nil=>rfl
      | cons i l=>exact absurd (show i∈Region.ready .any all.toArray (D.setIfInBounds L.length true) by rw [hr];simp) (hnr i)
    | succ fuel=>exact ⟨fun _=>hQ,fun i hi'=>absurd hi' (hnr i)⟩
   have hlast:L.length<all.length->¬ Ac (D.setIfInBounds q true) L.length:=fun h hl=>by
    rcases (hLst L.length).1 hl with h'|h'
    ·exact hi.last h h'
    ·omega
   have hlook:∀ t∈DO (Ap all z) { o with dst:=dq },RelG [] C w (A4 (E_ (Ap all z) 0 fr0 L q) t) (act.tmps.getD t undef):=fun t ht=>by
    have e:E_ (Ap all z) 0 fr0 L q=HI (fun q=>Af (Ap all z) q) fr0 L q:=by
     rw [Kp]
     congr 1
     funext q
     rw [Nat.zero_add]
    rw [e]
    refine hi.core.look (by omega) (fun p hp hd=>?_) (.inl fun p hpq hp hl hd=>?_)
    ·obtain ⟨o',ho',hd'⟩:=AY hd
     exact Au hz.bk hcl _ _ hg' hpre ((Gr hz.tm ho' hd' hg' ht).1 hp)
    ·rcases Nat.lt_or_ge q p with h|h
     ·obtain ⟨o',ho',hd'⟩:=AY hd
      exact hnl' (LR hz.bk hcl (by rw [Hp];omega) hl ((Gr hz.tm ho' hd' hg' ht).2 h))
     ·obtain rfl:p=q:=by omega
      exact hnl' hl
   have hdsz:z.d<act.tmps.size:=by rw [<- hi.core.tsz];exact hd0
   obtain ⟨oA,hoA,hoAd,hoAo⟩:=hz.oa
   obtain ⟨oS,hoS,hoSd,hoSo⟩:=hz.os
   have hla0:=(List.getElem?_eq_some_iff.1 hoA).1
   have hls0:=(List.getElem?_eq_some_iff.1 hoS).1
   have hla:z.a<L.length:=by
    rcases hend with ⟨h,_⟩|⟨h,h1,_⟩
    ·omega
    ·omega
   have hls:z.s<L.length:=by
    rcases hend with ⟨h,_⟩|⟨h,_,h1,_⟩
    ·omega
    ·omega
   have hsa:∀ {D:Array Bool},Fc all (Ac D)->Ac D z.s->Ac D z.a:=fun hc hl=>LR hback hc (by omega) hl hz.ord
   by_cases hqa:q=z.a
   ·-- the making
    subst hqa
    rw [hoA] at ho;injection ho with ho;subst ho
    obtain ⟨hnew,hzs⟩:=hseg.la hla
    obtain ⟨l,hl⟩:=Option.isSome_iff_exists.1 hzs
    obtain ⟨ti,zv,hti,hzv,hsz',rfl⟩:=Dc hl
    have hns:¬ Ac D z.s:=fun h=>hnl' (hsa hi.closed h)
    have hran:Ran P oA act.eval w fun v w'=>v=.pointer (some ⟨w.heap.size,0,none⟩)/\w'=w.alloc (.cells zv.cells z.t):=by
     obtain ⟨dst,op,type,pos,after,guard⟩:=oA
     simp only at hoAo
     subst hoAo
     exact BI (m:=Instr.alloc z.t true _) rfl ⟨_,_,by simp [Instr.alloc,zeroValue,typeInfo,hti,hzv,newVar,newRow],rfl,rfl⟩
    refine Ran.wpIn (hran.mono fun v w' ⟨hv,hw'⟩=>?_)
    subst hv hw'
    obtain ⟨hH1,hx⟩:=hi.core.hr.alloc (.cells zv.cells z.t)
    have hgd:∀ t,(act.put oA.dst (.pointer (some ⟨w.heap.size,0,none⟩))).tmps.getD t undef=if t=z.d then .pointer (some ⟨w.heap.size,0,none⟩) else act.tmps.getD t undef:=fun t=>by
     rw [Dn,hoAd]
     by_cases h:t=z.d
     ·subst h;simp [hdsz]
     ·rw [if_neg h,if_neg]
      rintro ⟨h',_⟩;injection h' with h';exact h h'.symm
    have hddd:∀ p,p<L.length->Af (Ap all z) p=some z.d->p=z.s:=fun p hp hd=>by
     obtain ⟨o',ho',hd'⟩:=AY hd
     rcases Classical.em (p=z.s) with h|h
     ·exact h
     ·exfalso
      obtain ⟨d2,hg2,_,_,_,h3⟩:=Hq hz hoS
      rw [h3 rfl] at hg2
      exact (DR hz.uq ho').1 z.d hd' z.s _ (Ne.symm h) hg2 rfl
    refine ih _ C _ _ ⟨hsz,hclosed,⟨hH1,fun p hp hn=>hi.core.free p hp fun h=>hn ((hLst p).2 (.inl h)),fun p hp hl t hdt hlt'=>?_,fun t ht=>?_,?_⟩,hi.tr.trans (.alloc _ hi.core.hr.ilt _),fun _ _=>⟨w.heap.size,?_,hi.tr.size,by simp,⟨zv.cells,by simpa using B2 w zv.cells z.t,?_⟩,fun h=>by have:=hi.core.hr.ilt _ h;omega,fun i b' c n h e=>(by have:=(hi.core.hr.fresh _ _ _ _ h).1;omega),Option.eq_none_iff_forall_ne_some.2 fun x h=>by have:=(hi.core.hr.sub _ _ h).1;omega⟩,hlast⟩ hfu' (hput oA (List.mem_of_getElem? hoA) _ _ hds)
    ·rw [hgd]
     have hpa:p≠z.a:=fun e=>by rw [e,hdst,hd2 rfl] at hdt;cases hdt
     have hlp:Ac D p:=by
      rcases (hLst p).1 hl with h|h
      ·exact h
      ·exact absurd h hpa
     rw [if_neg]
     ·exact (hi.core.v1 p hp hlp t hdt hlt').mono hx
     ·intro e;subst e
      have:=hddd p hp hdt
      subst this
      exact hns hlp
    ·rw [hgd]
     split
     ·rename_i e;subst e;rw [htop];exact .plain (.top _) trivial
     ·exact (hi.core.v2 t (ht.imp (fun h p hp hl=>h p hp ((hLst p).2 (.inl hl))) id)).mono hx
    ·rw [hi.core.tsz,hoAd];simp [Act.put]
    ·rw [hgd,if_pos rfl]
    ·have:A9 P z.t=ti.size:=by unfold A9;rw [hti]
     rw [this,<- hsz']
   ·by_cases hqs:q=z.s
    ·-- the store
     subst hqs
     rw [hoS] at ho;injection ho with ho;subst ho
     have hla':Ac D z.a:=Au hback hi.closed _ _ hoS hpre hz.ord
     obtain ⟨b,hob⟩:=hi.ob hla' hnl'
     obtain ⟨l,hl,hl1,hl2,hl3,hval,hnew⟩:=hseg.ls hls
     have hxr:Rel C w (Ks ((CR [z.x]).map fun t=>(t,Dk [] (A4 (E_ (Ap all z) 0 fr0 L z.s) t))) z.x) (act.eval z.x):=Ly (T:=[]) (fun t ht=>hlook t (G5 (by
      have:z.x=.tmp t:=by
       cases hzx:z.x<;>rw [hzx] at ht<;>simp [CR] at ht
       rw [ht]
      show (.tmp t:Operand)∈oS.op.operands
      rw [hoSo,this];simp [Op.operands]))) z.x
     have hj:C.ρ (hps hp0 L z.s).length=none:=by
      exact hi.core.free z.s hls hnl' 0 (by rw [hnew];simp)
     have hat:A3 (hps hp0 L L.length) (hps hp0 L z.s).length=.cells z.t l:=by
      have:=Ym (hp0:=hp0) hls (t:=0) (by rw [hnew];simp)
      rw [hnew] at this
      simpa [A3] using this
     obtain ⟨rb,hrb⟩:=Aj hp0 L z.s
     obtain ⟨w',C',hrun,h1,h2,h3,hC'⟩:=gt hi.core.hr hi.tr hob hj (by rw [hrb];simp;omega) hxr (by rw [<- hl];exact hl1) hl2 (by rw [<- hl];exact hl3) (by rw [<- hl];exact hat)
     have hran:Ran P oS act.eval w fun v w''=>v=undef/\w''=w':=by
      refine .inr (.inr ⟨w',?_,rfl,rfl⟩)
      obtain ⟨dst,op,type,pos,after,guard⟩:=oS
      simp only at hoSo
      subst hoSo
      have hrun':(Instr.storeAt z.t (act.eval (.tmp z.d)) (act.eval z.x)).run P w=.ok () w':=hrun
      simp [execOp,hrun']
     refine Ran.wpIn (hran.mono fun v w'' ⟨hv,hw'⟩=>?_)
     subst hv;subst hw'
     have hput0:act.put oS.dst undef=act:=by rw [hoSd];rfl
     rw [hput0]
     refine ih _ C' _ _ ⟨hsz,hclosed,hi.core.put h2 h1 (fun p hp hn t ht=>?_) (fun p hp hl=>?_) (fun p _ h=>(hLst p).2 (.inl h)),h3,fun _ hn=>absurd ((hLst z.s).2 (.inr rfl)) hn,hlast⟩ hfu' (by rw [<- hput0];exact hput oS (List.mem_of_getElem? hoS) _ _ hds)
     ·rw [hC',Cx.put_ne]
      ·exact hi.core.free p hp (fun h=>hn ((hLst p).2 (.inl h))) t ht
      ·have hps':p≠z.s:=fun e=>hn ((hLst p).2 (.inr e))
       rcases Nat.lt_or_ge p z.s with h|h
       ·obtain ⟨r,hr⟩:=Ja hp0 L (show p+1<=z.s by omega)
        rw [hr];simp only [hps,List.length_append];omega
       ·obtain ⟨r,hr⟩:=Ja hp0 L (show z.s+1<=p by omega)
        rw [hr];simp only [hps,List.length_append,hnew,List.length_singleton];omega
     ·rcases (hLst p).1 hl with h|h
      ·exact .inl h
      ·subst h
       refine .inr ⟨z.d,by rw [hdst,hd3 rfl],?_⟩
       rw [hval,hob.val]
       exact .plain (.own _ _ _ _ _ (by rw [hC'];exact Cx.put_eq)) trivial
    ·-- any other
     obtain ⟨o',ho',hst⟩:=hseg.step q hq hqa hqs
     rw [ho] at ho';injection ho' with ho';subst ho'
     have hdq:=hd1 hqa hqs
     subst hdq
     obtain ⟨rb,hrb⟩:=Aj hp0 L q
     have hk:∀ v w',(∃ C',HR C' (hps hp0 L L.length) w'/\RelG [] C' w' (L.getD q default).val v/\Grow (hps hp0 L q).length (L.getD q default).new.length C w C' w') ->
       wpAnyIn (Fa ro) rm P .any all.toArray Q fuel (D.setIfInBounds q true) (act.put o.dst v) w':=by
      intro v w' ⟨C',h1,h2,h3⟩
      have hcore:=hi.core.next (dn':=fun q'=>Ac (D.setIfInBounds q true) q') (q:=q) hq hnl' (fun p hp=>hLst p) (fun p hp hne t hd hd'=>by
        obtain ⟨o2,ho2,hd2⟩:=AY hd'
        obtain ⟨o1,ho1,hd1'⟩:=AY hd
        exact (DR hz.uq ho1).1 t hd1' _ o2 hne ho2 hd2) h1 h2 h3
      simp only [hdst] at hcore
      refine ih _ C' w' _ ⟨hsz,hclosed,hcore,hi.tr.trans (h3.tr (by rw [hrb];simp;omega)),fun hA hS'=>?_,hlast⟩ hfu' (hput o (List.mem_of_getElem? ho) _ _ hds)
      have hA':Ac D z.a:=by
       rcases (hLst z.a).1 hA with h|h
       ·exact h
       ·exact absurd h.symm hqa
      have hS'':¬ Ac D z.s:=fun h=>hS' ((hLst z.s).2 (.inl h))
      obtain ⟨b,hob⟩:=hi.ob hA' hS''
      obtain ⟨zs,hc1,hc2⟩:=hob.cell
      refine ⟨b,?_,hob.new,Nat.lt_of_lt_of_le hob.lt h3.size,⟨zs,(h3.keep b hob.lt).trans hc1,hc2⟩,fun h=>?_,fun i b' c n hp e=>?_,(h3.sub b).trans hob.no⟩
      ·rw [Dn,if_neg]
       ·exact hob.val
       ·rintro ⟨h,_⟩
        obtain ⟨d2,hg2,_,_,_,h3'⟩:=Hq hz hoS
        rw [h3' rfl] at hg2
        exact (DR hz.uq hg').1 z.d h z.s _ (Ne.symm hqs) hg2 rfl
      ·rcases h3.imm' b h with h|h
       ·exact hob.ni h
       ·have:=hob.lt;omega
      ·by_cases hr:i<(hps hp0 L q).length\/(hps hp0 L q).length+(L.getD q default).new.length<=i
       ·rw [h3.rho i hr] at hp;exact hob.nr _ _ _ _ hp e
       ·have:=h3.own i b' c n (by omega) (by omega) hp
        have:=hob.lt;omega
     rcases G0 hst (.refl _) (act:=act) hi.core.hr (Nq hq) (hi.core.ff hq hnl') (fun x hx=>EL x fun t ht=>hlook t (G5 (ht▸hx))) (fun d hd=>by
       obtain ⟨j,want,hg,_⟩:=hd
       rw [hz.ng _ _ ho] at hg;cases hg) with ⟨_,hr⟩|⟨hw,_⟩
     ·exact Ran.wpIn (hr.mono hk)
     ·rw [hwt] at hw;cases hw
end
end Abs
end Go.Proofs.YtccgngldoinokaaGreat

namespace Go.Proofs.YtccgngldoinokaaGreat
namespace Abs
open Go Go.RowKit
section
variable {P:Program} {F:Fence} {n:Nat} {Q:Exit->Act->World->Prop} {all:List Oper}
theorem PF {o:Oper} {x:Operand} (h:HF o=some x):o.op=.move x/\o.guard=none/\o.after.toList=[]:=by
 unfold HF at h
 split at h
 ·rename_i y hy
  split at h
  ·rename_i h1 h2
   injection h with h;subst h
   exact ⟨hy,h1,h2⟩
  ·cases h
 ·cases h
theorem od {ops:Array Oper} {j:Nat} {oi oj:Oper} {x:Operand} (hj:ops[j]? = some oj) (hx:oi.op=.move x) (hap:oi.apart ops oj=true) (hsj:∀ cs b,oj.op≠.select cs b) (hQ:∀ c a w,¬ Q (.panic c) a w)
  {K:Act->World->Prop} {a:Act} {w:World} {v:Value} (hv:a.eval x=v) (h:wpOpIn F n P ops Q j K (a.put oi.dst v) w) :
  wpOpIn F n P ops Q j (fun a' w'=>a'.eval x=v/\K (a'.put oi.dst v) w') a w:=by
 obtain ⟨h1,h2,h3⟩:=Oper.apart_spec hap
 have keep:∀ (a:Act),a.eval x=v->∀ u,(a.put oj.dst u).eval x=v:=fun a ha u=>by
  rw [Act.eval_put fun d hd hxd=>h3 d hd ?_]
  ·exact ha
  ·unfold Oper.looksAt
   rw [hx,hxd]
   exact List.mem_append_left _ (List.mem_filterMap.2 ⟨.tmp d,by simp [Op.operands],rfl⟩)
 have hev:∀ y∈oj.op.operands,(a.put oi.dst v).eval y=a.eval y:=fun y hy=>Act.eval_put fun d hd hxd=>h1 d hd (by
  subst hxd
  exact List.mem_append_left _ (List.mem_filterMap.2 ⟨.tmp d,by simpa using hy,rfl⟩))
 unfold wpOpIn at *
 simp only [hj] at *
 rw [wanted_put oj a oi.dst v h1,about_congr oj w hev] at h
 split
 ·rename_i hw
  simp only [hw,if_true] at h
  unfold Oper.wpIn at *
  rw [about_congr oj w hev,N_ oj hsj hev] at h
  refine ⟨h.1,?_⟩
  replace h:=h.2
  generalize (oj.semAt F.round a.eval).run P w=r at *
  cases r with
  | ok y w' =>
    cases y<;>simp only [Oper.uponIn] at h ⊢
    case value u=>exact ⟨keep a hv u,by rw [<- Act.put_comm a v u h2];exact h⟩
    case skip=>exact ⟨keep a hv _,by rw [<- Act.put_comm a v undef h2];exact h⟩
    case defer d =>
     refine ⟨keep { a with defers:=d::a.defers } hv _,?_⟩
     rw [<- Act.put_comm _ v undef h2,<- Act.put_defers]
     exact h
    case enter f args =>
     refine ⟨h.1,CallsIn.mono h.2 fun e w'' he=>?_⟩
     cases e with
     | returned u=>exact ⟨keep a hv u,by rw [<- Act.put_comm a v u h2];exact he⟩
     | panicked c=>exact absurd he (hQ _ _ _)
     | outgrown=>exact he
    case row row args=>exact ⟨h.1,RowsIn.mono h.2 fun u w'' he=>⟨keep a hv u,by rw [<- Act.put_comm a v u h2];exact he⟩⟩
    case round l f tmps assign body =>
     refine ⟨h.1,RoundIn.mono h.2 fun e w'' he=>?_⟩
     cases e with
     | returned u=>exact ⟨keep a hv u,by rw [<- Act.put_comm a v u h2];exact he⟩
     | panicked c=>exact absurd he (hQ _ _ _)
     | outgrown=>exact he
  | halt x w' =>
    cases x<;>simp only [Oper.uponIn] at h ⊢
    case panic u=>exact absurd h (hQ _ _ _)
 ·rename_i hw
  simp only [hw] at h
  exact ⟨h.1,keep a hv _,by rw [<- Act.put_comm a v undef h2];exact h.2⟩
theorem Qc {ops:Array Oper} {i:Nat} {oi:Oper} {x:Operand} (hi:ops[i]? = some oi) (hx:oi.op=.move x) (hg:oi.guard=none) {K:Act->World->Prop} {a:Act} {w:World} (hF:∀ f,F.fn f) (h:K (a.put oi.dst (a.eval x)) w) :
  wpOpIn F n P ops Q i K a w:=by
 unfold wpOpIn
 simp only [hi]
 have hw:Region.wanted oi (yielded ops a.tmps)=true:=by unfold Region.wanted;rw [hg]
 rw [hw]
 simp only [if_true]
 refine ⟨fun f _=>hF f,?_⟩
 rw [Oper.semAt_eq _ _ _ fun c hc=>by rw [hx] at hc;cases hc]
 have:(execOp a.eval oi).run P w=.ok (.value (a.eval x)) w:=by
  obtain ⟨dst,op,type,pos,after,guard⟩:=oi
  simp only at hx
  subst hx
  simp [execOp]
 rw [this]
 exact h
theorem jM {ops:Array Oper} {i:Nat} {oi:Oper} {x:Operand} (hi:ops[i]? = some oi) (hx:oi.op=.move x) (hg:oi.guard=none) (hF:∀ f,F.fn f) (hsel:∀ (j:Nat) (o:Oper) cs b,ops[j]? = some o->o.op≠.select cs b) (hQ:∀ c a w,¬ Q (.panic c) a w) :
  ∀ (fuel:Nat) (listed:Array Bool) (a:Act) (w:World) (v:Value),
    (∀ j oj,ops[j]? = some oj->j≠i->listed.getD j true=false->(∀ e∈oj.after,Region.binds .any e=true->e.on≠i)->oi.apart ops oj=true) ->
    i∈Region.ready .any ops listed->a.eval x=v ->
    wpAnyIn F n P .any ops Q fuel (listed.setIfInBounds i true) (a.put oi.dst v) w->wpAnyIn F n P .any ops Q (fuel+1) listed a w:=by
 intro fuel
 induction fuel with
 | zero =>
   intro listed a w v _ hr hv H
   refine ⟨fun h=>(by rw [h] at hr;cases hr),fun j hj=>?_⟩
   by_cases hji:j=i
   ·subst hji;exact Qc hi hx hg hF (by rw [hv];exact H)
   ·have:=ready_mono hj hji
    rw [H.1] at this
    cases this
 | succ fuel ih =>
   intro listed a w v hfree hr hv H
   refine ⟨fun h=>(by rw [h] at hr;cases hr),fun j hj=>?_⟩
   by_cases hji:j=i
   ·subst hji;exact Qc hi hx hg hF (by rw [hv];exact H)
   ·have h1:=H.2 j (ready_mono hj hji)
    obtain ⟨hjun,oj,hoj,hall⟩:=Go.mem_ready.1 hj
    have hnot:∀ e∈oj.after,Region.binds .any e=true->e.on≠i:=fun e he hb heq=>by
     have h1:=hall e he hb
     have h0:=(Go.mem_ready.1 hr).1
     rw [heq] at h1
     rcases Nat.lt_or_ge i listed.size with h'|h'
     ·simp [h'] at h0 h1;rw [h0] at h1;cases h1
     ·simp [Array.getElem?_eq_none h'] at h1
    have h2:=od (v:=v) hoj hx (hfree j oj hoj hji hjun hnot) (fun cs b=>hsel j oj cs b hoj) hQ hv h1
    have hfree':∀ k ok,ops[k]? = some ok->k≠i->(listed.setIfInBounds j true).getD k true=false ->
      (∀ e∈ok.after,Region.binds .any e=true->e.on≠i)->oi.apart ops ok=true:=fun k ok hk hki hun hno=>by
     refine hfree k ok hk hki ?_ hno
     by_cases hjk:j=k
     ·subst hjk;exact hjun
     ·rw [getD_set_ne true hjk] at hun;exact hun
    refine wpOpIn_mono (fun a' w' h3=>ih (listed.setIfInBounds j true) a' w' v hfree' (ready_mono hr (Ne.symm hji)) h3.1 ?_) h2
    rw [Array.setIfInBounds_comm _ _ hji]
    exact h3.2
def Lc:List Oper->Act->Act
 | [],a=>a
 | o::l,a=>(match HF o with|some x=>Lc l (a.put o.dst (a.eval x))|none=>Lc l a)
def PH:List Oper->Nat->Array Bool->Array Bool
 | [],_,D=>D
 | o::l,n,D=>(match HF o with|some _=>PH l (n+1) (D.setIfInBounds n true)|none=>PH l (n+1) D)
theorem K3:∀ l:List Oper,I2 l=l.length
 | []=>rfl
 | _::l=>by simp [I2,K3 l]
theorem Ki:∀ (l:List Oper) (m:Nat) (D:Array Bool),m+l.length=D.size->(PH l m D).size=D.size/\∀ i,Ac (PH l m D) i↔Ac D i\/∃ j o x,i=m+j/\l[j]? = some o/\HF o=some x
 | [],m,D,_=>⟨rfl,fun i=>⟨.inl,fun h=>by
   rcases h with h|⟨j,o,x,_,h,_⟩
   ·exact h
   ·simp at h⟩⟩
 | o::l,m,D,hs=>by
   simp only [List.length_cons] at hs
   simp only [PH]
   split
   ·rename_i x hx
    obtain ⟨h1,h2⟩:=Ki l (m+1) (D.setIfInBounds m true) (by simp;omega)
    refine ⟨by rw [h1];simp,fun i=>?_⟩
    rw [h2,show Ac (D.setIfInBounds m true) i↔Ac D i\/i=m from by unfold Ac;rw [Ei (by omega)];simp]
    constructor
    ·rintro ((h|h)|⟨j,o',x',h3,h4,h5⟩)
     ·exact .inl h
     ·exact .inr ⟨0,o,x,by omega,by simp,hx⟩
     ·exact .inr ⟨j+1,o',x',by omega,by simpa using h4,h5⟩
    ·rintro (h|⟨j,o',x',h3,h4,h5⟩)
     ·exact .inl (.inl h)
     ·cases j with
      | zero=>exact .inl (.inr (by omega))
      | succ j=>exact .inr ⟨j,o',x',by omega,by simpa using h4,h5⟩
   ·rename_i hx
    obtain ⟨h1,h2⟩:=Ki l (m+1) D (by omega)
    refine ⟨h1,fun i=>?_⟩
    rw [h2]
    constructor
    ·rintro (h|⟨j,o',x',h3,h4,h5⟩)
     ·exact .inl h
     ·exact .inr ⟨j+1,o',x',by omega,by simpa using h4,h5⟩
    ·rintro (h|⟨j,o',x',h3,h4,h5⟩)
     ·exact .inl h
     ·cases j with
      | zero=>simp at h4;subst h4;rw [hx] at h5;cases h5
      | succ j=>exact .inr ⟨j,o',x',by omega,by simpa using h4,h5⟩
theorem YW (hF:∀ f,F.fn f) (hsel:∀ (j:Nat) (o:Oper) cs b,all[j]? = some o->o.op≠.select cs b) (hQ:∀ c a w,¬ Q (.panic c) a w)
  (hap:∀ (i:Nat) (oi:Oper) (x:Operand),all[i]? = some oi->HF oi=some x->∀ (j:Nat) (oj:Oper),all[j]? = some oj->j≠i->(∀ e∈oj.after,Region.binds .any e=true->e.on≠i)->oi.apart all.toArray oj=true) {fuel:Nat} :
  ∀ (l:List Oper) (m:Nat) (D:Array Bool) (a:Act) (w:World),(∀ j,l[j]? = all[m+j]?)->D.size=all.length->(∀ i,m<=i->¬ Ac D i) ->
    wpAnyIn F n P .any all.toArray Q fuel (PH l m D) (Lc l a) w->wpAnyIn F n P .any all.toArray Q (fuel+(AG l).length) D a w
 | [],m,D,a,w,_,_,_,h=>h
 | o::l,m,D,a,w,hl,hsz,hD,h=>by
   have h0:all[m]? = some o:=by simpa using (hl 0).symm
   have hlt:=(List.getElem?_eq_some_iff.1 h0).1
   have hl':∀ j,l[j]? = all[m+1+j]?:=fun j=>by
    have:=hl (j+1)
    rw [List.getElem?_cons_succ] at this
    rw [this];congr 1;omega
   simp only [PH,Lc,AG] at h ⊢
   cases hx:HF o with
   | none =>
     rw [hx] at h
     exact YW hF hsel hQ hap l (m+1) D a w hl' hsz (fun i hi=>hD i (by omega)) h
   | some x =>
     rw [hx] at h
     simp only at h ⊢
     obtain ⟨e1,e2,e3⟩:=PF hx
     rw [List.length_cons,<- Nat.add_assoc]
     refine jM (i:=m) (oi:=o) (by simpa using h0) e1 e2 hF (fun j o' cs b hj=>hsel j o' cs b (by simpa using hj)) hQ _ D a w _ (fun j oj hj hne _ hno=>hap m o x h0 hx j oj (by simpa using hj) hne hno) ?_ rfl
      (YW hF hsel hQ hap l (m+1) _ _ w hl' (by simp [hsz]) (fun i hi hl=>?_) h)
     ·refine mem_ready h0 ?_ fun e he _=>?_
      ·rw [CY (by omega)]
       have:=hD m (Nat.le_refl _)
       unfold Ac at this
       simpa using this
      ·rw [e3] at he;cases he
     ·unfold Ac at hl
      rw [Ei (by omega)] at hl
      simp only [Bool.or_eq_true,decide_eq_true_eq] at hl
      rcases hl with h|h
      ·exact hD i (by omega) h
      ·omega
theorem Qw {k:Nat}:∀ (l:List Oper) (i:Nat) (o:Oper),l[i]? = some o->HF o=none->(ET all k l)[Ih l i]? = some (Od all k o)
 | [],i,o,h,_=>by simp at h
 | p::l,0,o,h,hx=>by
   simp at h;subst h
   simp only [ET,hx,Ih,List.getElem?_cons_zero]
 | p::l,i+1,o,h,hx=>by
   simp only [List.getElem?_cons_succ] at h
   have ih:=Qw (k:=k) l i o h hx
   cases hp:HF p with
   | some y=>simp only [ET,Ih,hp];exact ih
   | none=>simp only [ET,Ih,hp,List.getElem?_cons_succ];exact ih
theorem MT {k:Nat}:∀ (l:List Oper) (q:Nat),q<(ET all k l).length->∃ i o,l[i]? = some o/\HF o=none/\Ih l i=q
 | [],q,h=>by simp [ET] at h
 | p::l,q,h=>by
   cases hp:HF p with
   | some y =>
     simp only [ET,hp] at h
     obtain ⟨i,o,h1,h2,h3⟩:=MT (k:=k) l q h
     exact ⟨i+1,o,by simpa using h1,h2,by simp only [Ih,hp];exact h3⟩
   | none =>
     simp only [ET,hp,List.length_cons] at h
     cases q with
     | zero=>exact ⟨0,p,by simp,hp,by simp [Ih]⟩
     | succ q =>
       obtain ⟨i,o,h1,h2,h3⟩:=MT (k:=k) l q (by omega)
       exact ⟨i+1,o,by simpa using h1,h2,by simp only [Ih,hp,h3]⟩
theorem YR:∀ (l:List Oper) (i j:Nat) (o:Oper),l[i]? = some o->HF o=none->i<j->j<=l.length->Ih l i<Ih l j
 | [],i,j,o,h,_,_,_=>by simp at h
 | p::l,i,0,o,h,_,hij,_=>by omega
 | p::l,0,j+1,o,h,hx,hij,hj=>by
   simp at h;subst h
   simp only [Ih,hx];omega
 | p::l,i+1,j+1,o,h,hx,hij,hj=>by
   simp only [List.getElem?_cons_succ] at h
   have ih:=YR l i j o h hx (by omega) (by simp at hj;omega)
   cases hp:HF p with
   | some y=>simp only [Ih,hp];exact ih
   | none=>simp only [Ih,hp];omega
theorem ab {l:List Oper} {i j:Nat} {o p:Oper} (hi:l[i]? = some o) (ho:HF o=none) (hj:l[j]? = some p) (hp:HF p=none) (h:Ih l i=Ih l j):i=j:=by
 have hli:=(List.getElem?_eq_some_iff.1 hi).1
 have hlj:=(List.getElem?_eq_some_iff.1 hj).1
 rcases Nat.lt_trichotomy i j with h1|h1|h1
 ·have:=YR l i j o hi ho h1 (by omega);omega
 ·exact h1
 ·have:=YR l j i p hj hp h1 (by omega);omega
theorem K1:∀ {l:List Oper} {o:Oper},o∈AG l->∃ x,HF o=some x
 | [],o,h=>by simp [AG] at h
 | p::l,o,h=>by
   simp only [AG] at h
   split at h
   ·rename_i y hy
    rcases List.mem_cons.1 h with h|h
    ·exact ⟨y,h▸hy⟩
    ·exact K1 h
   ·exact K1 h
theorem PT (k:Nat):∀ (l:List Oper),(AG l).length+(ET all k l).length=l.length
 | []=>rfl
 | p::l=>by
   have ih:=PT k l
   simp only [AG,ET]
   split<;>simp<;>omega
theorem Pc:∀ {k:Nat} {l:List Edge} {e:Edge},e∈Pd k l->e.on<k\/e∈l
 | 0,l,e,h=>.inr h
 | k+1,l,e,h=>by
   simp only [Pd,List.mem_cons] at h
   rcases h with rfl|h
   ·exact .inl (Nat.lt_succ_self k)
   ·rcases Pc h with h|h
    ·exact .inl (by omega)
    ·exact .inr h
theorem Oe {k:Nat}:∀ {l:List Edge} {e:Edge},e∈YD all k l->∃ e'∈l,e.on=k+Ih all e'.on/\e.ground=e'.ground/\PK all e'.on=false
 | [],e,h=>by simp [YD] at h
 | p::l,e,h=>by
   simp only [YD] at h
   split at h
   ·obtain ⟨e',h1,h2⟩:=Oe h
    exact ⟨e',by simp [h1],h2⟩
   ·rename_i hm
    rcases List.mem_cons.1 h with rfl|h
    ·exact ⟨p,by simp,rfl,rfl,hm⟩
    ·obtain ⟨e',h1,h2⟩:=Oe h
     exact ⟨e',by simp [h1],h2⟩
theorem hoist_len:(An all).length=all.length:=by unfold An;rw [List.length_append,PT]
theorem I5 {i:Nat} {o:Oper} (h:all[i]? = some o) (hx:HF o=none):(An all)[(AG all).length+Ih all i]? = some (Od all (AG all).length o):=by
 unfold An
 rw [List.getElem?_append_right (by omega),Nat.add_sub_cancel_left,K3]
 exact Qw all i o h hx
theorem SQ {q:Nat} (hq:(AG all).length<=q) (hl:q<all.length):∃ i o,all[i]? = some o/\HF o=none/\(AG all).length+Ih all i=q:=by
 have h1:=PT (all:=all) (AG all).length all
 obtain ⟨i,o,h2,h3,h4⟩:=MT (all:=all) (k:=(AG all).length) all (q-(AG all).length) (by omega)
 exact ⟨i,o,h2,h3,by omega⟩
theorem PJ {i:Nat} {o:Oper} (h:all[i]? = some o):PK all i=(HF o).isSome:=by unfold PK;rw [h]
structure Ren (all:List Oper) (D D':Array Bool):Prop where
 s:D.size=all.length
 s':D'.size=all.length
 mv:∀ i o x,all[i]? = some o->HF o=some x->Ac D i
 mv':∀ i,i<(AG all).length->Ac D' i
 ot:∀ i o,all[i]? = some o->HF o=none->(Ac D' ((AG all).length+Ih all i)↔Ac D i)
theorem Ren.ready {D D':Array Bool} (r:Ren all D D') (hbk:GH all) {i:Nat} (h:i∈Region.ready .any all.toArray D):∃ o,all[i]? = some o/\HF o=none/\(AG all).length+Ih all i∈Region.ready .any (An all).toArray D':=by
 obtain ⟨o,ho,hn,hp⟩:=EA h
 have hlt:=(List.getElem?_eq_some_iff.1 ho).1
 rw [CY (by rw [r.s];exact hlt)] at hn
 cases hx:HF o with
 | some x =>
   have:=r.mv i o x ho hx
   unfold Ac at this
   rw [hn] at this;cases this
 | none =>
   refine ⟨o,ho,hx,?_⟩
   have hg:=I5 ho hx
   have hlt':(AG all).length+Ih all i<all.length:=by have:=(List.getElem?_eq_some_iff.1 hg).1;rwa [hoist_len] at this
   refine mem_ready hg ?_ fun e he hb=>?_
   ·rw [CY (by rw [r.s'];exact hlt')]
    have:¬ Ac D' ((AG all).length+Ih all i):=fun h=>by
     have:=(r.ot i o ho hx).1 h
     unfold Ac at this
     rw [hn] at this;cases this
    unfold Ac at this
    simpa using this
   ·have he':e∈Pd (AG all).length (YD all (AG all).length o.after.toList):=he
    rcases Pc he' with h1|h1
    ·exact r.mv' _ h1
    ·obtain ⟨e',h2,h3,h4,h5⟩:=Oe h1
     have hb':Region.binds .any e'=true:=by
      unfold Region.binds at hb ⊢
      rw [<- h4];exact hb
     have hl:=hp e' h2 hb'
     rw [h3]
     have hlt2:e'.on<all.length:=by have:=hbk i o ho e' h2 hb';omega
     have ho2:all[e'.on]? = some (all[e'.on]'hlt2):=List.getElem?_eq_getElem _
     have hx2:HF (all[e'.on]'hlt2)=none:=by
      rw [PJ ho2] at h5
      cases hx3:HF (all[e'.on]'hlt2) with
      | none=>rfl
      | some y=>rw [hx3] at h5;simp at h5
     exact (r.ot _ _ ho2 hx2).2 hl
theorem ed (hbk:GH all) (hgd:∀ (i:Nat) (o:Oper) (g:Nat) (b:Bool),all[i]? = some o->o.guard=some (g,b)->PK all g=false/\g<all.length):∀ (fuel:Nat) (D D':Array Bool) (a:Act) (w:World),Ren all D D' ->
  wpAnyIn F n P .any (An all).toArray Q fuel D' a w->wpAnyIn F n P .any all.toArray Q fuel D a w:=by
 intro fuel
 induction fuel with
 | zero =>
   intro D D' a w r h
   refine ⟨?_,h.2⟩
   cases hr:Region.ready .any all.toArray D with
   | nil=>rfl
   | cons i l =>
     obtain ⟨o,_,_,h2⟩:=r.ready hbk (i:=i) (by rw [hr];simp)
     rw [h.1] at h2;cases h2
 | succ fuel ih =>
   intro D D' a w r h
   refine ⟨fun hr=>h.1 ?_,fun i hi=>?_⟩
   ·have hall:=Ef hbk r.s hr
    cases hr':Region.ready .any (An all).toArray D' with
    | nil=>rfl
    | cons q l =>
      exfalso
      obtain ⟨o',ho',hn',_⟩:=EA (show q∈Region.ready .any (An all).toArray D' by rw [hr'];simp)
      have hlt:=(List.getElem?_eq_some_iff.1 ho').1
      rw [hoist_len] at hlt
      rw [CY (by rw [r.s'];exact hlt)] at hn'
      have hln:Ac D' q:=by
       rcases Nat.lt_or_ge q (AG all).length with hq|hq
       ·exact r.mv' q hq
       ·obtain ⟨i,o,h1,h2,rfl⟩:=SQ hq hlt
        exact (r.ot i o h1 h2).2 (hall i (List.getElem?_eq_some_iff.1 h1).1)
      unfold Ac at hln
      rw [hn'] at hln;cases hln
   ·obtain ⟨o,ho,hx,hrd⟩:=r.ready hbk hi
    have hg:=I5 ho hx
    have hlt:=(List.getElem?_eq_some_iff.1 ho).1
    have hlt':(AG all).length+Ih all i<all.length:=by have:=(List.getElem?_eq_some_iff.1 hg).1;rwa [hoist_len] at this
    have h1:=h.2 _ hrd
    have hao:all.toArray[i]? = some o:=by simpa using ho
    have hao':(An all).toArray[(AG all).length+Ih all i]? = some (Od all (AG all).length o):=by simpa using hg
    have r':Ren all (D.setIfInBounds i true) (D'.setIfInBounds ((AG all).length+Ih all i) true):=by
     have e1:∀ k,Ac (D.setIfInBounds i true) k↔Ac D k\/k=i:=fun k=>by unfold Ac;rw [Ei (by rw [r.s];exact hlt)];simp
     have e2:∀ k,Ac (D'.setIfInBounds ((AG all).length+Ih all i) true) k↔Ac D' k\/k=(AG all).length+Ih all i:=fun k=>by unfold Ac;rw [Ei (by rw [r.s'];exact hlt')];simp
     refine ⟨by simp [r.s],by simp [r.s'],fun j o' x hj hx'=>(e1 j).2 (.inl (r.mv j o' x hj hx')),fun j hj=>(e2 j).2 (.inl (r.mv' j hj)),fun j o' hj hx'=>?_⟩
     rw [e1,e2,r.ot j o' hj hx']
     constructor
     ·rintro (h|h)
      ·exact .inl h
      ·exact .inr (ab hj hx' ho hx (by omega))
     ·rintro (h|h)
      ·exact .inl h
      ·subst h;exact .inr rfl
    have hwt:Region.wanted (Od all (AG all).length o) (yielded (An all).toArray a.tmps)=Region.wanted o (yielded all.toArray a.tmps):=by
     unfold Region.wanted
     cases hgu:o.guard with
     | none=>simp only [Od,hgu]
     | some gw =>
       obtain ⟨g,b⟩:=gw
       obtain ⟨h2,h3⟩:=hgd i o g b ho hgu
       have ho2:all[g]? = some (all[g]'h3):=List.getElem?_eq_getElem _
       have hx2:HF (all[g]'h3)=none:=by
        rw [PJ ho2] at h2
        cases hx3:HF (all[g]'h3) with
        | none=>rfl
        | some y=>rw [hx3] at h2;simp at h2
       have hg2:=I5 ho2 hx2
       have hy:yielded (An all).toArray a.tmps ((AG all).length+Ih all g)=yielded all.toArray a.tmps g:=by
        unfold yielded
        simp only [List.getElem?_toArray,hg2,ho2,Option.bind_some]
        rfl
       simp only [Od,hgu,hy]
    unfold wpOpIn at h1 ⊢
    simp only [hao'] at h1
    simp only [hao]
    rw [hwt] at h1
    split
    ·rename_i hw
     rw [if_pos hw] at h1
     exact Oper.wpIn_mono (fun a' w' h2=>ih _ _ a' w' r' h2) h1
    ·rename_i hw
     rw [if_neg hw] at h1
     exact ⟨h1.1,ih _ _ _ _ r' h1.2⟩
end
end Abs
end Go.Proofs.YtccgngldoinokaaGreat

namespace Go.Proofs.YtccgngldoinokaaGreat
namespace Abs
open Go Go.RowKit
section
variable {P:Program} {S:Sums} {C C':Cx} {w w':World} {H hp:A0} {T T1 T':List Cnd} {all:List Oper}
theorem Cext.same (h:w'.heap=w.heap):Cext C w C w':=⟨fun _ _ h=>h,fun _ h=>h,fun _ _=>by rw [h]⟩
theorem HR.same (h:w'.heap=w.heap) (hH:HR C hp w):HR C hp w' :=
 ⟨fun i p hi=>(hH.live i p hi).mono (.same h) (fun _ _ _ _=>by rw [h]) (fun _ _ hb=>⟨hb,by rw [h]⟩),hH.inj,fun i b c n hi=>(by rw [h];exact hH.fresh i b c n hi),fun b hb=>(by rw [h];exact hH.ilt b hb),fun b x hb=>⟨by rw [h];exact (hH.sub b x hb).1,(hH.sub b x hb).2.1,(hH.sub b x hb).2.2.1,(hH.sub b x hb).2.2.2.keep (by rw [h])⟩⟩
theorem Tr.draw (lo:Nat) (C:Cx) (w:World) (n:Nat):Tr lo C w C { w with drawn:=n } :=
 ⟨rfl,rfl,rfl,Nat.le_refl _,fun _ _ _ _=>rfl,fun _ h=>h,fun _ h=>.inl h,fun _ _=>rfl,fun i _b c n h h'=>.inl ⟨i,c,n,h,h'⟩,fun _ x h=>.inl ⟨x,h⟩⟩
theorem ND (hS:SumsOK P S) {ro:Option Nat} {rm:Nat} (hm:P.follows .mixedOrders=true) {id:Nat} {ops:Array Oper} (hu:Dd ops.toList=true) (htmp:KO ops.toList=true) (hback:GH ops.toList) {R:AV->A0->Prop} {K:List AV->A0->VC} {Q:Exit->Act->World->Prop} {fr:List AV} {act:Act}
  (AQ:S.lo<=hp.length) (hH:HR C hp w) (hF:FR [] C w fr act.tmps) (h:(AI P S true ops.toList none 0 ops.toList [] fr hp K).sat R) {ds:Act->Prop} (hput:Ep ops.toList ds) (hds:ds act) (hgoal:Goal P S R K Q C w ds):(Code.region id ops true).wpIn (Fa ro) rm P Q act w:=by
 refine Go.wpIn_mono (Q:=fun e a w=>(∀ c,e≠.panic c)/\Q e a w) ?_ fun e a w h=>h.2
 apply wpIn_region_any hm
 obtain ⟨L,T',hs,he⟩:=LG hS hu (s:=0) (T0:=[]) (fr0:=fr) (hp0:=hp) ops.toList [] [] ⟨by simp,.refl _,fun q hq=>by simp at hq⟩ (by simp) (fun k x hx=>by simp at hx) h
 have hsz:(Array.replicate ops.size false).size=ops.toList.length:=by simp
 have hno:∀ i,¬ Ac (Array.replicate ops.size false) i:=fun i h=>by
  unfold Ac at h
  rw [Array.getD_eq_getD_getElem?,Array.getElem?_replicate] at h
  split at h<;>simp at h
 obtain ⟨r,hr⟩:=Aj hp L L.length
 have hH1:HR C hp { w with drawn:=w.drawn+1 }:=HR.same (w:=w) rfl hH
 have hF1:FR [] C { w with drawn:=w.drawn+1 } fr act.tmps:=FR.mono (w:=w) (w':={ w with drawn:=w.drawn+1 }) (.same rfl) hF
 have hunl:∀ n,J3 (fun i=>(Array.replicate ops.size false).getD i false) n<=n:=fun n=>by
  induction n with
  | zero=>exact Nat.le_refl _
  | succ n ih=>simp only [J3];split<;>omega
 have:=Ff _ _ _ _ <| (ME (Q:=fun e a w=>(∀ c,e≠.panic c)/\Q e a w) hS hu htmp hback hput (ro:=ro) (rm:=rm) (fun c a w h=>h.1 c rfl) ops.size (fun _ _=>True) (fun _ _ _ _ _ _=>trivial)).1 (Array.replicate ops.size false) 0 [] fr hp L T' C { w with drawn:=w.drawn+1 } act hs he
  ⟨hsz,fun i hi=>by omega,fun i _=>hno i,fun i o _ hl=>(hno i hl).elim,⟨by rw [hr];exact hH1.ext r,fun q _ _ t _=>by
   obtain ⟨r',hr'⟩:=Aj hp L q
   cases hc:C.ρ ((hps hp L q).length+t) with
   | none=>rfl
   | some p=>have:=hH1.lt hc;rw [hr'] at this;simp at this;omega,
   fun q _ hl=>(hno _ hl).elim,fun t _=>(hF1.get t).sub hs.sub,hF1.len⟩⟩ AQ (by have:=hunl ops.toList.length;simpa using this) hds (Goal.any fun fr' hp' C' w' act' h1 h2 h3 h4 h5 h6=>⟨fun c h=>by (cases h),(hgoal.step (.draw _ _ _ _)) fr' hp' C' w' act' h1 h2 h3 h4 h5 h6⟩)
 simpa using this
theorem f_ {all:List Oper} (h:km all=true):Dj true all (all.length-1)=true:=by
 unfold km at h
 split at h
 ·cases h
 ·rename_i o l
  rw [show (o::l).length-1=I2 l by rw [K3];simp]
  exact h
theorem dZ (hS:SumsOK P S) {ro:Option Nat} {rm:Nat} (hm:P.follows .mixedOrders=true) {id:Nat} {ops:Array Oper} {z:Sw} (hz:SwReg ops.toList z) {R:AV->A0->Prop} {K:List AV->A0->VC} {Q:Exit->Act->World->Prop} {fr:List AV} {act:Act}
  (AQ:S.lo<=hp.length) (hd0:z.d<fr.length) (hH:HR C hp w) (hF:FR [] C w fr act.tmps) (h:(Gw P S z (km ops.toList) 0 (Ap ops.toList z) (Ay fr z.d .top) hp K).sat R) {ds:Act->Prop} (hput:Ep ops.toList ds) (hds:ds act) (hgoal:Goal P S R K Q C w ds):(Code.region id ops true).wpIn (Fa ro) rm P Q act w:=by
 apply wpIn_region_any hm
 obtain ⟨L,hs,hend⟩:=tY hS hz (fr0:=Ay fr z.d .top) (hp0:=hp) (fun h=>f_ h) (Ap ops.toList z) [] ⟨by simp,fun h=>by simp at h,fun h=>by simp at h,fun q hq=>by simp at hq⟩ (by simp) h
 have hsz:(Array.replicate ops.size false).size=ops.toList.length:=by simp
 have hno:∀ i,¬ Ac (Array.replicate ops.size false) i:=fun i h=>by
  unfold Ac at h
  rw [Array.getD_eq_getD_getElem?,Array.getElem?_replicate] at h
  split at h<;>simp at h
 obtain ⟨r,hr⟩:=Aj hp L L.length
 have hH1:HR C hp { w with drawn:=w.drawn+1 }:=HR.same (w:=w) rfl hH
 have hF1:FR [] C { w with drawn:=w.drawn+1 } fr act.tmps:=FR.mono (w:=w) (w':={ w with drawn:=w.drawn+1 }) (.same rfl) hF
 have hunl:∀ n,J3 (fun i=>(Array.replicate ops.size false).getD i false) n<=n:=fun n=>by
  induction n with
  | zero=>exact Nat.le_refl _
  | succ n ih=>simp only [J3];split<;>omega
 have:=tZ hS hz hput (ro:=ro) (rm:=rm) (Cs:=C) (ws:={ w with drawn:=w.drawn+1 }) hs hend AQ (by rw [Ea];exact hd0) (by rw [E9,if_pos ⟨rfl,hd0⟩]) (hgoal.step (.draw _ _ _ _)) ops.size (Array.replicate ops.size false) C { w with drawn:=w.drawn+1 } act
  ⟨hsz,fun i o _ hl=>(hno i hl).elim,⟨by rw [hr];exact hH1.ext r,fun q _ _ t _=>by
   obtain ⟨r',hr'⟩:=Aj hp L q
   cases hc:C.ρ ((hps hp L q).length+t) with
   | none=>rfl
   | some p=>have:=hH1.lt hc;rw [hr'] at this;simp at this;omega,
   fun q _ hl=>(hno _ hl).elim,fun t _=>by
    rw [E9]
    split
    ·exact .plain (.top _) trivial
    ·exact hF1.get t,by rw [Ea];exact hF1.len⟩,.refl _ _ _,fun hl=>(hno _ hl).elim,fun _=>hno _⟩ (by have:=hunl ops.toList.length;simpa using this) hds
 simpa using this
noncomputable def U2:List Oper->List AV->List AV
 | [],fr=>fr
 | o::l,fr=>(match HF o with|some x=>U2 l (CT fr o.dst (DN (ev fr x)))|none=>U2 l fr)
theorem OW:∀ (l:List Oper) (fr:List AV) (k:List AV->VC),KP l fr k=k (U2 l fr)
 | [],_,_=>rfl
 | o::l,fr,k=>by
   cases hx:HF o with
   | some x =>
     simp only [KP,U2,hx,AT,FV]
     exact OW l _ k
   | none =>
     simp only [KP,U2,hx]
     exact OW l fr k
theorem U1:∀ (l:List Oper) (fr:List AV) (act:Act),FR [] C w fr act.tmps->FR [] C w (U2 l fr) (Lc l act).tmps
 | [],_,_,h=>h
 | o::l,fr,act,h=>by
   cases hx:HF o with
   | some x =>
     simp only [U2,Lc,hx]
     exact U1 l _ _ (h.put (.plain (Du (EL x fun t _=>h.get t).1) (BQ _)) _)
   | none =>
     simp only [U2,Lc,hx]
     exact U1 l fr act h
theorem PG {ds:Act->Prop}:∀ (l:List Oper) (act:Act),(∀ o∈l,∀ (a:Act) (v:Value),ds a->ds (a.put o.dst v))->ds act->ds (Lc l act)
 | [],_,_,h=>h
 | o::l,act,hp,h=>by
   simp only [Lc]
   split
   ·exact PG l _ (fun o ho=>hp o (by simp [ho])) (hp o (by simp) _ _ h)
   ·exact PG l act (fun o ho=>hp o (by simp [ho])) h
theorem MS {k:Nat} {all:List Oper}:∀ {l:List Oper} {o:Oper},o∈ET all k l->∃ o'∈l,o.dst=o'.dst
 | [],o,h=>by simp [ET] at h
 | p::l,o,h=>by
   simp only [ET] at h
   split at h
   ·obtain ⟨o',h1,h2⟩:=MS h
    exact ⟨o',by simp [h1],h2⟩
   ·rcases List.mem_cons.1 h with rfl|h
    ·exact ⟨p,by simp,rfl⟩
    ·obtain ⟨o',h1,h2⟩:=MS h
     exact ⟨o',by simp [h1],h2⟩
theorem MZ:∀ {l:List Oper} {o:Oper},o∈AG l->o∈l
 | [],o,h=>by simp [AG] at h
 | p::l,o,h=>by
   simp only [AG] at h
   split at h
   ·rcases List.mem_cons.1 h with rfl|h
    ·simp
    ·exact List.mem_cons_of_mem _ (MZ h)
   ·exact List.mem_cons_of_mem _ (MZ h)
theorem Mj {all:List Oper} {o:Oper} (h:o∈An all):∃ o'∈all,o.dst=o'.dst:=by
 unfold An at h
 rcases List.mem_append.1 h with h|h
 ·exact ⟨o,MZ h,rfl⟩
 ·exact MS h
theorem Ta (hS:SumsOK P S) {ro:Option Nat} {rm:Nat} (hm:P.follows .mixedOrders=true) {id:Nat} {ops:Array Oper} (hok:vu ops.toList=true) {R:AV->A0->Prop} {K:List AV->A0->VC} {Q:Exit->Act->World->Prop} {fr:List AV} {act:Act}
  (AQ:S.lo<=hp.length) (hH:HR C hp w) (hF:FR [] C w fr act.tmps) (hbk:GH ops.toList) (h:(KP ops.toList fr fun fr'=>AI P S true (An ops.toList) none (I2 (AG ops.toList)) (ET ops.toList (I2 (AG ops.toList)) ops.toList) [] fr' hp K).sat R) {ds:Act->Prop} (hput:Ep ops.toList ds) (hds:ds act) (hgoal:Goal P S R K Q C w ds) :
  (Code.region id ops true).wpIn (Fa ro) rm P Q act w:=by
 refine Go.wpIn_mono (Q:=fun e a w=>(∀ c,e≠.panic c)/\Q e a w) ?_ fun e a w h=>h.2
 apply wpIn_region_any hm
 unfold vu at hok
 simp only [Bool.and_eq_true,Iy] at hok
 obtain ⟨⟨⟨hu,ht,hb⟩,hall⟩,hap⟩:=hok
 have hall:∀ o∈ops.toList,(∀ cs b,o.op≠.select cs b)/\∀ g b,o.guard=some (g,b)->PK ops.toList g=false/\g<ops.toList.length:=fun o ho=>by
  have h1:=List.all_eq_true.1 hall o ho
  simp only [Bool.and_eq_true,Bool.not_eq_true'] at h1
  refine ⟨fun cs b hc=>?_,fun g b hg=>?_⟩
  ·rw [hc] at h1;simp [c9] at h1
  ·have h2:=h1.2
   rw [hg] at h2
   simpa [Nat.blt_eq] using h2
 rw [OW] at h
 have hkl:I2 (AG ops.toList)=(AG ops.toList).length:=K3 _
 have hlen:(AG ops.toList).length<=ops.toList.length:=by have:=PT (all:=ops.toList) 0 ops.toList;omega
 have hH1:HR C hp { w with drawn:=w.drawn+1 }:=HR.same (w:=w) rfl hH
 have hF1:FR [] C { w with drawn:=w.drawn+1 } fr act.tmps:=FR.mono (w:=w) (w':={ w with drawn:=w.drawn+1 }) (.same rfl) hF
 have hF2:=U1 ops.toList fr act hF1
 have hsz:(Array.replicate ops.size false).size=ops.toList.length:=by simp
 have hno:∀ i,¬ Ac (Array.replicate ops.size false) i:=fun i h=>by
  unfold Ac at h
  rw [Array.getD_eq_getD_getElem?,Array.getElem?_replicate] at h
  split at h<;>simp at h
 have key:=YW (P:=P) (F:=Fa ro) (n:=rm) (Q:=fun e a w=>(∀ c,e≠.panic c)/\Q e a w) (all:=ops.toList) (fun f=>trivial) (fun j o cs b hj=>(hall o (List.mem_of_getElem? hj)).1 cs b) (fun c a w h=>h.1 c rfl) (fun i oi x hi hx j oj hj hne hno=>by
   have h1:=Ag hap i (List.getElem?_eq_some_iff.1 hi).1
   simp only [hi,hx] at h1
   have h2:=Ag h1 j (List.getElem?_eq_some_iff.1 hj).1
   simp only [hj,Bool.or_eq_true,List.any_eq_true,Bool.and_eq_true] at h2
   rcases h2 with (h2|⟨e,h2,h3,h4⟩)|h2
   ·exact absurd (Nat.eq_of_beq_eq_true h2) hne
   ·exact absurd (Nat.eq_of_beq_eq_true h4) (hno e (by simpa using h2) h3)
   ·exact h2) (fuel:=ops.toList.length-(AG ops.toList).length) ops.toList 0 (Array.replicate ops.size false) act { w with drawn:=w.drawn+1 } (fun j=>by simp) hsz (fun i _=>hno i) ?_
 ·rw [Nat.sub_add_cancel hlen] at key
  simpa using key
 obtain ⟨hz1,hz2⟩:=Ki ops.toList 0 (Array.replicate ops.size false) (by simp)
 obtain ⟨D',hD1,hD2⟩:∃ D':Array Bool,D'.size=ops.toList.length/\∀ i,Ac D' i↔i<(AG ops.toList).length:=by
  refine ⟨(List.replicate (AG ops.toList).length true++List.replicate (ops.toList.length-(AG ops.toList).length) false).toArray,by
   rw [List.size_toArray,List.length_append,List.length_replicate,List.length_replicate];omega,fun i=>?_⟩
  unfold Ac
  rw [Array.getD_eq_getD_getElem?]
  simp only [List.getElem?_toArray]
  rcases Nat.lt_or_ge i (AG ops.toList).length with hi|hi
  ·rw [List.getElem?_append_left (by simpa using hi),List.getElem?_replicate,if_pos hi];simp [hi]
  ·rw [List.getElem?_append_right (by simpa using hi),List.getElem?_replicate]
   split<;>simp<;>omega
 have hmvget:∀ i,i<(AG ops.toList).length->∃ o x,(An ops.toList)[i]? = some o/\HF o=some x:=fun i hi=>by
  have h1:(An ops.toList)[i]? = some ((AG ops.toList)[i]'hi):=by
   unfold An
   rw [List.getElem?_append_left hi,List.getElem?_eq_getElem hi]
  obtain ⟨x,hx⟩:=K1 (List.getElem_mem hi)
  exact ⟨_,x,h1,hx⟩
 refine ed hbk (fun i o g b hi hg=>(hall o (List.mem_of_getElem? hi)).2 g b hg) _ _ D' _ _ ⟨hz1.trans hsz,hD1,fun i o x hi hx=>(hz2 i).2 (.inr ⟨i,o,x,by omega,hi,hx⟩),fun i hi=>(hD2 i).2 hi,fun i o hi hx=>?_⟩ ?_
 ·rw [hD2,hz2]
  constructor
  ·intro h;omega
  ·rintro (h|⟨j,o',x,h1,h2,h3⟩)
   ·exact absurd h (hno i)
   ·obtain rfl:i=j:=by omega
    rw [hi] at h2;injection h2 with h2;subst h2
    rw [hx] at h3;cases h3
 rw [hkl] at h
 have hdrop:(An ops.toList).drop ((AG ops.toList).length+([]:List Info).length)=ET ops.toList (AG ops.toList).length ops.toList:=by
  unfold An
  rw [hkl]
  simp
 obtain ⟨L,T',hs,he⟩:=LG hS hu (s:=(AG ops.toList).length) (T0:=[]) (fr0:=U2 ops.toList fr) (hp0:=hp) _ [] [] ⟨by rw [hoist_len];simpa using hlen,.refl _,fun q hq=>by simp at hq⟩ hdrop (fun k x hx=>by simp at hx) h
 obtain ⟨r,hr⟩:=Aj hp L L.length
 have hput':Ep (An ops.toList) ds:=fun o ho a v hda=>by
  obtain ⟨o',h1,h2⟩:=Mj ho
  rw [h2];exact hput o' h1 a v hda
 have hcount:J3 (fun i=>D'.getD i false) (An ops.toList).length<=ops.toList.length-(AG ops.toList).length:=by
  rw [hoist_len]
  have:∀ m,J3 (fun i=>D'.getD i false) m<=m-(AG ops.toList).length:=fun m=>by
   induction m with
   | zero=>exact Nat.zero_le _
   | succ m ih =>
     simp only [J3]
     rcases Nat.lt_or_ge m (AG ops.toList).length with hm|hm
     ·have:=(hD2 m).2 hm
      unfold Ac at this
      simp only [this,if_true];omega
     ·split<;>omega
  exact this _
 refine Ff _ _ _ _ <| (ME (Q:=fun e a w=>(∀ c,e≠.panic c)/\Q e a w) hS hu ht (ED hb) hput' (ro:=ro) (rm:=rm) (fun c a w h=>h.1 c rfl) _ (fun _ _=>True) (fun _ _ _ _ _ _=>trivial)).1 D' _ [] _ hp L T' C { w with drawn:=w.drawn+1 } _ hs he
  ⟨hD1.trans hoist_len.symm,fun i hi=>(hD2 i).2 hi,fun i hi hl=>?_,fun i o ho hl e he' hb'=>?_,⟨by rw [hr];exact hH1.ext r,fun q _ _ t _=>by
   obtain ⟨r',hr'⟩:=Aj hp L q
   cases hc:C.ρ ((hps hp L q).length+t) with
   | none=>rfl
   | some p=>have:=hH1.lt hc;rw [hr'] at this;simp at this;omega,
   fun q _ hl=>?_,fun t _=>(hF2.get t).sub hs.sub,hF2.len⟩⟩ AQ hcount (PG ops.toList act (fun o ho a v hda=>hput o ho a v hda) hds) ?_
 ·have:=(hD2 i).1 hl;omega
 ·have hlt:=(hD2 i).1 hl
  obtain ⟨o',x,h1,h2⟩:=hmvget i hlt
  rw [ho] at h1;injection h1 with h1;subst h1
  rw [(PF h2).2.2] at he';cases he'
 ·have:=(hD2 _).1 hl;omega
 ·refine Goal.any fun fr' hp' C' w' act' h1 h2 h3 h4 h5 h6=>?_
  exact ⟨fun c h=>by (cases h),(hgoal.step (.draw _ _ _ _)) fr' hp' C' w' act' h1 h2 h3 h4 h5 h6⟩
def Cx.cut (C:Cx) (lo:Nat) (tgt:A0):Cx :=
 ⟨fun i=>if i<lo\/AB tgt i=true then C.ρ i else none,fun b=>C.I b\/∃ i c n,AP lo tgt i=true/\C.ρ i=some (.at b c n),C.O⟩
theorem FL {lo i:Nat} (h:AB hp i=true):(C.cut lo hp).ρ i=C.ρ i:=by simp [Cx.cut,h]
def Imp (C:Cx) (lo:Nat) (tgt:A0) (w:World) (a b:AV):Prop:=∀ v,Rel C w a v->RelG [] (C.cut lo tgt) w b v
def AV3 (C:Cx) (lo:Nat) (tgt:A0) (w:World) (l m:List AV):Prop:=l.length=m.length/\∀ vs,RelL C w l vs->RelL (C.cut lo tgt) w m vs
theorem IG (lo:Nat) (hp:A0):∀ b,C.I b->(C.cut lo hp).I b:=fun _ h=>.inl h
theorem Zx {a:AV} {v:Value} (h:Rel C w a v):Rel C w (LY a) v:=by
 cases h<;>unfold LY<;>first|exact .si _ _|exact .sb _|constructor<;>assumption|(exact .top _)|(exact .gd _ _ _)|skip
 rename_i n sz el A vs hI hc hr hl hn
 cases n with
 | zero =>
   obtain rfl:=hI.1.1 rfl
   exact .v _
 | succ n=>exact .pa _ sz el A vs hI hc hr hl hn
theorem aZ {a:AV} {v:Value} (h:Rel C w (LY a) v):Rel C w a v:=by
 cases a<;>first|exact h|(unfold LY at h;cases h;first|exact .li _ _|exact .lb _)|skip
 rename_i n sz el
 cases n with
 | zero =>
   have h:Rel C w (.v (.pointer none)) v:=h
   cases h
   exact .pa 0 sz el none (fun _=>[]) ⟨⟨fun _=>rfl,fun _=>rfl⟩,fun _ e=>by cases e⟩ (fun _ e=>by cases e) (fun k hk=>by omega) (fun k hk=>by omega) (fun k hk=>by omega)
 | succ n=>exact h
theorem VQ:∀ {l:List AV} {vs:List Value},RelL C w l vs->RelL C w (E3 l) vs
 | _,_,.nil=>.nil
 | _,_,.cons a l v vs h h'=>.cons _ _ _ _ (Zx h) (VQ h')
theorem Vk:∀ {l:List AV} {vs:List Value},RelL C w (E3 l) vs->RelL C w l vs
 | [],_,h=>h
 | a::l,_,h=>by
   cases h with|cons _ _ _ _ h h'=>exact .cons _ _ _ _ (aZ h) (Vk h')
theorem Tp (a:AV):LX (LY a)=LX a:=by
 cases a<;>first|rfl|skip
 rename_i n _ _
 cases n<;>rfl
theorem Tl:∀ l:List AV,DV (E3 l)=DV l
 | []=>rfl
 | a::l=>by simp [E3,DV,Tp,Tl l]
theorem Fl {l m:List AV} (h:E3 l=E3 m) {vs:List Value} (hr:RelL C w l vs):RelL C w m vs:=Vk (h▸VQ hr)
theorem Ge {l m:List AV} (h:E3 l=E3 m) (hr:DV l=true):DV m=true:=by rw [<- Tl,<- h,Tl];exact hr
theorem TI {_lo:Nat} {n n':LN} {sz:Nat} {el el':Nat->List AV} (h1:n'.val=n.val) (h2:∀ j,j<n.val->E3 (el' j)=E3 (el j)) {v:Value} (h':Rel C w (.slc n' sz el') v):Rel C w (.slc n sz el) v:=by
 cases h' with
 | slc _ _ _ A cap vs hcap hA hr hl hn =>
   rw [h1]
   exact .slc n sz el A cap vs (by omega) (fun h=>by
    obtain ⟨ad,h3,h4,h5⟩:=hA (by omega)
    exact ⟨ad,h3,h4,fun k hk=>h5 k (by omega)⟩) (fun k hk=>Fl (h2 k hk) (hr k (by omega))) (fun k hk=>hl k (by omega)) (fun k hk=>Ge (h2 k hk) (hn k (by omega)))
theorem oE {lo i:Nat} {src:A0} {e:TypeId} {n:LN} {sz:Nat} {el:Nat->List AV} (hH:HR C src w) (hb:A3 src i=.row e sz n el) (hg:AP lo hp i=true) {v:Value} (hv:Rel C w (.row i) v):Rel (C.cut lo hp) w (.slc n sz el) v:=by
 cases hv with
 | row _ b c m hρ =>
   have hl:=hH.live _ _ hρ
   rw [hb] at hl
   obtain ⟨hm,hcap,hs0,cs,vs,hh,hsz,hcell⟩:=hl
   rw [<- hm]
   refine .slc n sz el _ c vs (by omega) (fun _=>⟨_,rfl,.inr ⟨i,c,m,hg,hρ⟩,fun k hk q hq=>?_⟩) (fun k hk=>?_) (fun k hk=>(hcell k (by omega)).2.2.1) (fun k hk=>(hcell k (by omega)).2.1)
   ·rw [Dt]
    have:=(hcell k (by omega)).2.2.2 q hq
    rw [<- this];simp [World.cell?,hh]
   ·exact RelL.still (C:=C) (C':=C.cut lo hp) (IG lo hp) (fun _ _=>rfl) (hcell k (by omega)).1 (Ca (hcell k (by omega)).2.1)
 | rown _ hρ =>
   have hl:=hH.live _ _ hρ
   rw [hb] at hl
   obtain ⟨h0,_⟩:n.val=0/\_:=hl
   have:=Rel.slc (C:=C.cut lo hp) (w:=w) n sz el none 0 (fun _=>[]) (by omega) (fun h=>by omega) (fun k hk=>by omega) (fun k hk=>by omega) (fun k hk=>by omega)
   rwa [h0] at this
mutual
theorem UB {R:AV->A0->Prop} {lo:Nat} {src:A0}:∀ {b a:AV} {k:VC},(Np lo src hp a b k).sat R->k.sat R/\∀ (C:Cx) (w:World),HR C src w->Imp C lo hp w a b
 | .top,a,k,h=>by unfold Np at h;exact ⟨h,fun C w _ v _=>.plain (.top v) trivial⟩
 | .si q y,a,k,h=>by
   unfold Np at h
   split at h
   ·rename_i q' hk
    split at h
    ·rename_i hq
     have hq:q=q':=by simpa using hq
     subst hq
     refine ⟨h.2,fun C w _ v hv=>.plain ?_ trivial⟩
     rw [AJ hv hk,show AA a=y from h.1];exact .si _ _
    ·exact h.elim
   ·exact h.elim
 | .li q y,a,k,h=>by
   unfold Np at h
   split at h
   ·rename_i q' x
    split at h
    ·rename_i hq
     have hq:q=q'/\x=y:=by simpa using hq
     obtain ⟨rfl,rfl⟩:=hq
     exact ⟨h,fun C w _ v hv=>.plain (hv.change (IG lo hp) rfl) trivial⟩
    ·exact h.elim
   ·exact h.elim
 | .sb y,a,k,h=>by
   unfold Np at h
   split at h
   ·rename_i x
    exact ⟨h.2,fun C w _ v hv=>.plain (by cases hv;rw [show x=y from h.1];exact .sb _) trivial⟩
   ·rename_i x
    exact ⟨h.2,fun C w _ v hv=>.plain (by cases hv;rw [show x=y from h.1];exact .sb _) trivial⟩
   ·exact h.elim
 | .lb y,a,k,h=>by
   unfold Np at h
   split at h
   ·rename_i x
    split at h
    ·rename_i hx
     have:x=y:=by simpa using hx
     subst this
     exact ⟨h,fun C w _ v hv=>.plain (hv.change (IG lo hp) rfl) trivial⟩
    ·exact h.elim
   ·exact h.elim
 | .own i o,a,k,h=>by
   unfold Np at h
   split at h
   ·split at h
    ·rename_i hc
     simp only [Bool.and_eq_true,decide_eq_true_eq] at hc
     obtain ⟨⟨rfl,rfl⟩,ha⟩:=hc
     refine ⟨h,fun C w _ v hv=>.plain ?_ trivial⟩
     cases hv with|own _ _ b c n hρ=>exact .own _ _ b c n (by rw [FL ha];exact hρ)
    ·exact h.elim
   ·exact h.elim
 | .elt i s q o,a,k,h=>by
   unfold Np at h
   split at h
   ·split at h
    ·rename_i hc
     simp only [Bool.and_eq_true,decide_eq_true_eq] at hc
     obtain ⟨⟨rfl,rfl,rfl⟩,ha⟩:=hc
     have h1:=h.1
     simp only [Cd.ok] at h1
     refine ⟨h.2,fun C w _ v hv=>.plain ?_ trivial⟩
     rw [<- h1]
     cases hv with|elt _ _ _ _ b c n hρ hk=>exact .elt _ _ _ _ b c n (by rw [FL ha];exact hρ) hk
    ·exact h.elim
   ·exact h.elim
 | .row i,a,k,h=>by
   unfold Np at h
   split at h
   ·split at h
    ·rename_i hc
     simp only [Bool.and_eq_true,decide_eq_true_eq] at hc
     obtain ⟨rfl,ha⟩:=hc
     refine ⟨h,fun C w _ v hv=>.plain ?_ trivial⟩
     cases hv with
     | row _ b c n hρ=>exact .row _ b c n (by rw [FL ha];exact hρ)
     | rown _ hρ=>exact .rown _ (by rw [FL ha];exact hρ)
    ·exact h.elim
   ·exact h.elim
 | .lsl i n s,a,k,h=>by
   unfold Np at h
   split at h
   ·split at h
    ·rename_i hc
     simp only [Bool.and_eq_true,decide_eq_true_eq] at hc
     obtain ⟨⟨rfl,rfl,rfl⟩,ha⟩:=hc
     refine ⟨h,fun C w _ v hv=>.plain ?_ trivial⟩
     cases hv with|lsl _ _ _ b c m hρ=>exact .lsl _ _ _ b c m (by rw [FL ha];exact hρ)
    ·exact h.elim
   ·exact h.elim
 | .slc n sz el,a,k,h=>by
   unfold Np at h
   split at h
   ·split at h
    ·rename_i hc
     have hc:=of_decide_eq_true hc
     subst hc
     exact ⟨h.2.2,fun C w _ v hv=>.plain (TI (_lo:=lo) h.1 h.2.1 (hv.change (IG lo hp) rfl)) trivial⟩
    ·exact h.elim
   ·rename_i i
    split at h
    ·rename_i e sz' n' el' hb
     split at h
     ·rename_i hc
      simp only [Bool.and_eq_true,decide_eq_true_eq] at hc
      obtain ⟨rfl,hg⟩:=hc
      exact ⟨h.2.2,fun C w hH v hv=>.plain (TI (_lo:=lo) h.1 h.2.1 (oE hH hb hg hv)) trivial⟩
     ·exact h.elim
    ·exact h.elim
   ·rename_i cap
    refine ⟨h.2,fun C w _ v hv=>.plain ?_ trivial⟩
    have h0:n.val=0:=h.1
    cases hv
    have:=Rel.slc (C:=C.cut lo hp) (w:=w) n sz el none cap (fun _=>[]) (by rw [h0];exact Nat.zero_le _) (fun h=>by omega) (fun k hk=>by omega) (fun k hk=>by omega) (fun k hk=>by omega)
    rw [h0] at this
    exact this
   ·exact h.elim
 | .agg m,a,k,h=>by
   unfold Np at h
   split at h
   ·obtain ⟨h1,h2⟩:=Ez h
    refine ⟨h1,fun C w hH v hv=>.plain ?_ trivial⟩
    cases hv with|agg _ vs hv=>exact .agg _ vs ((h2 C w hH).2 vs hv)
   ·exact h.elim
 | .tup m,a,k,h=>by
   unfold Np at h
   split at h
   ·obtain ⟨h1,h2⟩:=Ez h
    refine ⟨h1,fun C w hH v hv=>.plain ?_ trivial⟩
    cases hv with|tup _ vs hv=>exact .tup _ vs ((h2 C w hH).2 vs hv)
   ·exact h.elim
 | .xp l,a,k,h=>by
   unfold Np at h
   split at h
   ·exact h.elim
   ·rename_i ho
    split at h
    ·rename_i m
     obtain ⟨h1,h2⟩:=Ez h
     refine ⟨h1,fun C w hH v hv=>.plain ?_ trivial⟩
     have hle:=(h2 C w hH).1
     cases hv with
     | xp _ ad vs hr hI hc hn =>
       refine .xp l ad vs ((h2 C w hH).2 vs hr) (fun hl=>.inl (hI ?_)) (fun j hj=>hc j (by omega)) ho
       rintro rfl
       exact hl (List.eq_nil_of_length_eq_zero (by simpa using hle.symm))
    ·rename_i i o
     split at h
     ·rename_i t m hb
      split at h
      ·rename_i hg
       obtain ⟨h1,h2⟩:=Ez h
       refine ⟨h1,fun C w hH v hv=>.plain ?_ trivial⟩
       obtain ⟨hle,h3⟩:=h2 C w hH
       cases hv with
       | own _ _ b c n hρ =>
         have hl:=hH.live _ _ hρ
         rw [hb] at hl
         obtain ⟨vs,hr,hh⟩:=hl
         rw [Aa] at h3 hle
         refine .xp l _ (vs.drop o) (h3 _ (hr.drop o)) (fun _=>.inr ⟨i,c,n,hg,hρ⟩) (fun j hj=>?_) ho
         rw [G9 hh];simp [List.getElem?_drop]
      ·exact h.elim
     ·exact h.elim
    ·exact h.elim
 | .v x,a,k,h=>by
   unfold Np at h
   refine ⟨h.2,fun C w _ v hv=>.plain ?_ trivial⟩
   rw [show a=.v x from h.1] at hv
   exact hv.change (IG lo hp) rfl
 | .fn f l m,a,k,h=>by
   unfold Np at h
   split at h
   ·rename_i g l' m'
    split at h
    ·rename_i ho
     refine ⟨h.2,fun C w _ v hv=>.plain ?_ trivial⟩
     simp only [Bool.or_eq_false_iff] at ho
     rw [show AV.fn g l' m'=.fn f l m from h.1] at hv
     exact hv.change (IG lo hp) (by simp [ownIn,ho.1.1.1,ho.1.1.2])
    ·split at h
     ·rename_i hg
      have hg:g=f:=by
       unfold kj at hg
       split at hg
       ·rw [Nat.eq_of_beq_eq_true hg]
       ·cases hg
      subst hg
      obtain ⟨h1,h2⟩:=Ez h
      obtain ⟨h3,h4⟩:=Ez h1
      refine ⟨h3,fun C w hH v hv=>.plain ?_ trivial⟩
      cases hv with|fn _ _ _ vs ws q1 q2=>exact .fn _ _ _ vs ws ((h2 C w hH).2 vs q1) ((h4 C w hH).2 ws q2)
     ·exact h.elim
   ·exact h.elim
 | .gd _ _,a,k,h=>by unfold Np at h;exact h.elim
 | .mp i,a,k,h=>by
   unfold Np at h
   split at h
   ·split at h
    ·rename_i j hc
     simp only [Bool.and_eq_true,decide_eq_true_eq] at hc
     obtain ⟨rfl,ha⟩:=hc
     refine ⟨h,fun C w _ v hv=>.plain ?_ trivial⟩
     cases hv with|mp _ b c n hρ=>exact .mp _ b c n (by rw [FL ha];exact hρ)
    ·exact h.elim
   ·exact h.elim
 | .pa n sz el,a,k,h=>by
   unfold Np at h
   split at h
   ·rename_i n' sz' el'
    split at h
    ·rename_i hc
     have hc:sz=sz':=by simpa using hc
     subst hc
     have h0:n'=n:=h.1
     subst h0
     have h2:∀ j,j<n'->E3 (el' j)=E3 (el j):=h.2.1
     refine ⟨h.2.2,fun C w _ v hv=>.plain ?_ trivial⟩
     have hv:=hv.change (IG lo hp) rfl
     cases hv with
     | pa _ _ _ ad vs hI hc hr hl hn=>exact .pa n' sz el ad vs hI hc (fun k hk=>Fl (h2 k hk) (hr k hk)) hl (fun k hk=>Ge (h2 k hk) (hn k hk))
    ·exact h.elim
   ·have h0:n=0:=h.1
    subst h0
    refine ⟨h.2,fun C w _ v hv=>.plain ?_ trivial⟩
    cases hv
    exact .pa 0 sz el none (fun _=>[]) ⟨⟨fun _=>rfl,fun _=>rfl⟩,fun _ e=>by cases e⟩ (fun _ e=>by cases e) (fun k hk=>by omega) (fun k hk=>by omega) (fun k hk=>by omega)
   ·rename_i m
    split at h
    ·rename_i hc
     simp only [Bool.and_eq_true,decide_eq_true_eq] at hc
     obtain ⟨⟨hs,hs0⟩,ho⟩:=hc
     have h0:1=n:=h.1
     subst h0
     have h2:∀ j,j<1->E3 m=E3 (el j):=h.2.1
     refine ⟨h.2.2,fun C w _ v hv=>.plain ?_ trivial⟩
     have hno:ownIn (.xp m)=false:=by simp [ownIn]
     have hv:=hv.change (IG lo hp) hno
     cases hv with
     | xp _ ad vs hr hI hc hn =>
       have hne:m≠[]:=by rintro rfl;simp at hs;omega
       refine .pa 1 sz el (some ad) (fun _=>vs) ⟨⟨fun e=>by omega,fun e=>by cases e⟩,fun ad' e=>by injection e with e;subst e;exact hI hne⟩ (fun ad' e k hk j hj=>?_) (fun k hk=>Fl (h2 k hk) hr) (fun k hk=>by rw [hs,<- hr.len]) (fun k hk=>Ge (h2 k hk) ho)
       injection e with e
       subst e
       obtain rfl:k=0:=by omega
       have:=hc j (by omega)
       simpa using this
    ·exact h.elim
   ·exact h.elim
theorem Ez {R:AV->A0->Prop} {lo:Nat} {src:A0}:∀ {m l:List AV} {k:VC},(SL lo src hp l m k).sat R->k.sat R/\∀ (C:Cx) (w:World),HR C src w->AV3 C lo hp w l m
 | [],l,k,h=>by
   unfold SL at h
   split at h
   ·exact ⟨h,fun C w _=>⟨rfl,fun vs hv=>by cases hv;exact .nil⟩⟩
   ·exact h.elim
 | b::m,l,k,h=>by
   unfold SL at h
   split at h
   ·obtain ⟨h1,h2⟩:=UB h
    obtain ⟨h3,h4⟩:=Ez h1
    exact ⟨h3,fun C w hH=>⟨by simp [(h4 C w hH).1],fun vs hv=>by
     cases hv with|cons _ _ v vs h5 h6=>exact .cons _ _ _ _ (h2 C w hH v h5).1 ((h4 C w hH).2 vs h6)⟩⟩
   ·exact h.elim
end
theorem Mf {R:AV->A0->Prop} {lo:Nat} {src:A0}:∀ {m l:List AV} {k:VC},(SL lo src hp l m k).sat R->∀ (C:Cx) (w:World),HR C src w->∀ (t:Nat) (v:Value),Rel C w (A4 l t) v->RelG [] (C.cut lo hp) w (A4 m t) v
 | [],l,k,h,C,w,hH,t,v,hv=>by
   unfold SL at h
   split at h
   ·refine .plain ?_ trivial
    cases hv with|tup _ vs hv=>cases hv;exact .tup _ _ .nil
   ·exact h.elim
 | b::m,l,k,h,C,w,hH,t,v,hv=>by
   unfold SL at h
   split at h
   ·obtain ⟨h1,h2⟩:=UB h
    cases t with
    | zero=>exact h2 C w hH v hv
    | succ t=>exact Mf h1 C w hH t v hv
   ·exact h.elim
theorem bv {R:AV->A0->Prop} {lo n:Nat} {src:A0} {a b:Blk} {k:VC} (h:(yb lo n src hp a b k).sat R) :
  k.sat R/\((b=.dead/\(lo<=n\/a=.dead))\/∀ (C:Cx) (w:World) (p:Pl),HR C src w->BRel C w p a->BRel (C.cut lo hp) w p b):=by
 unfold yb at h
 split at h
 ·split at h
  ·rename_i hl;exact ⟨h,.inl ⟨rfl,.inl (Nat.le_of_ble_eq_true hl)⟩⟩
  ·split at h
   ·exact ⟨h,.inl ⟨rfl,.inr rfl⟩⟩
   ·exact h.elim
 ·rename_i t m
  split at h
  ·rename_i t' l
   split at h
   ·rename_i ht
    have ht:t=t':=by simpa using ht
    subst ht
    obtain ⟨h1,h2⟩:=Ez h
    refine ⟨h1,.inr fun C w p hH hb=>?_⟩
    match p,hb with
    | .at q c m,⟨vs,hr,hh⟩=>exact ⟨vs,(h2 C w hH).2 vs hr,hh⟩
    | .nil,hb=>exact hb.elim
   ·exact h.elim
  ·exact h.elim
 ·rename_i e sz n' el
  split at h
  ·rename_i e' sz' n2 el'
   split at h
   ·rename_i hc
    have hc:e=e'/\sz=sz':=by simpa using hc
    obtain ⟨rfl,rfl⟩:=hc
    refine ⟨h.2.2,.inr fun C w p hH hb=>?_⟩
    match p,hb with
    | .at q c m,⟨h1,h2,h3,cs,vs,hh,hcs,hcell⟩ =>
      have hn:n2.val=n'.val:=h.1
      have hel:∀ j,j<n'.val->E3 (el' j)=E3 (el j):=h.2.1
      refine ⟨by rw [<- hn];exact h1,h2,h3,cs,vs,hh,hcs,fun k hk=>?_⟩
      have he:=hel k (by rw [<- hn,h1];exact hk)
      exact ⟨Fl he ((hcell k hk).1.change (IG lo hp) (Ca (hcell k hk).2.1)),Ge he (hcell k hk).2.1,(hcell k hk).2.2⟩
    | .nil,⟨h1,h2⟩=>exact ⟨by rw [<- show n2.val=n'.val from h.1];exact h1,h2⟩
   ·exact h.elim
  ·exact h.elim
 ·rename_i t wd n' f
  split at h
  ·rename_i t' wd' n2 f'
   split at h
   ·rename_i hc
    have hc:t=t'/\wd=wd':=by simpa using hc
    obtain ⟨rfl,rfl⟩:=hc
    refine ⟨h.2.2,.inr fun C w p hH hb=>?_⟩
    match p,hb with
    | .at q c m,⟨h1,h2,h3,cs,hh,hcs,hcell⟩ =>
      have hn:n2.val=n'.val:=h.1
      have hel:∀ k,k<n'.val->∀ j,j<wd->LY (f' k j)=LY (f k j):=h.2.1
      refine ⟨by rw [<- hn];exact h1,h2,h3,cs,hh,hcs,fun k hk j hj=>?_⟩
      obtain ⟨ho,v,hv,hr⟩:=hcell k hk j hj
      have he:=hel k (by rw [<- hn,h1];exact hk) j hj
      refine ⟨by rw [<- Tp,<- he,Tp];exact ho,v,hv,aZ (he▸Zx (hr.change (IG lo hp) (LP ho)))⟩
    | .nil,hb=>exact hb.elim
   ·exact h.elim
  ·exact h.elim
 ·rename_i e e1 sz n' fz ln el ho
  split at h
  ·rename_i e' e1' sz' n2 fz' ln' el' ho'
   have key:∀ (q:Option Nat),n2.val=n'.val->Hi (n'.val,q,(fz',ln',el'),(fz,ln,el))->(∀ k,¬ GM ho k->q≠some k/\¬ GM ho' k) ->
     (∀ k g,ho=some (k,some g)->ho'=some (k,some g)/\AB hp g=true)->∀ (C:Cx) (w:World) (p:Pl),HR C src w->BRel C w p (.rows e e1 sz n2 fz' ln' el' ho')->BRel (C.cut lo hp) w p (.rows e e1 sz n' fz ln el ho):=by
    intro q hn hR hq hg C w p hH hb
    match p,hb with
    | .at q c m,⟨h1,h2,h3,cs,hh,hcs,hcell⟩ =>
      refine ⟨by rw [<- hn];exact h1,h2,h3,cs,hh,hcs,fun k hk=>?_⟩
      obtain ⟨v,hv,hr,hs⟩:=hcell k hk
      refine ⟨v,hv,fun g hgk=>?_,fun hno=>?_⟩
      ·obtain ⟨g1,g2⟩:=hg k g hgk
       cases hr g g1 with
       | row _ b c n hρ=>exact .row _ b c n (by rw [FL g2];exact hρ)
       | rown _ hρ=>exact .rown _ (by rw [FL g2];exact hρ)
      ·obtain ⟨n1,n2'⟩:=hq k hno
       obtain ⟨r1,r2,r3⟩:=hR k (by rw [<- hn,h1];exact hk) n1
       have r3:∀ j,j<ln k->E3 (el' k j)=E3 (el k j):=r3
       have r1:fz' k=fz k:=r1
       have r2:ln' k=ln k:=r2
       refine ⟨fun hf=>?_,fun hf=>?_⟩
       ·exact TI (_lo:=lo) (show (LN.sym (ln' k)).val=(LN.sym (ln k)).val from r2) r3 (((hs n2').1 (r1.trans hf)).change (IG lo hp) rfl)
       ·rcases (hs n2').2 (r1.trans hf) with ⟨z1,z2⟩|⟨b',c',cs',vs,z1,z2,z3,z4,z5,z6,z7⟩
        ·exact .inl ⟨by rw [<- r2];exact z1,z2⟩
        ·rw [r2] at z1 z3 z7
         exact .inr ⟨b',c',cs',vs,z1,z2,z3,z4,z5,z6,fun j hj=>⟨Fl (r3 j hj) ((z7 j hj).1.change (IG lo hp) (Ca (z7 j hj).2.1)),Ge (r3 j hj) (z7 j hj).2.1,(z7 j hj).2.2⟩⟩
    | .nil,hb=>exact hb.elim
   split at h
   ·rename_i hc
    have hc:e=e'/\e1=e1'/\sz=sz':=by simpa using hc
    obtain ⟨rfl,rfl,rfl⟩:=hc
    exact ⟨h.2.2,.inr (key none h.1 h.2.1 (fun k _=>⟨by simp,fun ⟨x,hx⟩=>by cases hx⟩) (fun k g hg=>by cases hg))⟩
   ·rename_i q oh q' oh' hc
    have hc:e=e'/\e1=e1'/\sz=sz':=by simpa using hc
    obtain ⟨rfl,rfl,rfl⟩:=hc
    have hole:∀ (q:Nat) (x y:Option Nat),∀ k,¬ GM (some (q,x)) k->some q≠some k/\¬ GM (some (q,y)) k:=fun q x y k hk=>by
     have hne:q≠k:=fun e=>hk ⟨x,by rw [e]⟩
     exact ⟨fun e=>hne (by injection e),fun ⟨z,hz⟩=>hne (by injection hz with hz;injection hz)⟩
    split at h
    ·obtain ⟨h1,h2,h3,h4⟩:=h
     have h2:q'=q:=h2
     subst h2
     exact ⟨h4,.inr (key (some q') h1 h3 (hole _ _ _) (fun k g hg=>by injection hg with hg;injection hg with _ hg;cases hg))⟩
    ·rename_i g g'
     split at h
     ·rename_i hgg
      simp only [Bool.and_eq_true] at hgg
      obtain ⟨h1,h2,h3,h4⟩:=h
      have h2:q'=q:=h2
      subst h2
      obtain rfl:=Nat.eq_of_beq_eq_true hgg.1
      exact ⟨h4,.inr (key (some q') h1 h3 (hole _ _ _) (fun k g hg=>by injection hg with hg;injection hg with e1 e2;injection e2 with e2;subst e1 e2;exact ⟨rfl,hgg.2⟩))⟩
     ·exact h.elim
    ·exact h.elim
   ·exact h.elim
  ·exact h.elim
 ·rename_i n' sz el
  split at h
  ·rename_i n2 sz' el'
   split at h
   ·rename_i hc
    have hc:sz=sz':=by simpa using hc
    subst hc
    refine ⟨h.2.2,.inr fun C w p hH hb=>?_⟩
    match p,hb with
    | .at q c m,⟨es,ck,vs,hh,hs,hcell⟩ =>
      have hn:n2.val=n'.val:=h.1
      have hel:∀ j,j<n'.val->E3 (el' j)=E3 (el j):=h.2.1
      refine ⟨es,ck,vs,hh,by rw [<- hn];exact hs,fun k hk=>?_⟩
      have he:=hel k hk
      have hk2:k<n2.val:=by rw [hn];exact hk
      exact ⟨Fl he ((hcell k hk2).1.change (IG lo hp) (Ca (hcell k hk2).2.1)),Ge he (hcell k hk2).2.1,(hcell k hk2).2.2⟩
    | .nil,hb=>exact hb.elim
   ·exact h.elim
  ·exact h.elim
theorem bt {R:AV->A0->Prop} {lo:Nat} {src:A0}:∀ {l m:A0} {n:Nat} {k:VC},(eK lo src hp n l m k).sat R->lo<=n+m.length\/l.length<=m.length
 | [],[],n,k,h=>.inr (Nat.le_refl _)
 | [],_::_,n,k,h=>h.elim
 | a::l,[],n,k,h=>by
   simp only [eK] at h
   split at h
   ·rename_i hl;exact .inl (by simpa using Nat.le_of_ble_eq_true hl)
   ·exact h.elim
 | a::l,b::m,n,k,h=>by
   simp only [eK] at h
   rcases bt (bv h).1 with h3|h3
   ·exact .inl (by simp;omega)
   ·exact .inr (by simp;omega)
theorem bu {R:AV->A0->Prop} {lo:Nat} {src:A0}:∀ {l m:A0} {n:Nat} {k:VC},(eK lo src hp n l m k).sat R->∀ i,(A3 m i=.dead/\(lo<=n+i\/A3 l i=.dead))\/∀ (C:Cx) (w:World) (p:Pl),HR C src w->BRel C w p (A3 l i)->BRel (C.cut lo hp) w p (A3 m i)
 | [],[],n,k,h,i=>.inl ⟨rfl,.inr rfl⟩
 | [],_::_,n,k,h,i=>h.elim
 | a::l,[],n,k,h,i=>by
   simp only [eK] at h
   split at h
   ·rename_i hl;exact .inl ⟨rfl,.inl (by have:=Nat.le_of_ble_eq_true hl;omega)⟩
   ·exact h.elim
 | a::l,b::m,n,k,h,i=>by
   simp only [eK] at h
   obtain ⟨h1,h2⟩:=bv h
   cases i with
   | zero=>exact h2
   | succ i =>
     have:=bu h1 i
     rcases this with ⟨h3,h4⟩|h3
     ·exact .inl ⟨h3,h4.imp (fun h=>by omega) id⟩
     ·exact .inr h3
theorem UA {R:AV->A0->Prop} {lo:Nat} {fr:List AV} {s:AS} (h:(ya lo fr hp s).sat R) (hH:HR C hp w) (AQ:lo<=hp.length) :
  HR (C.cut lo s.hp) s.hp w/\(∀ tm,FR [] C w fr tm->FR [] (C.cut lo s.hp) w s.fr tm)/\lo<=s.hp.length/\Tr lo C w (C.cut lo s.hp) w:=by
 unfold ya at h
 obtain ⟨h1,h2⟩:=Ez h
 have hcut:∀ i p,(C.cut lo s.hp).ρ i=some p->C.ρ i=some p/\AP lo s.hp i=false:=fun i p hp'=>by
  simp only [Cx.cut] at hp'
  split at hp'
  ·rename_i hc
   refine ⟨hp',?_⟩
   unfold AP
   rcases hc with hc|hc
   ·have:Nat.ble lo i=false:=by
     rcases hb:Nat.ble lo i with _|_
     ·rfl
     ·have:=Nat.le_of_ble_eq_true hb;omega
    rw [this];rfl
   ·rw [hc];simp
  ·cases hp'
 refine ⟨⟨fun i p hi=>?_,fun i j b c n b' c' n' h h' hne=>hH.inj _ _ _ _ _ _ _ _ (hcut _ _ h).1 (hcut _ _ h').1 hne,fun i b c n h=>⟨(hH.fresh _ _ _ _ (hcut _ _ h).1).1,fun hI=>?_⟩,fun b hb=>?_,fun b x hb=>?_⟩,
  fun tm hF=>⟨by rw [<- (h2 C w hH).1];exact hF.len,fun t=>Mf h C w hH t _ (hF.get t).1⟩,?_,?_⟩
 ·have hl:=hH.live i p (hcut _ _ hi).1
  rcases bu h1 i with ⟨h3,h4⟩|h3
  ·exfalso
   rcases h4 with h4|h4
   ·simp only [Cx.cut] at hi
    rw [if_neg] at hi
    ·cases hi
    ·rintro (h5|h5)
     ·omega
     ·unfold AB at h5;rw [h3] at h5;cases h5
   ·rw [h4] at hl;cases p<;>exact hl
  ·exact h3 C w p hH hl
 ·rcases hI with hI|⟨j,c',n',hg,hj⟩
  ·exact (hH.fresh _ _ _ _ (hcut _ _ h).1).2 hI
  ·by_cases hij:i=j
   ·subst hij;rw [(hcut _ _ h).2] at hg;cases hg
   ·exact hH.inj _ _ _ _ _ _ _ _ (hcut _ _ h).1 hj hij rfl
 ·rcases hb with hb|⟨j,c',n',hg,hj⟩
  ·exact hH.ilt b hb
  ·exact (hH.fresh _ _ _ _ hj).1
 ·obtain ⟨s1,s2,s3,s4⟩:=hH.sub b x hb
  refine ⟨s1,fun hI=>?_,fun i b' c n h=>s3 i b' c n (hcut _ _ h).1,s4⟩
  rcases hI with hI|⟨j,c',n',hg,hj⟩
  ·exact s2 hI
  ·exact s3 _ _ _ _ hj rfl
 ·rcases bt h1 with h3|h3
  ·simpa using h3
  ·omega
 ·refine ⟨rfl,rfl,rfl,Nat.le_refl _,fun _ _ _ _=>rfl,fun _ h=>.inl h,fun b hb=>?_,fun i hi=>by simp [Cx.cut,hi],fun i b c n hi h=>.inl ⟨i,c,n,hi,(hcut _ _ h).1⟩,fun b x hb=>.inl ⟨x,hb⟩⟩
  rcases hb with hb|⟨j,c',n',hg,hj⟩
  ·exact .inl hb
  ·refine .inr (.inr ⟨j,c',n',?_,hj⟩)
   unfold AP at hg
   simp only [Bool.and_eq_true] at hg
   exact Nat.le_of_ble_eq_true hg.1
end
end Abs
end Go.Proofs.YtccgngldoinokaaGreat

namespace Go.Proofs.YtccgngldoinokaaGreat
namespace Abs
open Go Go.RowKit
section
variable {P:Program} {S:Sums} {C C' C1 C2:Cx} {w w' w1 w2:World} {H hp:A0}
def SM:Obj->Bool
 | .cells _ _ _=>true
 | .map _ _=>true
 | _=>false
structure CB (w w':World):Prop where
 size:w.heap.size<=w'.heap.size
 same:∀ (k:Nat) (o:Obj),w.heap[k]? = some o->SM o=true->w'.heap[k]? = some o
theorem CB.refl (w:World):CB w w:=⟨Nat.le_refl _,fun _ _ h _=>h⟩
theorem CB.trans (h:CB w w1) (k:CB w1 w2):CB w w2:=⟨Nat.le_trans h.size k.size,fun i o hi ho=>k.same i o (h.same i o hi ho) ho⟩
theorem Quiet.cb (h:Quiet w w'):CB w w':=⟨h.size,fun k _ hk _=>(h.keep k (Array.getElem?_eq_some_iff.1 hk).1).trans hk⟩
theorem Quiet.refl (w:World):Quiet w w:=⟨rfl,rfl,rfl,Nat.le_refl _,fun _ _=>rfl⟩
theorem Quiet.trans (h:Quiet w w1) (k:Quiet w1 w2):Quiet w w2:=⟨k.os.trans h.os,k.tape.trans h.tape,k.output.trans h.output,Nat.le_trans h.size k.size,fun i hi=>(k.keep i (Nat.lt_of_lt_of_le hi h.size)).trans (h.keep i hi)⟩
theorem Quiet.alloc (w:World) (o:Obj):Quiet w (w.alloc o):=⟨rfl,rfl,rfl,by simp,fun k hk=>Below.heap_alloc w o k hk⟩
theorem CB.putObj {l:Nat} {o:Obj} (o':Obj) (hl:w.heap[l]? = some o) (ho:SM o=false):CB w (w.putObj l o') :=
 ⟨by simp,fun k ok hk hc=>by
  have hne:k≠l:=fun e=>by subst e;rw [hl] at hk;injection hk with hk;subst hk;rw [ho] at hc;cases hc
  exact (World.putObj_heap_other hne).trans hk⟩
theorem CB.cell (h:CB w w') {a:Addr} {v:Value} (hc:w.cell? a=some v):w'.cell? a=some v:=by
 obtain ⟨o,ho,hoc⟩:=cells_of_cell hc
 exact (G8 ((h.same _ o ho (by cases o<;>first|rfl|(cases hoc))).trans ho.symm)).trans hc
theorem Rel.cb (hx:CB w w') {a:AV} {v:Value} (h:Rel C w a v):Rel C w' a v:=by
 refine Rel.rec (C:=C) (w:=w) (motive_1:=fun a v _=>Rel C w' a v) (motive_2:=fun l vs _=>RelL C w' l vs)
  ?_ ?_ ?_ ?_ ?_ ?_ ?_ ?_ ?_ ?_ ?_ ?_ ?_ ?_ ?_ ?_ ?_ ?_ ?_ ?_ ?_ h
 ·exact fun v=>.top v
 ·exact fun k a v=>.gd k a v
 ·exact fun k n=>.li k n
 ·exact fun k n=>.si k n
 ·exact fun b=>.lb b
 ·exact fun b=>.sb b
 ·exact fun x=>.v x
 ·exact fun l vs _ h=>.agg l vs h
 ·exact fun l vs _ h=>.tup l vs h
 ·exact fun i off b c n h=>.own i off b c n h
 ·exact fun i sz k off b c n h hk=>.elt i sz k off b c n h hk
 ·exact fun i b c n h=>.row i b c n h
 ·exact fun i n sz b c m h=>.lsl i n sz b c m h
 ·exact fun i h=>.rown i h
 ·intro n sz el A cap vs hcap hA _ hl hn ih
  refine .slc n sz el A cap vs hcap (fun h0=>?_) ih hl hn
  obtain ⟨ad,rfl,hI,hc⟩:=hA h0
  refine ⟨ad,rfl,hI,fun k hk j hj=>?_⟩
  have h1:=hc k hk j hj
  have h2:j<(vs k).length:=by rw [hl k hk];exact hj
  rw [List.getElem?_eq_getElem h2] at h1 ⊢
  exact hx.cell h1
 ·intro l ad vs hr0 hI hc hn ih
  refine .xp l ad vs ih hI (fun j hj=>?_) hn
  have h1:=hc j hj
  have h2:j<vs.length:=by rw [<- hr0.len];exact hj
  rw [List.getElem?_eq_getElem h2] at h1 ⊢
  exact hx.cell h1
 ·exact fun f l m vs ws _ _ h h'=>.fn f l m vs ws h h'
 ·intro n sz el ad vs hI hc _ hl hn ih
  refine .pa n sz el ad vs hI (fun a e k hk j hj=>?_) ih hl hn
  have h1:=hc a e k hk j hj
  have h2:j<(vs k).length:=by rw [hl k hk];exact hj
  rw [List.getElem?_eq_getElem h2] at h1 ⊢
  exact hx.cell h1
 ·exact fun i b c n h=>.mp i b c n h
 ·exact .nil
 ·exact fun a l v vs _ _ h h'=>.cons a l v vs h h'
theorem RelL.cb (hx:CB w w'):∀ {l:List AV} {vs:List Value},RelL C w l vs->RelL C w' l vs
 | _,_,.nil=>.nil
 | _,_,.cons a l v vs h h'=>.cons a l v vs (Rel.cb hx h) (RelL.cb hx h')
theorem BRel.cb (hx:CB w w') {p:Pl} {b:Blk} (h:BRel C w p b):BRel C w' p b:=by
 match p,b,h with
 | .at q c m,.cells t l,h =>
   obtain ⟨vs,hr,hh⟩:=h
   exact ⟨vs,hr.cb hx,hx.same _ _ hh rfl⟩
 | .at q c m,.row e sz k el,h =>
   obtain ⟨h1,h2,h3,cs,vs,hh,hs,hc⟩:=h
   exact ⟨h1,h2,h3,cs,vs,hx.same _ _ hh rfl,hs,fun k hk=>⟨(hc k hk).1.cb hx,(hc k hk).2⟩⟩
 | .nil,.row _ _ _ _,h=>exact h
 | .at q c m,.tab k sz el,h =>
   obtain ⟨es,ck,vs,hh,hs,hc⟩:=h
   exact ⟨es,ck,vs,hx.same _ _ hh rfl,hs,fun k hk=>⟨(hc k hk).1.cb hx,(hc k hk).2⟩⟩
 | .at q c m,.mat t wd k f,h =>
   obtain ⟨h1,h2,h3,cs,hh,hs,hc⟩:=h
   exact ⟨h1,h2,h3,cs,hx.same _ _ hh rfl,hs,fun k hk j hj=>by
    obtain ⟨ho,v,hv,hr⟩:=hc k hk j hj
    exact ⟨ho,v,hv,hr.cb hx⟩⟩
 | .at q c m,.rows e e' sz k fz ln el ho,h =>
   obtain ⟨h1,h2,h3,cs,hh,hs,hc⟩:=h
   refine ⟨h1,h2,h3,cs,hx.same _ _ hh rfl,hs,fun k hk=>?_⟩
   obtain ⟨v,hv,hr,hn⟩:=hc k hk
   refine ⟨v,hv,fun g hg=>(hr g hg).cb hx,fun hno=>⟨fun hf=>((hn hno).1 hf).cb hx,fun hf=>?_⟩⟩
   rcases (hn hno).2 hf with h|⟨b',c',cs',vs,z1,z2,z3,z4,z5,z6,z7⟩
   ·exact .inl h
   ·exact .inr ⟨b',c',cs',vs,z1,z2,z3,z4,hx.same _ _ z5 rfl,z6,fun j hj=>⟨(z7 j hj).1.cb hx,(z7 j hj).2⟩⟩
theorem CellB.cb (hx:CB w w') {b:Nat} (h:CellB w b):CellB w' b:=by
 obtain ⟨cs,t,fz,h1⟩:=h
 exact ⟨cs,t,fz,hx.same _ _ h1 rfl⟩
theorem HR.cb (hx:CB w w') (h:HR C hp w):HR C hp w' :=
 ⟨fun i p hi=>(h.live i p hi).cb hx,h.inj,fun i b c n hi=>⟨Nat.lt_of_lt_of_le (h.fresh i b c n hi).1 hx.size,(h.fresh i b c n hi).2⟩,fun b hb=>Nat.lt_of_lt_of_le (h.ilt b hb) hx.size,fun b x hb=>⟨Nat.lt_of_lt_of_le (h.sub b x hb).1 hx.size,(h.sub b x hb).2.1,(h.sub b x hb).2.2.1,(h.sub b x hb).2.2.2.cb hx⟩⟩
theorem FR.cb (hx:CB w w') {fr:List AV} {tm:Array Value} (h:FR [] C w fr tm):FR [] C w' fr tm :=
 ⟨h.len,fun t=>⟨(h.get t).1.cb hx,fun k b e=>by obtain ⟨x,h1,_⟩:=(h.get t).2 k b e;simp at h1⟩⟩
theorem HR.others (h:HR C hp w) {k:Nat} {o:Obj} (hk:w.heap[k]? = some o) (ho:SM o=false) {i c n:Nat}:C.ρ i≠some (.at k c n):=fun hi=>by
 have hl:=h.live _ _ hi
 cases hb:A3 hp i with
 | dead=>rw [hb] at hl;exact hl
 | cells t l =>
   rw [hb] at hl
   obtain ⟨vs,_,hh⟩:=hl
   rw [hk] at hh;injection hh with hh;subst hh;cases ho
 | row e sz m el =>
   rw [hb] at hl
   obtain ⟨_,_,_,cs,vs,hh,_⟩:=hl
   rw [hk] at hh;injection hh with hh;subst hh;cases ho
 | mat t wd m f =>
   rw [hb] at hl
   obtain ⟨_,_,_,cs,hh,_⟩:=hl
   rw [hk] at hh;injection hh with hh;subst hh;cases ho
 | rows e e' sz m fz ln el hol =>
   rw [hb] at hl
   obtain ⟨_,_,_,cs,hh,_⟩:=hl
   rw [hk] at hh;injection hh with hh;subst hh;cases ho
 | tab m sz el =>
   rw [hb] at hl
   obtain ⟨es,ck,vs,hh,_⟩:=hl
   rw [hk] at hh;injection hh with hh;subst hh;cases ho
theorem HR.noSub (h:HR C hp w) {k:Nat} {o:Obj} (hk:w.heap[k]? = some o) (ho:SM o=false):C.O k=none:=by
 cases hc:C.O k with
 | none=>rfl
 | some x =>
   obtain ⟨_,_,_,cs,t,fz,h1⟩:=h.sub k x hc
   rw [hk] at h1;injection h1 with h1;subst h1;cases ho
theorem HR.immO (h:HR C hp w) {k:Nat} (hk:C.I k):C.O k=none:=by
 cases hc:C.O k with
 | none=>rfl
 | some x=>exact ((h.sub k x hc).2.1 hk).elim
theorem Tr.others {lo:Nat} (t:Tr lo C w C' w') (h:HR C hp w) {k:Nat} {o:Obj} (hk:w.heap[k]? = some o) (ho:SM o=false):w'.heap[k]? = some o :=
 (t.keep k (Array.getElem?_eq_some_iff.1 hk).1 (fun i b c n hi e=>by subst e;exact h.others hk ho hi) (h.noSub hk ho)).trans hk
theorem Tr.imms {lo:Nat} (t:Tr lo C w C' w') (h:HR C hp w) {b:Nat} (hb:C.I b):w'.heap[b]? = w.heap[b]? :=
 t.keep b (h.ilt b hb) (fun i q c n hi e=>by subst e;exact (h.fresh i _ c n hi).2 hb) (h.immO hb)
theorem Tr.later {lo:Nat} (t:Tr lo C w C1 w1) (ho:w2.os=w1.os) (ht:w2.tape=w1.tape) (hu:w2.output=w1.output) (hs:w1.heap.size<=w2.heap.size) (hk:∀ k,k<w.heap.size->w2.heap[k]? = w1.heap[k]?):Tr lo C w C1 w2 :=
 ⟨ho.trans t.os,ht.trans t.tape,hu.trans t.output,Nat.le_trans t.size hs,fun k hlt hn ho=>(hk k hlt).trans (t.keep k hlt hn ho),t.imm,t.imm',t.rho,t.own,t.sub⟩
theorem Tr.quiet {lo:Nat} (t:Tr lo C w C1 w1) (q:Quiet w1 w2):Tr lo C w C1 w2 :=
 t.later q.os q.tape q.output q.size fun k hk=>q.keep k (Nat.lt_of_lt_of_le hk t.size)
theorem Tr.putObj {lo l:Nat} (t:Tr lo C w C1 w1) (hl:w.heap.size<=l) (o:Obj):Tr lo C w C1 (w1.putObj l o) :=
 t.later rfl rfl rfl (by simp) fun _ _=>World.putObj_heap_other (by omega)
def RO (ro:Option Nat) (w:World):Prop:=∀ l,ro=some l->∃ r,w.heap[l]? = some (.loop r)
theorem RO.tr {ro:Option Nat} {lo:Nat} (h:RO ro w) (t:Tr lo C w C' w') (hH:HR C hp w):RO ro w':=fun l hl=>by
 obtain ⟨r,hr⟩:=h l hl
 exact ⟨r,t.others hH hr rfl⟩
def dz (b:Nat):Deferred:={ target:=.collected b,args:=#[] }
structure MarksOK (n:Nat) (w:World) (ms:List Nat):Prop where
 nd:ms.Nodup
 at_:∀ b∈ms,n<=b/\w.heap[b]? = some (.deferred (some []))
structure Kept (W:Nat) (a:Act) (w:World) (a':Act) (w':World):Prop where
 sz:a'.tmps.size=a.tmps.size
 tm:∀ t,Nat.testBit W t=false->a'.tmps.getD t undef=a.tmps.getD t undef
 dfs:∃ ms:List Nat,a'.defers=ms.map dz++a.defers/\MarksOK w.heap.size w' ms
theorem Kept.refl (W:Nat) (a:Act) (w:World) (w':World):Kept W a w a w':=⟨rfl,fun _ _=>rfl,[],rfl,List.nodup_nil,fun b hb=>by simp at hb⟩
theorem Kept.trans {W:Nat} {a a1 a2:Act} (h:Kept W a w a1 w1) (k:Kept W a1 w1 a2 w2) (hs:w.heap.size<=w1.heap.size) (ho:∀ (i:Nat) (o:Obj),w1.heap[i]? = some o->SM o=false->w2.heap[i]? = some o):Kept W a w a2 w2:=by
 obtain ⟨m1,e1,n1⟩:=h.dfs
 obtain ⟨m2,e2,n2⟩:=k.dfs
 refine ⟨k.sz.trans h.sz,fun t ht=>(k.tm t ht).trans (h.tm t ht),m2++m1,by rw [e2,e1];simp,?_,fun b hb=>?_⟩
 ·refine List.nodup_append.2 ⟨n2.nd,n1.nd,fun x hx y hy e=>?_⟩
  subst e
  have h1:=(n2.at_ x hx).1
  have h2:=(Array.getElem?_eq_some_iff.1 (n1.at_ x hy).2).1
  omega
 ·rcases List.mem_append.1 hb with hb|hb
  ·exact ⟨Nat.le_trans hs (n2.at_ b hb).1,(n2.at_ b hb).2⟩
  ·exact ⟨(n1.at_ b hb).1,ho _ _ (n1.at_ b hb).2 rfl⟩
theorem Kept.sub {W W':Nat} {a a':Act} (h:Kept W a w a' w') (hs:∀ t,Nat.testBit W' t=false->Nat.testBit W t=false):Kept W' a w a' w':=⟨h.sz,fun t ht=>h.tm t (hs t ht),h.dfs⟩
theorem Ij {a b t:Nat} (h:Nat.testBit (Nat.lor a b) t=false):Nat.testBit a t=false/\Nat.testBit b t=false:=by
 have:Nat.testBit (a ||| b) t=false:=h
 rw [Nat.testBit_or] at this
 simpa using this
theorem bB (d:Nat):Nat.testBit (Nat.shiftLeft 1 d) d=true:=by
 show Nat.testBit (1 <<< d) d=true
 simp [Nat.testBit_shiftLeft]
theorem sc {a b t:Nat} (h:Nat.testBit a t=true):Nat.testBit (Nat.lor a b) t=true:=by
 show Nat.testBit (a ||| b) t=true
 rw [Nat.testBit_or,h];rfl
theorem sa {a b t:Nat} (h:Nat.testBit b t=true):Nat.testBit (Nat.lor a b) t=true:=by
 show Nat.testBit (a ||| b) t=true
 rw [Nat.testBit_or,h,Bool.or_true]
theorem WG {o:Oper} {d:Nat} (hd:o.dst=some d):∀ {ops:List Oper},o∈ops->Nat.testBit (Am ops) d=true:=by
 intro ops
 induction ops with
 | nil=>intro h;cases h
 | cons x l ih =>
   intro hm
   have e:Am (x::l)=(match x.dst with|some d=>Nat.lor (Nat.shiftLeft 1 d) (Am l)|none=>Am l):=rfl
   rw [e]
   rcases List.mem_cons.1 hm with rfl|hm
   ·rw [hd];exact sc (bB d)
   ·cases hx:x.dst with
    | none=>exact ih hm
    | some d'=>exact sa (ih hm)
theorem jO {d:Nat}:∀ {ps:List Nat},d∈ps->Nat.testBit (Kj ps) d=true:=by
 intro ps
 induction ps with
 | nil=>intro h;cases h
 | cons x l ih =>
   intro hm
   have e:Kj (x::l)=Nat.lor (Nat.shiftLeft 1 x) (Kj l):=rfl
   rw [e]
   rcases List.mem_cons.1 hm with rfl|hm
   ·exact sc (bB d)
   ·exact sa (ih hm)
def RegKept (W:Nat) (a:Act) (a':Act):Prop:=a'.tmps.size=a.tmps.size/\(∀ t,Nat.testBit W t=false->a'.tmps.getD t undef=a.tmps.getD t undef)/\a'.defers=a.defers
theorem EV (ops:List Oper) (a:Act):Ep ops (RegKept (Am ops) a):=fun o ho a' v ⟨h0,h1,h2⟩=>by
 refine ⟨?_,fun t ht=>?_,by rw [put_defers,h2]⟩
 ·cases o.dst<;>simpa [Act.put] using h0
 ·rw [Dn,if_neg]
  ·exact h1 t ht
  ·rintro ⟨hd,_⟩
   rw [WG hd ho] at ht;cases ht
theorem RegKept.kept {W:Nat} {a a':Act} (h:RegKept W a a') (w w':World):Kept W a w a' w':=⟨h.1,h.2.1,[],by simpa using h.2.2,List.nodup_nil,fun b hb=>by simp at hb⟩
theorem TF (m:Nat):∀ (l:List AV) (n:Nat) (k:List AV->VC),∃ l',topM m l n k=k l'/\l'.length=l.length/\∀ t,A4 l' t=(if Nat.testBit m (n+t)=true/\t<l.length then .top else A4 l t)
 | [],n,k=>⟨[],rfl,rfl,fun t=>by simp⟩
 | a::l,n,k=>by
   unfold topM
   split
   ·rename_i hb
    obtain ⟨l',h1,h2,h3⟩:=TF m l (n+1) fun l'=>k (.top::l')
    refine ⟨.top::l',h1,by simp [h2],fun t=>?_⟩
    cases t with
    | zero=>simp [hb,Ej]
    | succ t=>rw [CO,h3 t,CO,show n+1+t=n+(t+1) by omega];simp
   ·rename_i hb
    obtain ⟨l',h1,h2,h3⟩:=TF m l (n+1) fun l'=>k (a::l')
    refine ⟨a::l',h1,by simp [h2],fun t=>?_⟩
    cases t with
    | zero=>simp [hb,Ej]
    | succ t=>rw [CO,h3 t,CO,show n+1+t=n+(t+1) by omega];simp
theorem Qo {R:AV->A0->Prop}:∀ {ps:List Nat} {as:List AV} {vs:List Value} {fr:List AV} {tm:Array Value} {k:List AV->VC},(setPs ps as fr k).sat R->RelL C w as vs->FR [] C w fr tm ->
  ps.length=vs.length/\∃ fr',(k fr').sat R/\FR [] C w fr' ((ps.zip vs).foldl (fun t (p,v)=>t.setIfInBounds p v) tm)
 | [],[],vs,fr,tm,k,h,hr,hF=>by cases hr;exact ⟨rfl,fr,h,hF⟩
 | p::ps,a::as,vs,fr,tm,k,h,hr,hF=>by
   cases hr with
   | cons _ _ v vs h1 h2 =>
     simp only [setPs,AT,Aq] at h
     have hF':FR [] C w (Ay fr p (DN a)) (tm.setIfInBounds p v):=FR.put (act:=⟨tm,[]⟩) hF (.plain (Du h1) (BQ _)) (some p)
     obtain ⟨h3,fr',h4,h5⟩:=Qo h h2 hF'
     exact ⟨by simp [h3],fr',h4,h5⟩
 | [],_::_,_,_,_,_,h,_,_=>h.elim
 | _::_,[],_,_,_,_,h,_,_=>h.elim
theorem X5:∀ (l:List (Nat × Value)) (tm:Array Value) (t:Nat),t ∉ l.map Prod.fst->(l.foldl (fun t (p,v)=>t.setIfInBounds p v) tm).getD t undef=tm.getD t undef
 | [],_,_,_=>rfl
 | (p,v)::l,tm,t,h=>by
   simp only [List.map_cons,List.mem_cons,not_or] at h
   rw [List.foldl_cons,X5 l _ t h.2]
   simp only [Array.getD_eq_getD_getElem?,Array.getElem?_setIfInBounds]
   rw [if_neg (fun e=>h.1 e.symm)]
theorem SY:∀ (l:List (Nat × Value)) (tm:Array Value),(l.foldl (fun t (p,v)=>t.setIfInBounds p v) tm).size=tm.size
 | [],_=>rfl
 | (p,v)::l,tm=>by rw [List.foldl_cons,SY l];simp
end
end Abs
end Go.Proofs.YtccgngldoinokaaGreat

namespace Go.Proofs.YtccgngldoinokaaGreat
namespace Abs
open Go Go.RowKit
theorem fR {op:Op} {s:Nat} (h:ZA op=some s):op=.move (.tmp s):=by
 unfold ZA at h
 split at h
 ·injection h with h;subst h;rfl
 ·cases h
theorem lj {op:Op} {t:TypeId} {a:Nat} (h:cf op=some (t,a)):∃ yt,op=.binOp .eql t (.tmp a) (.const (.slice none 0 0)) yt:=by
 unfold cf at h
 split at h
 ·injection h with h;injection h with h1 h2;subst h1 h2;exact ⟨_,rfl⟩
 ·cases h
theorem jz {x:AV} {n:LN} (h:k5 x=some n):∃ sz el,x=.slc n sz el:=by
 unfold k5 at h
 split at h
 ·injection h with h;subst h;exact ⟨_,_,rfl⟩
 ·cases h
theorem YF {P:Program} {C:Cx} {w:World} {ro:Option Nat} {rm:Nat} {id:Nat} {ops:Array Oper} {fr:List AV} {act:Act} {Q:Exit->Act->World->Prop} {s a b:Nat} {n:LN}
  (hc:JP P ops.toList fr=some (s,a,b,n)) (hF:FR [] C w fr act.tmps)
  (hgoal:∀ bb:Bool,(bb=true->n.val=0)->∀ act':Act,RegKept (Am ops.toList) act act'->FR [] C w (Ay (Ay fr a (A4 fr s)) b (.lb bb)) act'.tmps->Q .normal act' w) :
  (Code.region id ops false).wpIn (Fa ro) rm P Q act w:=by
 have hput:=EV ops.toList act
 have hds:RegKept (Am ops.toList) act act:=⟨rfl,fun _ _=>rfl,rfl⟩
 unfold JP at hc
 split at hc
 case h_2=>cases hc
 rename_i o1 o2 hops
 split at hc
 case h_2=>cases hc
 rename_i t a' hn
 split at hc
 case h_2=>cases hc
 rename_i s' hm
 split at hc
 case h_2=>cases hc
 rename_i x y hd1 hg1 hd2 hg2
 split at hc
 case h_2=>cases hc
 rename_i m hb hs
 injection hc with hc;injection hc with e1 hc;injection hc with e2 hc;injection hc with e3 e4
 subst e1 e2 e3 e4
 simp only [Bool.and_eq_true] at hb
 obtain ⟨⟨hb1,hb2⟩,hb3⟩:=hb
 obtain rfl:=Nat.eq_of_beq_eq_true hb1
 obtain ⟨sz,el,hs⟩:=jz hs
 have hlt:x<act.tmps.size:=by rw [<- hF.len];simpa [Nat.blt_eq] using hb3
 obtain ⟨e,ht⟩:∃ e,P.underlying t=some (.slice e):=by
  unfold We at hb2
  split at hb2
  ·rename_i e h;exact ⟨e,h⟩
  ·cases hb2
 have hv:=(hF.get s').1
 rw [hs] at hv
 obtain ⟨A,cap,hval,h0⟩:∃ A cap,act.tmps.getD s' undef=.slice A m.val cap/\(A.isNone=true->m.val=0):=by
  generalize act.tmps.getD s' undef=v at hv
  cases hv with
  | slc _ _ _ A cap vs hcap hA _ _ _ =>
    refine ⟨A,cap,rfl,fun hn=>?_⟩
    rcases Nat.eq_zero_or_pos m.val with h|h
    ·exact h
    ·obtain ⟨ad,rfl,_⟩:=hA h
     cases hn
 obtain rfl:ops = #[o1,o2]:=by
  cases ops;simp only at hops;rw [hops]
 have hm1:=fR hm
 obtain ⟨yt,hm2⟩:=lj hn
 apply wpIn_region
 have hw1:∀ f,Region.wanted o1 f=true:=fun f=>by unfold Region.wanted;rw [hg1]
 have hw2:∀ f,Region.wanted o2 f=true:=fun f=>by unfold Region.wanted;rw [hg2]
 have hF1:FR [] C w (Ay fr x (A4 fr s')) (act.put (some x) (act.tmps.getD s' undef)).tmps:=hF.put (a:=A4 fr s') (.plain (hF.get s').1 (by rw [hs];trivial)) (some x)
 show wpOpsIn (Fa ro) rm P #[o1,o2] Q [0,1] act w
 simp only [wpOpsIn,List.getElem?_toArray,List.getElem?_cons_zero,List.getElem?_cons_succ,hw1,hw2,if_true]
 refine Ran.wpIn (BI (m:=pure (act.tmps.getD s' undef)) ?_ ⟨_,_,Sem.run_pure ..,?_⟩)
 ·obtain ⟨dst,op,type,pos,after,guard⟩:=o1
  simp only at hm1
  subst hm1
  rfl
 rw [hd1]
 generalize hact:act.put (some x) (act.tmps.getD s' undef)=act1 at hF1
 have hget:act1.tmps.getD x undef=.slice A m.val cap:=by
  rw [<- hact,<- hval]
  simp [Act.put,hlt]
 have hds1:RegKept (Am [o1,o2]) act act1:=by rw [<- hact,<- hd1];exact hput o1 (by simp) _ _ hds
 refine Ran.wpIn (BI (m:=do eqGuard .eql t (.tmp x) (.const (.slice none 0 0)) (act1.tmps.getD x undef) (.slice none 0 0);binOp .eql t (act1.tmps.getD x undef) (.slice none 0 0)) ?_ ⟨.bool A.isNone,w,?_,?_⟩)
 ·obtain ⟨dst,op,type,pos,after,guard⟩:=o2
  simp only at hm2
  subst hm2
  rfl
 ·rw [hget]
  have:=Lib.run_eql_slice_nil (P:=P) w t e A m.val cap 0 0 ht
  simpa [eqGuard] using this
 ·refine hgoal A.isNone h0 _ (hput o2 (by simp) _ _ hds1) ?_
  rw [hd2]
  exact hF1.put (a:=.lb A.isNone) (.plain (.lb _) trivial) (some y)
end Abs
end Go.Proofs.YtccgngldoinokaaGreat

namespace Go.Proofs.YtccgngldoinokaaGreat
namespace Abs
open Go Go.RowKit
section
variable {P:Program} {S:Sums} {C:Cx} {w:World} {hp:A0}
theorem N0 {k:IntKind} {a:AV} {l:List AV} (h:KM k (a::l)=true):AD a=some k/\KM k l=true:=by
 simp only [KM] at h
 split at h
 ·rename_i k' hk
  simp only [Bool.and_eq_true,decide_eq_true_eq] at h
  exact ⟨by rw [hk,h.1],h.2⟩
 ·cases h
theorem ZH {k:IntKind} {l:List AV} {a b:Nat} (h:KM k (l.take (a+b))=true):KM k (l.take a)=true/\KM k ((l.drop a).take b)=true:=by
 induction a generalizing l with
 | zero=>simp [KM];simpa using h
 | succ a ih =>
   cases l with
   | nil=>simp [KM]
   | cons x l =>
     rw [show a+1+b=(a+b)+1 by omega,List.take_succ_cons] at h
     obtain ⟨h1,h2⟩:=N0 h
     obtain ⟨h3,h4⟩:=ih h2
     refine ⟨?_,by simpa using h4⟩
     rw [List.take_succ_cons]
     simp only [KM,h1]
     simp [h3]
theorem Q2 {k:IntKind} {n j:Nat}:∀ {e l:List AV} {xs us:List Value},KM k e=true->KM k l=true->e.length=l.length->(j<n->RelL C w e xs)->RelL C w l us->RelL C w (UM k n j e l) (if j<n then xs else us)/\(UM k n j e l).length=l.length
 | [],[],xs,us,_,_,_,h1,h2=>by
   cases h2
   refine ⟨?_,rfl⟩
   split
   ·rename_i hj
    cases h1 hj;exact .nil
   ·exact .nil
 | a::e,b::l,xs,us,hk1,hk2,hl,h1,h2=>by
   obtain ⟨ka,hk1⟩:=N0 hk1
   obtain ⟨kb,hk2⟩:=N0 hk2
   cases h2 with
   | cons _ _ u us hu hus =>
     have hr:∀ y ys,j<n->xs=y::ys->RelL C w e ys->RelL C w (UM k n j e l) ys:=fun y ys hj _ hys=>by
      have:=(Q2 (n:=n) (j:=j) (xs:=ys) hk1 hk2 (by simpa using hl) (fun _=>hys) hus).1
      rwa [if_pos hj] at this
     refine ⟨?_,?_⟩
     ·split
      ·rename_i hj
       have h1:=h1 hj
       cases h1 with
       | cons _ _ y ys hy hys =>
         refine .cons _ _ _ _ ?_ (hr y ys hj rfl hys)
         rw [AJ hy ka]
         unfold cpI;rw [if_pos hj];exact .si _ _
      ·rename_i hj
       have:=(Q2 (n:=n) (j:=j) (xs:=[]) hk1 hk2 (by simpa using hl) (fun h=>absurd h hj) hus).1
       rw [if_neg hj] at this
       refine .cons _ _ _ _ ?_ this
       rw [AJ hu kb]
       unfold cpI;rw [if_neg hj];exact .si _ _
     ·have hl':e.length=l.length:=by simpa using hl
      clear hr
      have key:∀ (e l:List AV),e.length=l.length->(UM k n j e l).length=l.length:=by
       intro e
       induction e with
       | nil=>intro l h;cases l<;>simp [UM] at h ⊢
       | cons a e ih=>intro l h;cases l with
         | nil=>simp at h
         | cons b l=>simp [UM,ih l (by simpa using h)]
      simp [UM,key e l hl']
 | [],_::_,_,_,_,_,hl,_,_=>by simp at hl
 | _::_,[],_,_,_,_,hl,_,_=>by simp at hl
def Q1 (n sz:Nat) (vs:Nat->List Value):Nat->Nat->List Value->List Value
 | 0,_,_=>[]
 | m+1,j,us=>(if j<n then vs j else us.take sz)++Q1 n sz vs m (j+1) (us.drop sz)
theorem XH {k:IntKind} {n sz:Nat} {el:Nat->List AV} {vs:Nat->List Value} (hr:∀ j,j<n->RelL C w (el j) (vs j)):∀ (m j:Nat) (l:List AV) (us:List Value),qj k sz el m j=true->m*sz<=l.length->KM k (l.take (m*sz))=true->RelL C w l us ->
  RelL C w (XI k n sz el m j l) (Q1 n sz vs m j us)/\(XI k n sz el m j l).length=m*sz
 | 0,j,l,us,_,_,_,_=>⟨.nil,by simp [XI]⟩
 | m+1,j,l,us,hc,hl,hk,h=>by
   simp only [qj,Bool.and_eq_true] at hc
   obtain ⟨⟨hc1,hc2⟩,hc3⟩:=hc
   have hc2:=Nat.eq_of_beq_eq_true hc2
   rw [Nat.add_mul,Nat.one_mul] at hl hk
   rw [show m*sz+sz=sz+m*sz by omega] at hk
   obtain ⟨k1,k2⟩:=ZH hk
   have hlt:(l.take sz).length=sz:=by rw [List.length_take];omega
   obtain ⟨h1,h2⟩:=Q2 (n:=n) (j:=j) (xs:=vs j) hc1 k1 (by rw [hlt,hc2]) (hr j) (h.take sz)
   obtain ⟨h3,h4⟩:=XH hr m (j+1) (l.drop sz) (us.drop sz) hc3 (by rw [List.length_drop];omega) k2 (h.drop sz)
   unfold XI Q1
   rw [F2,CS,Aa]
   exact ⟨h1.append h3,by rw [List.length_append,h2,h4,hlt,Nat.add_mul];omega⟩
theorem UL {n sz:Nat} {vs:Nat->List Value} (hl:∀ j,j<n->(vs j).length=sz):∀ (m j:Nat) (us:List Value),us.length=m*sz ->
  Q1 n sz vs m j us=((List.range' j (min m (n-j))).flatMap vs)++us.drop (min m (n-j)*sz)
 | 0,j,us,h=>by
   have:us=[]:=List.eq_nil_of_length_eq_zero (by simpa using h)
   subst this
   simp [Q1]
 | m+1,j,us,h=>by
   unfold Q1
   by_cases hj:j<n
   ·rw [if_pos hj,UL hl m (j+1) (us.drop sz) (by rw [List.length_drop,h,Nat.add_mul];omega)]
    rw [show min (m+1) (n-j)=min m (n-(j+1))+1 by omega,List.range'_succ,List.flatMap_cons,List.drop_drop,List.append_assoc]
    congr 3
    rw [Nat.add_mul];omega
   ·rw [if_neg hj,UL hl m (j+1) (us.drop sz) (by rw [List.length_drop,h,Nat.add_mul];omega)]
    rw [show min (m+1) (n-j)=0 by omega,show min m (n-(j+1))=0 by omega]
    simp
theorem fF {n sz:Nat} {vs:Nat->List Value} (hl:∀ j,j<n->(vs j).length=sz) (m j:Nat) (us:List Value) (h:m*sz<=us.length) :
  Q1 n sz vs m j us=((List.range' j (min m (n-j))).flatMap vs)++(us.take (m*sz)).drop (min m (n-j)*sz):=by
 have:Q1 n sz vs m j us=Q1 n sz vs m j (us.take (m*sz)):=by
  clear hl
  induction m generalizing j us with
  | zero=>rfl
  | succ m ih =>
    unfold Q1
    rw [Nat.add_mul,Nat.one_mul] at h ⊢
    rw [List.take_take,show min sz (m*sz+sz)=sz by omega]
    congr 1
    rw [ih (j+1) (us.drop sz) (by rw [List.length_drop];omega),List.drop_take,show m*sz+sz-sz=m*sz by omega]
 rw [this]
 exact UL hl m j _ (by rw [List.length_take];omega)
theorem dU {dT sT ty elem:TypeId} {b o dLen dCap sz:Nat} {src:Value} {cs:Array Value} {tb:TypeId} {sLen:Nat} {fl:List Value} (hu:P.underlying dT=some (.slice elem)) {i:TypeInfo} (hi:P.info? elem=some i) (hsz:i.size=sz)
  (hlen:∃ A cap,src=.slice A sLen cap/\(0<min sLen dLen->∃ ad,A=some ad/\∀ j v,fl[j]? = some v->w.cell? (ad.add j)=some v)) (hfl:fl.length=min sLen dLen*sz)
  (hh:w.heap[b]? = some (.cells cs tb (0,0))) (hfit:o+fl.length<=cs.size) (h1:∀ v∈fl,v.oneCell'=true) :
  ∃ w',(Builtin.copy_ #[dT,sT] ty #[.slice (some ⟨b,o,none⟩) dLen dCap,src]).run P w=.ok (goInt ((Nat.min sLen dLen:Nat):Int)) w'/\w'.heap[b]? = some (.cells ⟨cs.toList.take o++(fl++cs.toList.drop (o+fl.length))⟩ tb (0,0)) /\
    (∀ k,k≠b->w'.heap[k]? = w.heap[k]?)/\w'.os=w.os/\w'.tape=w.tape/\w'.output=w.output/\w'.heap.size=w.heap.size:=by
 obtain ⟨A,cap,rfl,hA⟩:=hlen
 obtain ⟨w',hst,r2,r3,r4,r5,r6,r7⟩:=Gv (P:=P) (b:=b) (t:=tb) fl w cs o 0 hh (by simpa using hfit) h1
 refine ⟨w',?_,by simpa using r2,r3,r4,r5,r6,r7⟩
 have hmin:Nat.min sLen dLen=min sLen dLen:=rfl
 have hfc:(Builtin.firstCells i.size (Nat.min sLen dLen) (.slice A sLen cap)).run P w=.ok fl.toArray w:=by
  rw [hmin]
  rcases Nat.eq_zero_or_pos (min sLen dLen) with h0|h0
  ·have hnil:fl=[]:=List.eq_nil_of_length_eq_zero (by rw [hfl,h0];simp)
   subst hnil
   rw [h0]
   cases A with
   | none=>simp [Builtin.firstCells]
   | some a =>
     have:=run_loadCells_list (P:=P) w a [] (by simp)
     simpa [Builtin.firstCells] using this
  ·obtain ⟨ad,rfl,hc⟩:=hA h0
   have:=run_loadCells_list (P:=P) w ad fl hc
   rw [hfl] at this
   simpa [Builtin.firstCells,hsz] using this
 simp [Builtin.copy_,run_underlying hu,Builtin.lenOf,sizeOf,typeInfo,hi,hfc,hst]
theorem fG {ops:List Oper} {t1:TypeId} {x:Operand} {f:Nat} {t2 T:TypeId} {s d1 d2 d3 d4:Nat} (h:lI ops=some (t1,x,f,t2,T,s,d1,d2,d3,d4)) :
  ∃ o1 o2 o3 o4 c T',ops=[o1,o2,o3,o4]/\o1.op=.fieldAddr t1 x f/\o2.op=.slice t2 (.tmp d1) none none none/\o3.op=.move (.tmp s)/\o4.op=.call c/\c.callee=.builtin .copy/\c.args.toList=[.tmp d2,.tmp d3]/\c.argTypes.toList=[T,T'] /\
    o1.dst=some d1/\o2.dst=some d2/\o3.dst=some d3/\o4.dst=some d4/\o1.guard=none/\o2.guard=none/\o3.guard=none/\o4.guard=none/\d2≠d3/\s≠d1/\s≠d2:=by
 unfold lI at h
 split at h
 case h_2=>cases h
 rename_i o1 o2 o3 o4
 split at h
 case h_2=>cases h
 rename_i t1 x f t2 a s c h1 h2 h3 h4
 split at h
 case h_2=>cases h
 rename_i b e T T' h5 h6 h7
 split at h
 case h_2=>cases h
 rename_i d1 d2 d3 d4 e1 e2 e3 e4
 split at h
 case h_2=>cases h
 rename_i g1 g2 g3 g4
 split at h
 case h_2=>cases h
 rename_i hb
 injection h with h
 simp only [Prod.mk.injEq] at h
 obtain ⟨rfl,rfl,rfl,rfl,rfl,rfl,rfl,rfl,rfl,rfl⟩:=h
 simp only [Bool.and_eq_true,Bool.not_eq_true'] at hb
 obtain ⟨⟨⟨⟨⟨b1,b2⟩,b3⟩,b4⟩,b5⟩,b6⟩:=hb
 obtain rfl:=Nat.eq_of_beq_eq_true b1
 obtain rfl:=Nat.eq_of_beq_eq_true b2
 obtain rfl:=Nat.eq_of_beq_eq_true b3
 have ne:∀ {a b:Nat},Nat.beq a b=false->a≠b:=fun {a b} h e=>by subst e;simp at h
 exact ⟨o1,o2,o3,o4,c,T',rfl,h1,h2,h3,h4,h5,h6,h7,e1,e2,e3,e4,g1,g2,g3,g4,ne b4,ne b5,ne b6⟩
theorem YG {ro:Option Nat} {rm lo:Nat} {id:Nat} {ops:Array Oper} {fr:List AV} {act:Act} {Q:Exit->Act->World->Prop} {z:Cpy}
  (hc:Yy P ops.toList fr hp=some z) (hH:HR C hp w) (hF:FR [] C w fr act.tmps)
  (hgoal:∀ (act':Act) (w':World),RegKept (Am ops.toList) act act'->HR C (XJ z hp) w'->FR [] C w' (Ay (Ay (Ay (Ay fr z.d1 (.own z.i z.off)) z.d2 .top) z.d3 (A4 fr z.s)) z.d4 .top) act'.tmps->Tr lo C w C w'->Q .normal act' w') :
  (Code.region id ops false).wpIn (Fa ro) rm P Q act w:=by
 have hput:=EV ops.toList act
 have hds:RegKept (Am ops.toList) act act:=⟨rfl,fun _ _=>rfl,rfl⟩
 unfold Yy at hc
 split at hc
 case h_1=>cases hc
 rename_i t1 x f t2 T s d1 d2 d3 d4 hO
 obtain ⟨o1,o2,o3,o4,c,T',hops,p1,p2,p3,p4,p5,p6,p7,e1,e2,e3,e4,g1,g2,g3,g4,n1,n2,n3⟩:=fG hO
 split at hc
 case h_2=>cases hc
 rename_i i off N e e' n sz el hfa hu2 huT hsrc
 split at hc
 case h_2=>cases hc
 rename_i t l hb
 split at hc
 case h_2=>cases hc
 rename_i k hk
 split at hc
 case h_2=>cases hc
 rename_i hall
 injection hc with hc
 subst hc
 simp only [Bool.and_eq_true,decide_eq_true_eq] at hall
 obtain ⟨⟨⟨⟨⟨⟨⟨⟨rfl,b2⟩,b3⟩,b4⟩,b5⟩,b6⟩,b7⟩,b8⟩,b9⟩:=hall
 obtain rfl:=Nat.eq_of_beq_eq_true b2
 have b3:0<A9 P e:=by simpa [Nat.blt_eq] using b3
 have b4:=Nat.le_of_ble_eq_true b4
 have b7:d1<act.tmps.size:=by rw [<- hF.len];simpa [Nat.blt_eq] using b7
 have b8:d2<act.tmps.size:=by rw [<- hF.len];simpa [Nat.blt_eq] using b8
 have b9:d3<act.tmps.size:=by rw [<- hF.len];simpa [Nat.blt_eq] using b9
 obtain ⟨ie,hie⟩:∃ ie,P.info? e=some ie:=by
  cases hz:A9 P e with
  | zero=>omega
  | succ n=>exact B0 hz
 have hisz:ie.size=A9 P e:=by simp [A9,hie]
 obtain rfl:ops = #[o1,o2,o3,o4]:=by cases ops;simp only at hops;rw [hops]
 apply wpIn_region
 have hw1:∀ f,Region.wanted o1 f=true:=fun f=>by unfold Region.wanted;rw [g1]
 have hw2:∀ f,Region.wanted o2 f=true:=fun f=>by unfold Region.wanted;rw [g2]
 have hw3:∀ f,Region.wanted o3 f=true:=fun f=>by unfold Region.wanted;rw [g3]
 have hw4:∀ f,Region.wanted o4 f=true:=fun f=>by unfold Region.wanted;rw [g4]
 show wpOpsIn (Fa ro) rm P #[o1,o2,o3,o4] Q [0,1,2,3] act w
 simp only [wpOpsIn,List.getElem?_toArray,List.getElem?_cons_zero,List.getElem?_cons_succ,hw1,hw2,hw3,hw4,if_true]
 have hx:Rel C w (ev fr x) (act.eval x):=(EL x fun t _=>hF.get t).1
 obtain ⟨_,v1,hr1,hv1⟩:=L8 (P:=P) (S:=⟨[],[],0,[],[],[]⟩) (hp:=hp) (t:=t1) (f:=f) hx _ [] (by rw [hfa];exact .val _)
 cases hv1 with
 | own _ _ b cp q hρ =>
 have hl:=hH.live _ _ hρ
 rw [hb] at hl
 obtain ⟨us,hus,hh⟩:=hl
 have hilt:i<hp.length:=by
  rcases Nat.lt_or_ge i hp.length with h|h
  ·exact h
  ·rw [Gj h] at hb;cases hb
 refine Ran.wpIn (BI (m:=Instr.fieldAt t1 (act.eval x) f) ?_ ⟨_,_,hr1,?_⟩)
 ·obtain ⟨dst,op,type,pos,after,guard⟩:=o1
  simp only at p1
  subst p1
  rfl
 rw [e1]
 have hF1:FR [] C w (Ay fr d1 (.own i off)) (act.put (some d1) (.pointer (some ⟨b,off,none⟩))).tmps:=hF.put (a:=.own i off) (.plain (.own _ _ _ _ _ hρ) trivial) (some d1)
 have k1:RegKept (Am [o1,o2,o3,o4]) act (act.put (some d1) (.pointer (some ⟨b,off,none⟩))):=by rw [<- e1];exact hput o1 (by simp) _ _ hds
 have hs1:(act.put (some d1) (.pointer (some ⟨b,off,none⟩))).tmps.getD s undef=act.tmps.getD s undef:=by rw [Dn,if_neg (fun h=>n2 (by have:=h.1;simp at this;exact this.symm))]
 have hd1:(act.put (some d1) (.pointer (some ⟨b,off,none⟩))).tmps.getD d1 undef=.pointer (some ⟨b,off,none⟩):=by rw [Dn,if_pos ⟨rfl,b7⟩]
 have z1:(act.put (some d1) (.pointer (some ⟨b,off,none⟩))).tmps.size=act.tmps.size:=k1.1
 generalize act.put (some d1) (.pointer (some ⟨b,off,none⟩))=act1 at *
 refine Ran.wpIn (BI (m:=Instr.sliceAt t2 (act1.tmps.getD d1 undef) none none none) ?_ ⟨.slice (some ⟨b,off,none⟩) N N,w,?_,?_⟩)
 ·obtain ⟨dst,op,type,pos,after,guard⟩:=o2
  simp only at p2
  subst p2
  rfl
 ·rw [hd1]
  simp [Instr.sliceAt,run_underlying hu2,Instr.sureAddr,Instr.sliceBounds,sizeOf,typeInfo,hie,Dt]
 rw [e2]
 have hF2:FR [] C w (Ay (Ay fr d1 (.own i off)) d2 .top) (act1.put (some d2) (.slice (some ⟨b,off,none⟩) N N)).tmps:=hF1.put (a:=.top) (.plain (.top _) trivial) (some d2)
 have k2:RegKept (Am [o1,o2,o3,o4]) act (act1.put (some d2) (.slice (some ⟨b,off,none⟩) N N)):=by rw [<- e2];exact hput o2 (by simp) _ _ k1
 have hs2:(act1.put (some d2) (.slice (some ⟨b,off,none⟩) N N)).tmps.getD s undef=act.tmps.getD s undef:=by rw [Dn,if_neg (fun h=>n3 (by have:=h.1;simp at this;exact this.symm)),hs1]
 have hd2:(act1.put (some d2) (.slice (some ⟨b,off,none⟩) N N)).tmps.getD d2 undef=.slice (some ⟨b,off,none⟩) N N:=by rw [Dn,if_pos ⟨rfl,by rw [z1];exact b8⟩]
 have z2:(act1.put (some d2) (.slice (some ⟨b,off,none⟩) N N)).tmps.size=act.tmps.size:=k2.1
 generalize act1.put (some d2) (.slice (some ⟨b,off,none⟩) N N)=act2 at *
 have hsv:=(hF.get s).1
 rw [hsrc] at hsv
 refine Ran.wpIn (BI (m:=pure (act2.tmps.getD s undef)) ?_ ⟨act.tmps.getD s undef,w,by rw [hs2];simp,?_⟩)
 ·obtain ⟨dst,op,type,pos,after,guard⟩:=o3
  simp only at p3
  subst p3
  rfl
 rw [e3]
 have hF3:FR [] C w (Ay (Ay (Ay fr d1 (.own i off)) d2 .top) d3 (A4 fr s)) (act2.put (some d3) (act.tmps.getD s undef)).tmps:=hF2.put (a:=A4 fr s) (.plain (hF.get s).1 (by rw [hsrc];trivial)) (some d3)
 have k3:RegKept (Am [o1,o2,o3,o4]) act (act2.put (some d3) (act.tmps.getD s undef)):=by rw [<- e3];exact hput o3 (by simp) _ _ k2
 have hd3:(act2.put (some d3) (act.tmps.getD s undef)).tmps.getD d3 undef=act.tmps.getD s undef:=by rw [Dn,if_pos ⟨rfl,by rw [z2];exact b9⟩]
 have hd2':(act2.put (some d3) (act.tmps.getD s undef)).tmps.getD d2 undef=.slice (some ⟨b,off,none⟩) N N:=by rw [Dn,if_neg (fun h=>n1 (by have:=h.1;simp at this;exact this.symm)),hd2]
 generalize act2.put (some d3) (act.tmps.getD s undef)=act3 at *
 generalize act.tmps.getD s undef=src at *
 cases hsv with
 | slc _ _ _ A cap vs hcap hA hr hlv hok =>
 have hfl:(G6 vs (min n.val N)).length=min n.val N*A9 P e:=IA fun k hk=>hlv k (by omega)
 have hlen:=hus.len
 have hdl:(us.drop off).length=us.length-off:=List.length_drop
 have htl:min n.val N*A9 P e<=N*A9 P e:=Nat.mul_le_mul_right _ (by omega)
 obtain ⟨w',hrun,q1,q2,q3,q4,q5,q6⟩:=dU (P:=P) (w:=w) (dT:=T) (sT:=T') (ty:=o4.type) (o:=off) (dLen:=N) (dCap:=N) (src:=.slice A n.val cap) (sLen:=n.val) (fl:=G6 vs (min n.val N)) huT hie hisz
  ⟨A,cap,rfl,fun h0=>by
   obtain ⟨ad,rfl,hI,hcell⟩:=hA (by omega)
   refine ⟨ad,rfl,fun j v hj=>?_⟩
   have hjl:j<min n.val N*A9 P e:=by rw [<- hfl];exact (List.getElem?_eq_some_iff.1 hj).1
   obtain ⟨k',r,hk',hr',rfl⟩:=KB b3 hjl
   rw [Jg (fun k hk=>hlv k (by omega)) hk' hr'] at hj
   rw [hcell k' (by omega) r hr',hj]⟩ hfl hh (by rw [hfl];simp;omega) (Ph fun k' hk' u hu=>Nj (hr k' (by omega)) (hok k' (by omega)) u hu)
 have hB:RelL C w (EH l off (XI k n.val (A9 P e) el N 0 (AO l off))) (us.take off++(G6 vs (min n.val N)++us.drop (off+(G6 vs (min n.val N)).length))):=by
  have hd:RelL C w (l.drop off) (us.drop off):=hus.drop off
  have b5':KM k ((l.drop off).take (N*A9 P e))=true:=by rw [CS,Aa] at b5;exact b5
  have hN:RelL C w ((l.drop off).take (N*A9 P e)) ((us.drop off).take (N*A9 P e)):=hd.take _
  obtain ⟨hR,hRl⟩:=XH hr N 0 (l.drop off) (us.drop off) b6 (by rw [List.length_drop];omega) b5' hd
  rw [Fm,Aa,hRl]
  have hU:Q1 n.val (A9 P e) vs N 0 (us.drop off)++us.drop (off+N*A9 P e)=G6 vs (min n.val N)++us.drop (off+(G6 vs (min n.val N)).length):=by
   have key:=fF hlv N 0 (us.drop off) (by rw [List.length_drop];omega)
   rw [key,hfl,Nat.sub_zero,Nat.min_comm N n.val,List.append_assoc]
   congr 1
   ·unfold G6;rw [List.range_eq_range']
   ·have e1:∀ q,us.drop (off+q)=(us.drop off).drop q:=fun q=>by rw [List.drop_drop]
    rw [e1,e1]
    clear e1
    generalize us.drop off=xs at *
    have hx:min n.val N*A9 P e<=N*A9 P e:=htl
    generalize min n.val N*A9 P e=a at *
    generalize N*A9 P e=b at *
    rw [show List.drop b xs=List.drop (b-a) (List.drop a xs) by rw [List.drop_drop];congr 1;omega]
    rw [List.drop_take]
    exact List.take_append_drop _ _
  rw [<- hU]
  exact (hus.take off).append (hR.append (hus.drop _))
 obtain ⟨h1,h2,h3⟩:=hH.upd (w':=w') (B:=.cells t (EH l off (XI k n.val (A9 P e) el N 0 (AO l off)))) hρ q2 q6 q3 q4 q5 (fun hx=>⟨_,hB.mono hx,q1⟩) hilt lo
 ·refine Ran.wpIn (BI (m:=Builtin.copy_ #[T,T'] o4.type #[.slice (some ⟨b,off,none⟩) N N,.slice A n.val cap]) ?_ ⟨_,_,hrun,?_⟩)
  ·obtain ⟨dst,op,type,pos,after,guard⟩:=o4
   simp only at p4
   subst p4
   obtain ⟨callee,args,tys⟩:=c
   simp only at p5 p6 p7
   subst p5
   have ea:args = #[.tmp d2,.tmp d3]:=by cases args;simp only at p6;rw [p6]
   have et:tys = #[T,T']:=by cases tys;simp only at p7;rw [p7]
   subst ea et
   have ev2:act3.eval (.tmp d2)=.slice (some ⟨b,off,none⟩) N N:=hd2'
   have ev3:act3.eval (.tmp d3)=.slice A n.val cap:=hd3
   simp [execOp,resolve,invoke,builtin,ev2,ev3]
  ·rw [e4]
   refine hgoal _ w' ?_ h1 ?_ h3
   ·rw [<- e4];exact hput o4 (by simp) _ _ k3
   ·have hF3':=hF3.mono h2
    exact hF3'.put (a:=.top) (.plain (.top _) trivial) (some d4)
end
end Abs
end Go.Proofs.YtccgngldoinokaaGreat

namespace Go.Proofs.YtccgngldoinokaaGreat
namespace Abs
open Go Go.RowKit
section
variable {P:Program} {S:Sums} {C C':Cx} {w w':World} {H hp:A0}
def tE (C:Cx) (hp:A0) (b:Nat):Prop:=∃ i c n t l,C.ρ i=some (.at b c n)/\A3 hp i=.cells t l/\LZ l=true
theorem kq:∀ (d:Nat) (hp:A0) (a:AV),ownIn (Yu d hp a)=false:=by
 intro d
 cases d with
 | zero=>intro hp a;rfl
 | succ d =>
   intro hp a
   unfold Yu
   split
   ·split
    ·split<;>rfl
    ·rfl
   ·split
    ·rfl
    ·rename_i h;exact h
theorem Sf (d:Nat) (hp:A0):∀ l:List AV,ownIn.ownInL (l.map (Yu d hp))=false
 | []=>rfl
 | a::l=>by simp [ownIn.ownInL,kq d hp a,Sf d hp l]
theorem bE {f:AV->AV} (hf:∀ a v,Rel C w a v->Rel C' w' (f a) v):∀ {l:List AV} {vs:List Value},RelL C w l vs->RelL C' w' (l.map f) vs
 | _,_,.nil=>.nil
 | _,_,.cons a l v vs h h'=>.cons _ _ _ _ (hf _ _ h) (bE hf h')
theorem kp (hH:HR C hp w):∀ (d:Nat) (a:AV) (v:Value),Rel C w a v->Rel ⟨fun _=>none,fun b=>C.I b\/tE C hp b,fun _=>none⟩ w (Yu d hp a) v:=by
 intro d
 induction d with
 | zero=>intro a v _;exact .top _
 | succ d ih =>
   intro a v h
   unfold Yu
   split
   ·rename_i i off
    split
    ·rename_i t l hb
     split
     ·rename_i hn
      cases h with
      | own _ _ b c n hρ =>
        have hl:=hH.live _ _ hρ
        rw [hb] at hl
        obtain ⟨vs,hr,hh⟩:=hl
        rw [Aa]
        refine .xp _ _ (vs.drop off) (bE (fun a v=>ih a v) (hr.drop off)) (fun _=>.inr ⟨i,c,n,t,l,hρ,hb,hn⟩) (fun j _=>?_) (Sf d hp _)
        rw [G9 hh]
        simp [List.getElem?_drop]
     ·exact .top _
    ·exact .top _
   ·split
    ·exact .top _
    ·rename_i ho
     exact Rel.change (C':=⟨fun _=>none,fun b=>C.I b\/tE C hp b,fun _=>none⟩) (fun b hb=>Or.inl hb) h ho
theorem Si (hH:HR C hp w):∀ {l:List AV} {vs:List Value},RelL C w l vs->RelL ⟨fun _=>none,fun b=>C.I b\/tE C hp b,fun _=>none⟩ w (NN hp l) vs
 | _,_,.nil=>.nil
 | _,_,.cons a l v vs h h'=>.cons _ _ _ _ (kp hH 5 _ _ h) (Si hH h')
theorem YQ {a:AV} {v:Value} (h:Rel C w a v) (hn:Tt a=true):∀ k n,v≠.int k n:=by
 intro k n
 cases h<;>first|(simp [Tt] at hn;done)|(intro e;cases e;done)|skip
 intro e
 subst e
 simp [Tt] at hn
theorem NI:∀ {l:List AV} {vs:List Value},RelL C w l vs->LZ l=true->∀ v∈vs,∀ k n,v≠.int k n
 | _,_,.nil,_,v,hv=>by simp at hv
 | _,_,.cons a l u vs h h',hn,v,hv=>by
   simp only [LZ,Bool.and_eq_true] at hn
   rcases List.mem_cons.1 hv with rfl|hv
   ·exact YQ h hn.1
   ·exact NI h' hn.2 v hv
theorem c_ {a:AV} {v:Value} (h:Rel C w a v) (hk:AD a≠none):(∃ k n,v=.int k n)/\Rel C' w' a v:=by
 cases a<;>simp [AD] at hk
 ·cases h;exact ⟨⟨_,_,rfl⟩,.li _ _⟩
 ·cases h;exact ⟨⟨_,_,rfl⟩,.si _ _⟩
theorem Wf:∀ {l:List AV} {vs:List Value},RelL C w l vs->(∀ a∈l,AD a≠none)->RelL C' w' l vs
 | _,_,.nil,_=>.nil
 | _,_,.cons a l v vs h h',hk=>.cons _ _ _ _ (c_ h (hk a (by simp))).2 (Wf h' fun b hb=>hk b (by simp [hb]))
theorem Yf {D:Nat->Prop} (hD:∀ b,D b->∃ vs t,w.heap[b]? = some (.cells ⟨vs⟩ t (0,0))/\∀ v∈vs,∀ k n,v≠.int k n) {I1:Nat->Prop} {a:AV} {v:Value} (hi:Ud a)
  (h:Rel ⟨fun _=>none,I1,fun _=>none⟩ w a v):Rel ⟨fun _=>none,fun b=>I1 b/\¬ D b,fun _=>none⟩ w a v:=by
 cases a<;>unfold Ud at hi<;>first|exact hi.elim|skip
 ·cases h;exact .li _ _
 ·cases h;exact .si _ _
 ·cases h;exact .lb _
 ·cases h;exact .sb _
 ·rename_i n sz el
  obtain ⟨hsz,hk⟩:=hi
  cases h with
  | slc _ _ _ A cap vs hcap hA hr hl hn =>
    refine .slc n sz el A cap vs hcap (fun h0=>?_) (fun k hk'=>Wf (hr k hk') (hk k hk')) hl hn
    obtain ⟨ad,rfl,hI,hc⟩:=hA h0
    refine ⟨ad,rfl,⟨hI,fun hd=>?_⟩,hc⟩
    obtain ⟨us,t,hh,hu⟩:=hD _ hd
    have h1:=hc 0 h0 0 hsz
    have hlen:=hl 0 h0
    have hrel:=hr 0 h0
    obtain ⟨v0,hv0⟩:∃ v0,(vs 0)[0]? = some v0:=⟨_,List.getElem?_eq_getElem (by omega)⟩
    rw [hv0] at h1
    have hmem:v0∈us:=by
     unfold World.cell? at h1
     rw [BH,hh] at h1
     simp only at h1
     split at h1
     ·cases h1
     ·simp only [List.getElem?_toArray] at h1
      exact List.mem_of_getElem? h1
    have hl2:=hrel.len
    obtain ⟨a0,ha0⟩:∃ a0,(el 0)[0]? = some a0:=⟨_,List.getElem?_eq_getElem (by omega)⟩
    obtain ⟨v1,hv1,hr1⟩:=hrel.get ha0
    rw [hv0] at hv1
    injection hv1 with hv1;subst hv1
    obtain ⟨⟨k,m,rfl⟩,_⟩:=c_ (C':=⟨fun _=>none,I1,fun _=>none⟩) (w':=w) hr1 (hk 0 h0 a0 (List.mem_of_getElem? ha0))
    exact hu _ hmem k m rfl
theorem Wc {D:Nat->Prop} (hD:∀ b,D b->∃ vs t,w.heap[b]? = some (.cells ⟨vs⟩ t (0,0))/\∀ v∈vs,∀ k n,v≠.int k n) {I1:Nat->Prop} {l:List AV}:∀ {vs:List Value},MH l ->
  RelL ⟨fun _=>none,I1,fun _=>none⟩ w l vs->RelL ⟨fun _=>none,fun b=>I1 b/\¬ D b,fun _=>none⟩ w l vs:=by
 induction l with
 | nil=>intro vs _ h;cases h;exact .nil
 | cons a l ih =>
   intro vs hi h
   cases h with
   | cons _ _ v vs h h'=>exact .cons _ _ _ _ (Yf hD (hi a (by simp)) h) (ih (fun b hb=>hi b (by simp [hb])) h')
theorem qT (hH:HR C hp w):∀ b,tE C hp b->∃ vs t,w.heap[b]? = some (.cells ⟨vs⟩ t (0,0))/\∀ v∈vs,∀ k n,v≠.int k n:=by
 rintro b ⟨i,c,n,t,l,hρ,hb,hn⟩
 have hl:=hH.live _ _ hρ
 rw [hb] at hl
 obtain ⟨vs,hr,hh⟩:=hl
 exact ⟨vs,t,hh,NI hr hn⟩
theorem eT {R:AV->A0->Prop} {d gf:Nat} {caps:List AV} {k:IN->List AV->Option (Nat × Nat × List AV)->VC} (h:(PW S d gf hp caps k).sat R) :
  (∃ it,AL S.its gf=some it/\ownIn.ownInL caps=false/\gf<1048576/\(k it caps none).sat R)\/∃ it,AL S.its (Ye gf)=some it/\(k it (NN hp caps) (some (d,gf,NN hp caps))).sat R:=by
 unfold PW at h
 split at h
 ·rename_i it h1 h2
  split at h
  ·rename_i h3
   exact .inl ⟨it,h1,h2,by simpa [Nat.blt_eq] using h3,h⟩
  ·exact h.elim
 ·split at h
  ·rename_i it h1
   rw [AK] at h
   exact .inr ⟨it,h1,h⟩
  ·exact h.elim
theorem lV {R:AV->A0->Prop} {c:Option (Nat × Nat × List AV)} {its:List AV} {k:VC} (h:(Q7 c its k).sat R):k.sat R/\(c.isSome=true->MH its):=by
 unfold Q7 at h
 cases c with
 | none=>exact ⟨h,fun h=>by cases h⟩
 | some x=>exact ⟨h.2,fun _=>h.1⟩
end
end Abs
end Go.Proofs.YtccgngldoinokaaGreat

namespace Go.Proofs.YtccgngldoinokaaGreat
namespace Abs
open Go Go.RowKit
section
variable {P:Program} {S:Sums} {C C':Cx} {w w':World} {H hp:A0} {T T1 T':List Cnd} {all:List Oper}
variable {F:Fence} {n:Nat} {Q:Exit->Act->World->Prop} {J:World->Prop}
theorem oD {i:Nat} {oi:Oper} {a0:Act} {v:Value} (hi:all.toArray[i]? = some oi) (hf:Fix P J all.toArray oi a0 v) (hF:∀ f,F.fn f) (hsel:∀ (j:Nat) (o:Oper) cs b,all.toArray[j]? = some o->o.op≠.select cs b) (hQ:∀ c a w,¬ Q (.panic c) a w)
  (fuel:Nat) (listed:Array Bool) (a:Act) (w:World)
  (hfree:∀ j oj,all.toArray[j]? = some oj->j≠i->listed.getD j true=false->(∀ e∈oj.after,Region.binds .any e=true->e.on≠i)->oi.apart all.toArray oj=true)
  (hr:i∈Region.ready .any all.toArray listed) (hE:SameAt all.toArray oi a0 a) (hJ:J w)
  (h:CQ (fun _ w=>J w) F n P all.toArray Q fuel (listed.setIfInBounds i true) (a.put oi.dst v) w):CQ (fun _ w=>J w) F n P all.toArray Q (fuel+1) listed a w :=
 VF (I:=fun _ w=>J w) hi hf hF hsel hQ (fun _ _ h=>h) fuel listed a w hfree hr hE hJ hJ (FE (fun _ _ h=>⟨h,h⟩) _ _ _ _ h)
inductive PRun (P:Program) (J:World->Prop) (all:List Oper):List Oper->List Bool->Act->Act->Prop
 | nil (a:Act):PRun P J all [] [] a a
 | skip (o:Oper) (l:List Oper) (m:List Bool) (a a':Act) (h:PRun P J all l m a a'):PRun P J all (o::l) (false::m) a a'
 | op (o:Oper) (l:List Oper) (m:List Bool) (a a':Act) (v:Value) (hf:Fix P J all.toArray o a v) (h:PRun P J all l m (a.put o.dst v) a'):PRun P J all (o::l) (true::m) a a'
def Ti:List Bool->Nat->Array Bool->Array Bool
 | [],_,D=>D
 | true::m,k,D=>Ti m (k+1) (D.setIfInBounds k true)
 | false::m,k,D=>Ti m (k+1) D
def Mv:List Bool->Nat
 | []=>0
 | true::m=>Mv m+1
 | false::m=>Mv m
theorem MX:∀ (m:List Bool) (k:Nat) (D:Array Bool),k+m.length=D.size->(Ti m k D).size=D.size/\∀ i,Ac (Ti m k D) i↔Ac D i\/∃ j,i=k+j/\m[j]? = some true
 | [],k,D,_=>⟨rfl,fun i=>⟨.inl,fun h=>by
   rcases h with h|⟨j,_,h⟩
   ·exact h
   ·simp at h⟩⟩
 | true::m,k,D,hs=>by
   simp only [List.length_cons] at hs
   obtain ⟨h1,h2⟩:=MX m (k+1) (D.setIfInBounds k true) (by simp;omega)
   simp only [Ti]
   refine ⟨by rw [h1];simp,fun i=>?_⟩
   rw [h2,show Ac (D.setIfInBounds k true) i↔Ac D i\/i=k from by unfold Ac;rw [Ei (by omega)];simp]
   constructor
   ·rintro ((h|h)|⟨j,h3,h4⟩)
    ·exact .inl h
    ·exact .inr ⟨0,by omega,by simp⟩
    ·exact .inr ⟨j+1,by omega,by simpa using h4⟩
   ·rintro (h|⟨j,h3,h4⟩)
    ·exact .inl (.inl h)
    ·cases j with
     | zero=>exact .inl (.inr (by omega))
     | succ j=>exact .inr ⟨j,by omega,by simpa using h4⟩
 | false::m,k,D,hs=>by
   simp only [List.length_cons] at hs
   obtain ⟨h1,h2⟩:=MX m (k+1) D (by omega)
   simp only [Ti]
   refine ⟨h1,fun i=>?_⟩
   rw [h2]
   constructor
   ·rintro (h|⟨j,h3,h4⟩)
    ·exact .inl h
    ·exact .inr ⟨j+1,by omega,by simpa using h4⟩
   ·rintro (h|⟨j,h3,h4⟩)
    ·exact .inl h
    ·cases j with
     | zero=>simp at h4
     | succ j=>exact .inr ⟨j,by omega,by simpa using h4⟩
theorem Jd:∀ (l:List Bool) (i:Nat),Ao l i=l.getD i false
 | [],_=>rfl
 | _::_,0=>rfl
 | _::l,i+1=>by simp [Ao,Jd l i]
theorem M2 {fl:List Bool}:∀ {l:List Edge},Iq fl l=true->∀ e∈l,Ao fl e.on=true
 | [],_,e,he=>by cases he
 | x::l,h,e,he=>by
   simp only [Iq] at h
   split at h
   ·rename_i hx
    rcases List.mem_cons.1 he with rfl|he
    ·exact hx
    ·exact M2 h e he
   ·cases h
theorem zX {fl:List Bool} (hF:∀ f,F.fn f) (hsel:∀ (j:Nat) (o:Oper) cs b,all[j]? = some o->o.op≠.select cs b) (hQ:∀ c a w,¬ Q (.panic c) a w) (hback:GH all)
  (hap:∀ (i:Nat) (oi:Oper),all[i]? = some oi->Ao fl i=true->(∀ e∈oi.after.toList,Ao fl e.on=true)/\∀ (j:Nat) (oj:Oper),all[j]? = some oj->j≠i->¬ (Ao fl j=true/\j<i)->(∀ e∈oj.after,Region.binds .any e=true->e.on≠i)->oi.apart all.toArray oj=true) {fuel:Nat} :
  ∀ (l:List Oper) (m:List Bool) (k:Nat) (D:Array Bool) (a a':Act) (w:World),PRun P J all l m a a'->(∀ j,l[j]? = all[k+j]?)->(∀ j,m[j]? = fl[k+j]?)->D.size=all.length->(∀ i,k<=i->¬ Ac D i)->(∀ i,i<k->Ao fl i=true->Ac D i)->J w ->
    CQ (fun _ w=>J w) F n P all.toArray Q fuel (Ti m k D) a' w->CQ (fun _ w=>J w) F n P all.toArray Q (fuel+Mv m) D a w:=by
 intro l m k D a a' w hr
 induction hr generalizing k D with
 | nil a=>intro _ _ _ _ _ _ h;exact h
 | skip o l m a a' h ih =>
   intro hl hm hsz hD hD' hJ hh
   have hl':∀ j,l[j]? = all[k+1+j]?:=fun j=>by
    have:=hl (j+1)
    rw [List.getElem?_cons_succ] at this
    rw [this];congr 1;omega
   have hm':∀ j,m[j]? = fl[k+1+j]?:=fun j=>by
    have:=hm (j+1)
    rw [List.getElem?_cons_succ] at this
    rw [this];congr 1;omega
   refine ih (k+1) D hl' hm' hsz (fun i hi=>hD i (by omega)) (fun i hi hf=>?_) hJ hh
   rcases Nat.lt_or_ge i k with h'|h'
   ·exact hD' i h' hf
   ·obtain rfl:i=k:=by omega
    have:=hm 0
    simp at this
    rw [Jd,List.getD_eq_getElem?_getD,<- this] at hf
    simp at hf
 | op o l m a a' v hf h ih =>
   intro hl hm hsz hD hD' hJ hh
   have h0:all[k]? = some o:=by simpa using (hl 0).symm
   have hlt:=(List.getElem?_eq_some_iff.1 h0).1
   have hfk:Ao fl k=true:=by
    have:=hm 0
    simp at this
    rw [Jd,List.getD_eq_getElem?_getD,<- this];rfl
   have hl':∀ j,l[j]? = all[k+1+j]?:=fun j=>by
    have:=hl (j+1)
    rw [List.getElem?_cons_succ] at this
    rw [this];congr 1;omega
   have hm':∀ j,m[j]? = fl[k+1+j]?:=fun j=>by
    have:=hm (j+1)
    rw [List.getElem?_cons_succ] at this
    rw [this];congr 1;omega
   obtain ⟨g1,g2⟩:=hap k o h0 hfk
   simp only [Mv,Ti] at hh ⊢
   rw [<- Nat.add_assoc]
   have hset:∀ i,Ac (D.setIfInBounds k true) i↔Ac D i\/i=k:=fun i=>by unfold Ac;rw [Ei (by omega)];simp
   refine oD (i:=k) (oi:=o) (a0:=a) (by simpa using h0) hf hF (fun j o' cs b hj=>hsel j o' cs b (by simpa using hj)) hQ _ D a w (fun j oj hj hne hun hno=>?_) ?_ (fun t _=>rfl) hJ
    (ih (k+1) _ hl' hm' (by simp [hsz]) (fun i hi hl=>?_) (fun i hi hfi=>?_) hJ hh)
   ·have hj':all[j]? = some oj:=by simpa using hj
    refine g2 j oj hj' hne (fun hc=>?_) hno
    have h5:=hD' j hc.2 hc.1
    have hjl:=(List.getElem?_eq_some_iff.1 hj').1
    rw [CY (by omega)] at hun
    unfold Ac at h5
    rw [hun] at h5;cases h5
   ·refine mem_ready h0 ?_ fun e he hb=>?_
    ·rw [CY (by omega)]
     have:=hD k (Nat.le_refl _)
     unfold Ac at this
     simpa using this
    ·exact hD' e.on (hback k o h0 e he hb) (g1 e he)
   ·rcases (hset i).1 hl with h'|h'
    ·exact hD i (by omega) h'
    ·omega
   ·refine (hset i).2 ?_
    rcases Nat.lt_or_ge i k with h'|h'
    ·exact .inl (hD' i h' hfi)
    ·exact .inr (by omega)
end
end Abs
end Go.Proofs.YtccgngldoinokaaGreat

namespace Go.Proofs.YtccgngldoinokaaGreat
namespace Abs
open Go Go.RowKit
section
variable {P:Program} {S:Sums} {C C':Cx} {w w':World} {H hp:A0} {T T1 T':List Cnd} {all:List Oper} {F:Fence} {n:Nat} {Q:Exit->Act->World->Prop} {J:World->Prop}
theorem V8:∀ (l:List Bool) (x:Bool),Zl l x=l++[x]
 | [],_=>rfl
 | _::l,x=>by simp [Zl,V8 l]
theorem WS:∀ (l:List Oper) (fl:List Bool),(qH all l fl).length=fl.length+l.length
 | [],fl=>rfl
 | o::l,fl=>by simp only [qH];rw [WS l,V8];simp;omega
theorem pb:(Lv all).length=all.length:=by unfold Lv;rw [WS];simp
theorem Ho {fl:List Bool}:∀ (l:List Oper) (m:List Bool) (i:Nat) (o:Oper),m.length=l.length->l[i]? = some o->(FM fl l m)[i]? = some (O7 fl (Ao m i) o)
 | [],_,i,o,_,h=>by simp at h
 | _::_,[],i,o,hl,h=>by simp at hl
 | p::l,b::m,0,o,hl,h=>by simp at h;subst h;rfl
 | p::l,b::m,i+1,o,hl,h=>by
   simp only [FM,Ao,List.getElem?_cons_succ] at h ⊢
   exact Ho l m i o (by simpa using hl) h
theorem Lh {fl:List Bool}:∀ (l:List Oper) (m:List Bool),m.length=l.length->(FM fl l m).length=l.length
 | [],[],_=>rfl
 | [],_::_,h=>by simp at h
 | _::_,[],h=>by simp at h
 | p::l,b::m,h=>by simp only [FM,List.length_cons];rw [Lh l m (by simpa using h)]
def GK (all:List Oper) (fl:List Bool) (a:Act):Prop:=∀ i o g b,all[i]? = some o->Ao fl i=false->o.guard=some (g,b)->Ao fl g=true->yielded all.toArray a.tmps g=some b
theorem MU {fl:List Bool} (hlen:fl.length=all.length) {D:Array Bool} (hs:D.size=all.length) (hD:∀ i,Ao fl i=true->i<all.length->Ac D i) (i:Nat):i∈Region.ready .any all.toArray D↔i∈Region.ready .any (FM fl all fl).toArray D:=by
 have nf:∀ {i},i<all.length->D.getD i true=false->Ao fl i=false:=fun {i} hi h=>by
  cases hf:Ao fl i with
  | false=>rfl
  | true =>
    have:=hD i hf hi
    rw [CY (by omega)] at h
    unfold Ac at this
    rw [h] at this;cases this
 constructor
 ·intro h
  obtain ⟨o,ho,hn,hp⟩:=EA h
  have hlt:=(List.getElem?_eq_some_iff.1 ho).1
  have ht:=Ho (fl:=fl) all fl i o hlen ho
  rw [nf hlt hn] at ht
  exact mem_ready ht hn hp
 ·intro h
  obtain ⟨o',ho',hn,hp⟩:=EA h
  have hlt:=(List.getElem?_eq_some_iff.1 ho').1
  rw [Lh all fl hlen] at hlt
  have ho:all[i]? = some (all[i]'hlt):=List.getElem?_eq_getElem _
  have ht:=Ho (fl:=fl) all fl i _ hlen ho
  rw [nf hlt hn,ho'] at ht
  injection ht with ht
  subst ht
  exact mem_ready ho hn hp
theorem zb {fl:List Bool} (hlen:fl.length=all.length) {I:Act->World->Prop} (hIJ:∀ a w,I a w->GK all fl a/\J w):∀ (fuel:Nat) (D:Array Bool) (a:Act) (w:World),D.size=all.length->(∀ i,Ao fl i=true->i<all.length->Ac D i)->GK all fl a ->
  CQ I F n P (FM fl all fl).toArray Q fuel D a w->CQ (fun _ w=>J w) F n P all.toArray Q fuel D a w:=by
 intro fuel
 induction fuel with
 | zero =>
   intro D a w hs hD hG h
   refine ⟨?_,h.2⟩
   cases hr:Region.ready .any all.toArray D with
   | nil=>rfl
   | cons i l =>
     have:=(MU hlen hs hD i).1 (by rw [hr];simp)
     rw [h.1] at this;cases this
 | succ fuel ih =>
   intro D a w hs hD hG h
   refine ⟨fun hr=>h.1 ?_,fun i hi=>?_⟩
   ·cases hr':Region.ready .any (FM fl all fl).toArray D with
    | nil=>rfl
    | cons i l =>
      have:=(MU hlen hs hD i).2 (by rw [hr'];simp)
      rw [hr] at this;cases this
   ·have h1:=h.2 i ((MU hlen hs hD i).1 hi)
    obtain ⟨o,ho,hn,hp⟩:=EA hi
    have hlt:=(List.getElem?_eq_some_iff.1 ho).1
    have hnf:Ao fl i=false:=by
     cases hf:Ao fl i with
     | false=>rfl
     | true =>
       have:=hD i hf hlt
       rw [CY (by omega)] at hn
       unfold Ac at this
       rw [hn] at this;cases this
    have ht:=Ho (fl:=fl) all fl i o hlen ho
    rw [hnf] at ht
    have hao:all.toArray[i]? = some o:=by simpa using ho
    have hao':(FM fl all fl).toArray[i]? = some (O7 fl false o):=by simpa using ht
    have hD':∀ k,Ao fl k=true->k<all.length->Ac (D.setIfInBounds i true) k:=fun k hk hkl=>by
     have:=hD k hk hkl
     unfold Ac at this ⊢
     rw [Ei (by omega),this];rfl
    have hwt:Region.wanted (O7 fl false o) (yielded (FM fl all fl).toArray a.tmps)=Region.wanted o (yielded all.toArray a.tmps):=by
     unfold Region.wanted
     cases hgu:o.guard with
     | none=>simp only [O7,hgu,cU]
     | some gw =>
       obtain ⟨g,b⟩:=gw
       cases hgf:Ao fl g with
       | true =>
         have:=hG i o g b ho hnf hgu hgf
         simp only [O7,hgu,cU,hgf,this]
         simp
       | false =>
         have hy:yielded (FM fl all fl).toArray a.tmps g=yielded all.toArray a.tmps g:=by
          unfold yielded
          simp only [List.getElem?_toArray]
          cases hog:all[g]? with
          | none =>
            have:(FM fl all fl)[g]? = none:=by
             rw [List.getElem?_eq_none_iff] at hog ⊢
             rw [Lh all fl hlen];exact hog
            rw [this]
          | some og =>
            rw [Ho (fl:=fl) all fl g og hlen hog,hgf]
            rfl
         simp only [O7,hgu,cU,hgf,hy]
    unfold wpOpIn at h1 ⊢
    simp only [hao'] at h1
    simp only [hao]
    rw [hwt] at h1
    split
    ·rename_i hw
     rw [if_pos hw] at h1
     have h1':Oper.wpIn F n P o a w (fun a' w'=>I a' w'/\CQ I F n P (FM fl all fl).toArray Q fuel (D.setIfInBounds i true) a' w') Q:=h1
     exact Oper.wpIn_mono (fun a' w' h2=>⟨(hIJ _ _ h2.1).2,ih _ a' w' (by simp [hs]) hD' (hIJ _ _ h2.1).1 h2.2⟩) h1'
    ·rename_i hw
     rw [if_neg hw] at h1
     exact ⟨h1.1,(hIJ _ _ h1.2.1).2,ih _ _ _ (by simp [hs]) hD' (hIJ _ _ h1.2.1).1 h1.2.2⟩
theorem Yn {I:Act->World->Prop} (hbk:GH all) (hgd:∀ (i:Nat) (o:Oper) (g:Nat) (b:Bool),all[i]? = some o->o.guard=some (g,b)->PK all g=false/\g<all.length):∀ (fuel:Nat) (D D':Array Bool) (a:Act) (w:World),Ren all D D' ->
  CQ I F n P (An all).toArray Q fuel D' a w->CQ I F n P all.toArray Q fuel D a w:=by
 intro fuel
 induction fuel with
 | zero =>
   intro D D' a w r h
   refine ⟨?_,h.2⟩
   cases hr:Region.ready .any all.toArray D with
   | nil=>rfl
   | cons i l =>
     obtain ⟨o,_,_,h2⟩:=r.ready hbk (i:=i) (by rw [hr];simp)
     rw [h.1] at h2;cases h2
 | succ fuel ih =>
   intro D D' a w r h
   refine ⟨fun hr=>h.1 ?_,fun i hi=>?_⟩
   ·have hall:=Ef hbk r.s hr
    cases hr':Region.ready .any (An all).toArray D' with
    | nil=>rfl
    | cons q l =>
      exfalso
      obtain ⟨o',ho',hn',_⟩:=EA (show q∈Region.ready .any (An all).toArray D' by rw [hr'];simp)
      have hlt:=(List.getElem?_eq_some_iff.1 ho').1
      rw [hoist_len] at hlt
      rw [CY (by rw [r.s'];exact hlt)] at hn'
      have hln:Ac D' q:=by
       rcases Nat.lt_or_ge q (AG all).length with hq|hq
       ·exact r.mv' q hq
       ·obtain ⟨i,o,h1,h2,rfl⟩:=SQ hq hlt
        exact (r.ot i o h1 h2).2 (hall i (List.getElem?_eq_some_iff.1 h1).1)
      unfold Ac at hln
      rw [hn'] at hln;cases hln
   ·obtain ⟨o,ho,hx,hrd⟩:=r.ready hbk hi
    have hg:=I5 ho hx
    have hlt:=(List.getElem?_eq_some_iff.1 ho).1
    have hlt':(AG all).length+Ih all i<all.length:=by have:=(List.getElem?_eq_some_iff.1 hg).1;rwa [hoist_len] at this
    have h1:=h.2 _ hrd
    have hao:all.toArray[i]? = some o:=by simpa using ho
    have hao':(An all).toArray[(AG all).length+Ih all i]? = some (Od all (AG all).length o):=by simpa using hg
    have r':Ren all (D.setIfInBounds i true) (D'.setIfInBounds ((AG all).length+Ih all i) true):=by
     have e1:∀ k,Ac (D.setIfInBounds i true) k↔Ac D k\/k=i:=fun k=>by unfold Ac;rw [Ei (by rw [r.s];exact hlt)];simp
     have e2:∀ k,Ac (D'.setIfInBounds ((AG all).length+Ih all i) true) k↔Ac D' k\/k=(AG all).length+Ih all i:=fun k=>by unfold Ac;rw [Ei (by rw [r.s'];exact hlt')];simp
     refine ⟨by simp [r.s],by simp [r.s'],fun j o' x hj hx'=>(e1 j).2 (.inl (r.mv j o' x hj hx')),fun j hj=>(e2 j).2 (.inl (r.mv' j hj)),fun j o' hj hx'=>?_⟩
     rw [e1,e2,r.ot j o' hj hx']
     constructor
     ·rintro (h|h)
      ·exact .inl h
      ·exact .inr (ab hj hx' ho hx (by omega))
     ·rintro (h|h)
      ·exact .inl h
      ·subst h;exact .inr rfl
    have hwt:Region.wanted (Od all (AG all).length o) (yielded (An all).toArray a.tmps)=Region.wanted o (yielded all.toArray a.tmps):=by
     unfold Region.wanted
     cases hgu:o.guard with
     | none=>simp only [Od,hgu]
     | some gw =>
       obtain ⟨g,b⟩:=gw
       obtain ⟨h2,h3⟩:=hgd i o g b ho hgu
       have ho2:all[g]? = some (all[g]'h3):=List.getElem?_eq_getElem _
       have hx2:HF (all[g]'h3)=none:=by
        rw [PJ ho2] at h2
        cases hx3:HF (all[g]'h3) with
        | none=>rfl
        | some y=>rw [hx3] at h2;simp at h2
       have hg2:=I5 ho2 hx2
       have hy:yielded (An all).toArray a.tmps ((AG all).length+Ih all g)=yielded all.toArray a.tmps g:=by
        unfold yielded
        simp only [List.getElem?_toArray,hg2,ho2,Option.bind_some]
        rfl
       simp only [Od,hgu,hy]
    unfold wpOpIn at h1 ⊢
    simp only [hao'] at h1
    simp only [hao]
    rw [hwt] at h1
    split
    ·rename_i hw
     rw [if_pos hw] at h1
     have h1':Oper.wpIn F n P o a w (fun a' w'=>I a' w'/\CQ I F n P (An all).toArray Q fuel (D'.setIfInBounds ((AG all).length+Ih all i) true) a' w') Q:=h1
     exact Oper.wpIn_mono (fun a' w' h2=>⟨h2.1,ih _ _ a' w' r' h2.2⟩) h1'
    ·rename_i hw
     rw [if_neg hw] at h1
     exact ⟨h1.1,h1.2.1,ih _ _ _ _ r' h1.2.2⟩
end
end Abs
end Go.Proofs.YtccgngldoinokaaGreat

namespace Go.Proofs.YtccgngldoinokaaGreat
namespace Abs
open Go Go.RowKit
section
variable {P:Program} {S:Sums} {C C':Cx} {w w':World} {H hp:A0} {T T1 T':List Cnd} {all:List Oper} {F:Fence} {n:Nat} {Q:Exit->Act->World->Prop} {J:World->Prop}
theorem SW {fr:List AV} {tm:Array Value} (hF:FR [] C w fr tm) {g:Nat} {b:Bool} (h:X1 all fr (some (g,b))=true):yielded all.toArray tm g=some b:=by
 simp only [X1] at h
 split at h
 ·rename_i d hd
  split at h
  ·rename_i c hc
   have h1:=(hF.get d).1
   rw [hc] at h1
   rw [F3 hd]
   generalize tm.getD d undef=x at h1
   cases h1
   simpa [yv] using h
  ·cases h
 ·cases h
theorem YI {R:AV->A0->Prop} (hilt:∀ b,C.I b->b<w.heap.size):∀ (l:List Oper) (m:List Bool) (fr:List AV) (a:Act) (k:List AV->VC),m.length=l.length->FR [] C w fr a.tmps->(LL P all l m fr k).sat R ->
  ∃ a' fr',PRun P (Imm C w) all l m a a'/\FR [] C w fr' a'.tmps/\(k fr').sat R
 | [],[],fr,a,k,_,hF,h=>⟨a,fr,.nil a,hF,by simpa [LL] using h⟩
 | [],_::_,_,_,_,hl,_,_=>by simp at hl
 | _::_,[],_,_,_,hl,_,_=>by simp at hl
 | o::l,false::m,fr,a,k,hl,hF,h=>by
   simp only [LL] at h
   obtain ⟨a',fr',h1,h2,h3⟩:=YI hilt l m fr a k (by simpa using hl) hF h
   exact ⟨a',fr',.skip o l m a a' h1,h2,h3⟩
 | o::l,true::m,fr,a,k,hl,hF,h=>by
   simp only [LL] at h
   split at h
   ·exact h.elim
   ·rename_i hg
    rw [Cy] at h
    split at h
    ·exact h.elim
    ·rename_i ps x hx
     obtain ⟨h1,h2⟩:=EB h
     rw [AT,FV] at h2
     obtain ⟨v,hv,hdf,hse,hrun⟩:=Lt (w:=w) (C:=C) (σ:=a.eval) hilt (fun y=>OR fr _ [] C w a hF y) (fun _=>rfl) hx h1
     have hF2:FR [] C w (CT fr o.dst (DN x)) (a.put o.dst v).tmps:=hF.put (.plain (Du hv) (BQ _)) _
     obtain ⟨a',fr',h3,h4,h5⟩:=YI hilt l m _ (a.put o.dst v) k (by simpa using hl) hF2 h2
     refine ⟨a',fr',.op o l m a a' v ⟨hdf,hse,?_,hrun⟩ h3,h4,h5⟩
     unfold Region.wanted
     cases hgu:o.guard with
     | none=>rfl
     | some gw =>
       obtain ⟨g,b⟩:=gw
       rw [hgu] at hg
       simp only [SW hF hg]
       simp
theorem PRun.ds {l:List Oper} {m:List Bool} {a a':Act} {ds:Act->Prop} (h:PRun P J all l m a a'):(∀ o∈l,∀ (a:Act) (v:Value),ds a->ds (a.put o.dst v))->ds a->ds a':=by
 induction h with
 | nil a=>exact fun _ h=>h
 | skip o l m a a' h ih=>exact fun hp h=>ih (fun o' ho'=>hp o' (by simp [ho'])) h
 | op o l m a a' v hf h ih=>exact fun hp h=>ih (fun o' ho'=>hp o' (by simp [ho'])) (hp o (by simp) _ _ h)
theorem Pa {fl:List Bool} {fr:List AV}:∀ {l:List Oper} {m:List Bool},KU all fl fr l m=true->m.length=l.length->∀ i o g b,l[i]? = some o->Ao m i=false->o.guard=some (g,b)->Ao fl g=true->X1 all fr (some (g,b))=true
 | [],_,_,_,i,o,g,b,h,_,_,_=>by simp at h
 | _::_,[],_,hl,_,_,_,_,_,_,_,_=>by simp at hl
 | p::l,c::m,h,hl,i,o,g,b,hi,hf,hg,hgf=>by
   have ht:KU all fl fr l m=true:=by
    unfold KU at h
    split at h
    ·split at h
     ·split at h
      ·exact h
      ·cases h
     ·exact h
    ·exact h
   cases i with
   | zero =>
     simp at hi;subst hi
     simp only [Ao] at hf
     subst hf
     unfold KU at h
     rw [hg] at h
     simp only [hgf] at h
     split at h
     ·assumption
     ·cases h
   | succ i=>exact Pa ht (by simpa using hl) i o g b (by simpa using hi) (by simpa [Ao] using hf) hg hgf
theorem lL {fl:List Bool}:∀ (l:List Oper) (m:List Bool),m.length=l.length->(∀ i o,(FM fl l m)[i]? = some o->(HF o).isSome=Ao m i)->(AG (FM fl l m)).length=Mv m
 | [],[],_,_=>rfl
 | [],_::_,h,_=>by simp at h
 | _::_,[],h,_=>by simp at h
 | p::l,b::m,hl,h=>by
   have ih:=lL l m (by simpa using hl) fun i o hi=>by
    have:=h (i+1) o (by simpa [FM] using hi)
    simpa [Ao] using this
   have h0:=h 0 (O7 fl b p) (by simp [FM])
   simp only [Ao] at h0
   cases b with
   | true =>
     simp only [FM,AG,Mv]
     split
     ·simp [ih]
     ·rename_i hx;rw [hx] at h0;simp at h0
   | false =>
     simp only [FM,AG,Mv]
     split
     ·rename_i x hx;rw [hx] at h0;simp at h0
     ·exact ih
theorem UO:∀ m:List Bool,Mv m<=m.length
 | []=>Nat.le_refl _
 | true::m=>by simp [Mv,UO m]
 | false::m=>by have:=UO m;simp [Mv];omega
theorem YE (hS:SumsOK P S) {ro:Option Nat} {rm:Nat} (hm:P.follows .mixedOrders=true) {id:Nat} {ops:Array Oper} (hok:uI ops.toList=true) {R:AV->A0->Prop} {K:List AV->A0->VC} {Q:Exit->Act->World->Prop} {fr:List AV} {act:Act}
  (AQ:S.lo<=hp.length) (hH:HR C hp w) (hF:FR [] C w fr act.tmps) (hbk:GH ops.toList) (h:(OV P S ops.toList fr hp K).sat R) {ds:Act->Prop} (hput:Ep ops.toList ds) (hds:ds act) (hgoal:Goal P S R K Q C w ds) :
  (Code.region id ops true).wpIn (Fa ro) rm P Q act w:=by
 refine Go.wpIn_mono (Q:=fun e a w=>(∀ c,e≠.panic c)/\Q e a w) ?_ fun e a w h=>h.2
 apply wpIn_region_any hm
 have hlen:(Lv ops.toList).length=ops.toList.length:=pb
 unfold uI at hok
 unfold OV at h
 generalize hfl:Lv ops.toList=fl at *
 have htl:(FM fl ops.toList fl).length=ops.toList.length:=Lh _ _ hlen
 have htg:=fun i o=>Ho (fl:=fl) ops.toList fl i o hlen
 generalize htgd:FM fl ops.toList fl=tg at *
 simp only [Bool.and_eq_true,Iy] at hok
 obtain ⟨⟨⟨hu,ht,hb⟩,huq⟩,hall⟩:=hok
 have hall:∀ i o,ops.toList[i]? = some o->(HF (O7 fl (Ao fl i) o)).isSome=Ao fl i/\(∀ cs b,o.op≠.select cs b)/\(∀ g b,(O7 fl (Ao fl i) o).guard=some (g,b)->PK tg g=false/\g<ops.toList.length)/\(Ao fl i=true->zf ops.toList fl i o=true/\Iq fl o.after.toList=true):=fun i o ho=>by
  have h1:=Ag hall i (List.getElem?_eq_some_iff.1 ho).1
  simp only [ho,htg i o ho,Bool.and_eq_true,Bool.not_eq_true',beq_iff_eq] at h1
  obtain ⟨⟨⟨h2,h3⟩,h4⟩,h5⟩:=h1
  refine ⟨h2,fun cs b hc=>?_,fun g b hg=>?_,fun hf=>?_⟩
  ·rw [hc] at h3;simp [c9] at h3
  ·rw [hg] at h4
   simpa [Nat.blt_eq] using h4
  ·rw [hf] at h5
   simpa using h5
 have hH1:HR C hp { w with drawn:=w.drawn+1 }:=HR.same (w:=w) rfl hH
 have hF1:FR [] C { w with drawn:=w.drawn+1 } fr act.tmps:=FR.mono (w:=w) (w':={ w with drawn:=w.drawn+1 }) (.same rfl) hF
 obtain ⟨a1,fr1,hrun,hF2,hk⟩:=YI (C:=C) (w:={ w with drawn:=w.drawn+1 }) hH1.ilt ops.toList fl fr act _ hlen hF1 h
 split at hk
 rotate_left
 ·exact hk.elim
 rename_i hga
 have hGK:GK ops.toList fl a1:=fun i o g b ho hf hg hgf=>SW hF2 (Pa hga hlen i o g b ho hf hg hgf)
 have hds1:ds a1:=hrun.ds (fun o ho a v h=>hput o ho a v h) hds
 have hcnt:(AG tg).length=Mv fl:=by
  rw [<- htgd]
  refine lL _ _ hlen fun i o ho=>?_
  have hi:=(List.getElem?_eq_some_iff.1 ho).1
  rw [htgd,htl] at hi
  have ho2:ops.toList[i]? = some (ops.toList[i]'hi):=List.getElem?_eq_getElem _
  rw [htgd,htg i _ ho2] at ho
  injection ho with ho
  subst ho
  exact (hall i _ ho2).1
 have hcl:=UO fl
 rw [hlen] at hcl
 have hno:∀ i,¬ Ac (Array.replicate ops.size false) i:=fun i h=>by
  unfold Ac at h
  rw [Array.getD_eq_getD_getElem?,Array.getElem?_replicate] at h
  split at h<;>simp at h
 have hsz:(Array.replicate ops.size false).size=ops.toList.length:=by simp
 have key:=zX (P:=P) (F:=Fa ro) (n:=rm) (J:=Imm C { w with drawn:=w.drawn+1 }) (Q:=fun e a w=>(∀ c,e≠.panic c)/\Q e a w) (fl:=fl) (fun f=>trivial) (fun j o cs b hj=>(hall j o hj).2.1 cs b) (fun c a w h=>h.1 c rfl) hbk (fun i oi hi hf=>by
   obtain ⟨h1,h2⟩:=(hall i oi hi).2.2.2 hf
   refine ⟨M2 h2,fun j oj hj hne hnf hno=>?_⟩
   have h3:=Ag h1 j (List.getElem?_eq_some_iff.1 hj).1
   simp only [hj,Bool.or_eq_true,List.any_eq_true,Bool.and_eq_true] at h3
   rcases h3 with ((h3|⟨h3,h4⟩)|⟨e,h3,h4,h5⟩)|h3
   ·exact absurd (Nat.eq_of_beq_eq_true h3) hne
   ·exact absurd ⟨h3,by simpa [Nat.blt_eq] using h4⟩ hnf
   ·exact absurd (Nat.eq_of_beq_eq_true h5) (hno e (by simpa using h3) h4)
   ·exact h3) (fuel:=ops.toList.length-Mv fl) ops.toList fl 0 (Array.replicate ops.size false) act a1 { w with drawn:=w.drawn+1 } hrun (fun j=>by simp) (fun j=>by simp) hsz (fun i _=>hno i) (fun i hi=>by omega) (fun _ _=>rfl) ?_
 ·rw [Nat.sub_add_cancel hcl] at key
  simpa using Ff _ _ _ _ key
 obtain ⟨hz1,hz2⟩:=MX fl 0 (Array.replicate ops.size false) (by simp [hlen])
 have hD1:∀ i,Ac (Ti fl 0 (Array.replicate ops.size false)) i↔Ao fl i=true:=fun i=>by
  rw [hz2]
  constructor
  ·rintro (h|⟨j,h1,h2⟩)
   ·exact absurd h (hno i)
   ·obtain rfl:i=j:=by omega
    rw [Jd,List.getD_eq_getElem?_getD,h2];rfl
  ·intro h
   refine .inr ⟨i,by omega,?_⟩
   rw [Jd,List.getD_eq_getElem?_getD] at h
   cases hx:fl[i]? with
   | none=>rw [hx] at h;simp at h
   | some b=>rw [hx] at h;simp at h;rw [h]
 refine zb hlen (I:=fun a w'=>GK ops.toList fl a/\Imm C { w with drawn:=w.drawn+1 } w') (fun a w h=>h) _ _ _ _ (hz1.trans hsz) (fun i hi _=>(hD1 i).2 hi) hGK ?_
 rw [htgd]
 obtain ⟨D',hD1',hD2⟩:∃ D':Array Bool,D'.size=ops.toList.length/\∀ i,Ac D' i↔i<(AG tg).length:=by
  refine ⟨(List.replicate (AG tg).length true++List.replicate (ops.toList.length-(AG tg).length) false).toArray,by
   rw [List.size_toArray,List.length_append,List.length_replicate,List.length_replicate];omega,fun i=>?_⟩
  unfold Ac
  rw [Array.getD_eq_getD_getElem?]
  simp only [List.getElem?_toArray]
  rcases Nat.lt_or_ge i (AG tg).length with hi|hi
  ·rw [List.getElem?_append_left (by simpa using hi),List.getElem?_replicate,if_pos hi];simp [hi]
  ·rw [List.getElem?_append_right (by simpa using hi),List.getElem?_replicate]
   split<;>simp<;>omega
 have gett:∀ i o,tg[i]? = some o->∃ oo,ops.toList[i]? = some oo/\o=O7 fl (Ao fl i) oo:=fun i o ho=>by
  have hi:=(List.getElem?_eq_some_iff.1 ho).1
  rw [htl] at hi
  have ho2:ops.toList[i]? = some (ops.toList[i]'hi):=List.getElem?_eq_getElem _
  rw [htg i _ ho2] at ho
  injection ho with ho
  exact ⟨_,ho2,ho.symm⟩
 have hbt:GH tg:=fun i o ho e he hb'=>by
  obtain ⟨oo,h1,h2⟩:=gett i o ho
  cases hf:Ao fl i with
  | true=>rw [h2,hf] at he;cases he
  | false =>
    rw [h2,hf] at he
    exact hbk i oo h1 e he hb'
 have hmvget:∀ i,i<(AG tg).length->∃ o x,(An tg)[i]? = some o/\HF o=some x:=fun i hi=>by
  have h1:(An tg)[i]? = some ((AG tg)[i]'hi):=by
   unfold An
   rw [List.getElem?_append_left hi,List.getElem?_eq_getElem hi]
  obtain ⟨x,hx⟩:=K1 (List.getElem_mem hi)
  exact ⟨_,x,h1,hx⟩
 refine Yn hbt (fun i o g b hi hg=>?_) _ _ D' _ _ ⟨by rw [hz1,hsz,htl],by rw [hD1',htl],fun i o x hi hx=>?_,fun i hi=>(hD2 i).2 hi,fun i o hi hx=>?_⟩ ?_
 ·obtain ⟨oo,h1,h2⟩:=gett i o hi
  rw [h2] at hg
  obtain ⟨h3,h4⟩:=(hall i oo h1).2.2.1 g b hg
  exact ⟨h3,by rw [htl];exact h4⟩
 ·obtain ⟨oo,h1,h2⟩:=gett i o hi
  have h3:=(hall i oo h1).1
  rw [<- h2,hx] at h3
  exact (hD1 i).2 h3.symm
 ·obtain ⟨oo,h1,h2⟩:=gett i o hi
  have h3:=(hall i oo h1).1
  rw [<- h2,hx] at h3
  rw [hD2,hD1]
  constructor
  ·intro h;omega
  ·intro h;rw [<- h3] at h;cases h
 have hkl:I2 (AG tg)=(AG tg).length:=K3 _
 rw [htgd,hkl] at hk
 have hdrop:(An tg).drop ((AG tg).length+([]:List Info).length)=ET tg (AG tg).length tg:=by
  unfold An
  rw [hkl]
  simp
 have hlen2:(AG tg).length<=(An tg).length:=by rw [hoist_len];have:=PT (all:=tg) 0 tg;omega
 obtain ⟨L,T',hs,he⟩:=LG hS hu (s:=(AG tg).length) (T0:=[]) (fr0:=fr1) (hp0:=hp) _ [] [] ⟨by simpa using hlen2,.refl _,fun q hq=>by simp at hq⟩ hdrop (fun k x hx=>by simp at hx) hk
 obtain ⟨r,hr⟩:=Aj hp L L.length
 have hput':Ep (An tg) fun a=>ds a/\GK ops.toList fl a:=fun o ho a v hda=>by
  obtain ⟨o',h1,h2⟩:=Mj ho
  obtain ⟨i,hi⟩:=List.getElem?_of_mem h1
  obtain ⟨oo,h3,h4⟩:=gett i o' hi
  rw [h2,h4]
  cases hf:Ao fl i with
  | true=>exact hda
  | false =>
    refine ⟨hput oo (List.mem_of_getElem? h3) a v hda.1,fun j o2 g b hj hfj hg hgf=>?_⟩
    have h5:=hda.2 j o2 g b hj hfj hg hgf
    show yielded ops.toList.toArray (a.put oo.dst v).tmps g=some b
    cases hd:Af ops.toList g with
    | none =>
      exfalso
      unfold yielded at h5
      unfold Af at hd
      simp only [List.getElem?_toArray] at h5
      cases hog:ops.toList[g]? with
      | none=>rw [hog] at h5;simp at h5
      | some og=>rw [hog] at hd h5;simp only at hd;simp [hd] at h5
    | some d =>
      rw [F3 hd] at h5 ⊢
      rw [Dn,if_neg]
      ·exact h5
      ·rintro ⟨e,_⟩
       obtain ⟨og,hog,hdg⟩:=AY hd
       exact (DR huq hog).1 d hdg i oo (fun e'=>by rw [e',hgf] at hf;cases hf) h3 e
 have hcount:J3 (fun i=>D'.getD i false) (An tg).length<=ops.toList.length-Mv fl:=by
  rw [hoist_len,htl,<- hcnt]
  have:∀ m,J3 (fun i=>D'.getD i false) m<=m-(AG tg).length:=fun m=>by
   induction m with
   | zero=>exact Nat.zero_le _
   | succ m ih =>
     simp only [J3]
     rcases Nat.lt_or_ge m (AG tg).length with hm|hm
     ·have:=(hD2 m).2 hm
      unfold Ac at this
      simp only [this,if_true];omega
     ·split<;>omega
  exact this _
 have hIP:IP (An tg) (fun a w'=>GK ops.toList fl a/\Imm C { w with drawn:=w.drawn+1 } w'):=fun o ho a v w' h=>by
  refine ⟨fun j o2 g b hj hfj hg hgf=>?_,h.2⟩
  have h5:=h.1 j o2 g b hj hfj hg hgf
  obtain ⟨o',h1,h2⟩:=Mj ho
  obtain ⟨i,hi⟩:=List.getElem?_of_mem h1
  obtain ⟨oo,h3,h4⟩:=gett i o' hi
  rw [h2,h4] at h5
  cases hf:Ao fl i with
  | true=>rw [hf] at h5;exact h5
  | false =>
    rw [hf] at h5
    change yielded ops.toList.toArray (a.put oo.dst v).tmps g=some b at h5
    cases hd:Af ops.toList g with
    | none =>
      exfalso
      unfold yielded at h5
      unfold Af at hd
      simp only [List.getElem?_toArray] at h5
      cases hog:ops.toList[g]? with
      | none=>rw [hog] at h5;simp at h5
      | some og=>rw [hog] at hd h5;simp only at hd;simp [hd] at h5
    | some d =>
      rw [F3 hd] at h5 ⊢
      rw [Dn,if_neg] at h5
      ·exact h5
      ·rintro ⟨e,_⟩
       obtain ⟨og,hog,hdg⟩:=AY hd
       exact (DR huq hog).1 d hdg i oo (fun e'=>by rw [e',hgf] at hf;cases hf) h3 e
 refine (ME (Q:=fun e a w=>(∀ c,e≠.panic c)/\Q e a w) hS hu ht (ED hb) hput' (ro:=ro) (rm:=rm) (fun c a w h=>h.1 c rfl) _ _ hIP).1 D' _ [] _ hp L T' C { w with drawn:=w.drawn+1 } _ hs he
  ⟨by rw [hD1',hoist_len,htl],fun i hi=>(hD2 i).2 hi,fun i hi hl=>?_,fun i o ho hl e he' hb'=>?_,⟨by rw [hr];exact hH1.ext r,fun q _ _ t _=>by
   obtain ⟨r',hr'⟩:=Aj hp L q
   cases hc:C.ρ ((hps hp L q).length+t) with
   | none=>rfl
   | some p=>have:=hH1.lt hc;rw [hr'] at this;simp at this;omega,
   fun q _ hl=>?_,fun t _=>(hF2.get t).sub hs.sub,hF2.len⟩⟩ AQ hcount ⟨hds1,hGK⟩ ⟨fun fr' hp' C' w' act' h1 h2 h3 h4 h5 h6=>⟨fun c h=>by (cases h),(hgoal.step (.draw _ _ _ _)) fr' hp' C' w' act' h1 h2 h3 h4 h5 h6.1⟩,fun C' w' act' t h=>⟨h.2,Imm.tr hH1 t⟩⟩
 ·have:=(hD2 i).1 hl;omega
 ·have hlt:=(hD2 i).1 hl
  obtain ⟨o',x,h1,h2⟩:=hmvget i hlt
  rw [ho] at h1;injection h1 with h1;subst h1
  rw [(PF h2).2.2] at he';cases he'
 ·have:=(hD2 _).1 hl;omega
end
end Abs
end Go.Proofs.YtccgngldoinokaaGreat

namespace Go.Proofs.YtccgngldoinokaaGreat
namespace Abs
open Go Go.RowKit
section
variable {P:Program} {S:Sums} {C C':Cx} {w w':World} {H hp:A0}
theorem BRel.monoS (hx:Cext C w C' w) {p:Pl} {b:Blk} (hs:∀ q c m,p=.at q c m->∀ b k,C.O b=some (q,k)->C'.O b=some (q,k)) (h:BRel C w p b):BRel C' w p b:=by
 match p,b,h with
 | .at q c m,.mat t wd k f,h =>
   obtain ⟨h1,h2,h3,cs,hh,hz,hc⟩:=h
   exact ⟨h1,h2,h3,cs,hh,hz,fun k hk j hj=>by
    obtain ⟨ho,v,hv,hr⟩:=hc k hk j hj
    exact ⟨ho,v,hv,hr.mono hx⟩⟩
 | .at q c m,.rows e e' sz k fz ln el ho,h =>
   obtain ⟨h1,h2,h3,cs,hh,hz,hc⟩:=h
   exact ⟨h1,h2,h3,cs,hh,hz,fun k hk=>by
    obtain ⟨v,hv,hr,hn⟩:=hc k hk
    refine ⟨v,hv,fun h e=>(hr h e).mono hx,fun hno=>⟨fun hf=>((hn hno).1 hf).mono hx,fun hf=>?_⟩⟩
    rcases (hn hno).2 hf with h|⟨b',c',cs,vs,h1,h2,h3,h4,h5,h6,h7⟩
    ·exact .inl h
    ·exact .inr ⟨b',c',cs,vs,h1,hs q c m rfl _ _ h2,h3,h4,h5,h6,fun q hq=>⟨(h7 q hq).1.mono hx,(h7 q hq).2⟩⟩⟩
 | .at q c m,.cells t l,h =>
   obtain ⟨vs,hr,hh⟩:=h
   exact ⟨vs,hr.mono hx,hh⟩
 | .at q c m,.row e sz k el,h =>
   obtain ⟨h1,h2,h3,cs,vs,hh,hz,hc⟩:=h
   exact ⟨h1,h2,h3,cs,vs,hh,hz,fun k hk=>⟨(hc k hk).1.mono hx,(hc k hk).2⟩⟩
 | .nil,.row e sz k el,h=>exact h
 | .at q c m,.tab k sz el,h =>
   obtain ⟨es,ck,vs,hh,hs,hc⟩:=h
   exact ⟨es,ck,vs,hh,hs,fun k hk=>⟨(hc k hk).1.mono hx,(hc k hk).2⟩⟩
theorem HR.reb {j:Nat} {b':Blk} (hH:HR C hp w) (hj:j<hp.length) (hb:∀ p,C.ρ j=some p->BRel C w p b'):HR C (AM hp j b') w :=
 ⟨fun i p hi=>by
  by_cases h:i=j
  ·subst h;rw [DI,if_pos ⟨rfl,hj⟩];exact hb p hi
  ·rw [BK h];exact hH.live i p hi,hH.inj,hH.fresh,hH.ilt,hH.sub⟩
theorem XP {e e':TypeId} {sz:Nat} {n:LN} {el:Nat->List AV} {p:Pl} (hn:0<n.val) (hel:∀ k,k<n.val->el k=[.v (.slice none 0 0)]) (h:BRel C w p (.row e 1 n el)) :
  BRel C w p (.rows e e' (sz+1) n (fun _=>false) (fun _=>0) (fun _ _=>[]) none):=by
 match p,h with
 | .at b c m,h =>
   obtain ⟨h1,h2,h3,cs,vs,hh,hs,hc⟩:=h
   refine ⟨h1,h2,⟨Nat.succ_pos _,h3.2⟩,cs,hh,by rw [hs,Nat.mul_one],fun k hk=>?_⟩
   obtain ⟨g1,g2,g3,g4⟩:=hc k hk
   rw [hel k (by omega)] at g1
   have g5:=g4 0 (by omega)
   generalize vs k=u at g1 g5
   cases g1 with
   | cons _ _ v vs' g6 g7 =>
     cases g6
     refine ⟨.slice none 0 0,by simpa using g5,fun _ h=>(by cases h),fun _=>⟨fun h=>(by cases h),fun _=>.inl ⟨rfl,rfl⟩⟩⟩
 | .nil,h=>obtain ⟨h0,_⟩:n.val=0/\_:=h;omega
theorem HR.come {j:Nat} {p:Pl} {B Bn:Blk} {O1:Nat->Option (Nat × Nat)} (hH:HR C hp w) (hj:j<hp.length) (hno:C.ρ hp.length=none)
  (hO1:∀ b x,O1 b=some x->C.O b=some x) (hOk:∀ i q c m,i≠j->C.ρ i=some (.at q c m)->∀ b k,C.O b=some (q,k)->O1 b=some (q,k))
  (hBj:∀ q,C.ρ j=some q->BRel ⟨(C.put hp.length p).ρ,C.I,O1⟩ w q B) (hBn:BRel ⟨(C.put hp.length p).ρ,C.I,O1⟩ w p Bn)
  (hpl:∀ b c m,p=.at b c m->b<w.heap.size/\¬ C.I b/\(∀ i b' c n,C.ρ i=some (.at b' c n)->b'≠b)/\O1 b=none) :
  Cext C w ⟨(C.put hp.length p).ρ,C.I,O1⟩ w/\HR ⟨(C.put hp.length p).ρ,C.I,O1⟩ (AM hp j B++[Bn]) w:=by
 have hx:Cext C w ⟨(C.put hp.length p).ρ,C.I,O1⟩ w:=⟨fun i q hq=>by
  show (C.put hp.length p).ρ i=some q
  by_cases hi:i=hp.length
  ·subst hi;rw [hno] at hq;cases hq
  ·rw [Cx.put_ne hi];exact hq,fun _ h=>h,fun _ _=>rfl⟩
 have cls:∀ i q,(C.put hp.length p).ρ i=some q->(i=hp.length/\q=p)\/(i≠hp.length/\C.ρ i=some q):=fun i q hq=>by
  by_cases hi:i=hp.length
  ·subst hi;rw [Cx.put_eq] at hq;injection hq with hq;exact .inl ⟨rfl,hq.symm⟩
  ·rw [Cx.put_ne hi] at hq;exact .inr ⟨hi,hq⟩
 refine ⟨hx,fun i q hq=>?_,fun i i' b c n b1 c1 n1 h h' hne=>?_,fun i b c n h=>?_,hH.ilt,fun b x hb=>?_⟩
 ·rcases cls i q hq with ⟨rfl,rfl⟩|⟨hi,hq'⟩
  ·have e:A3 (AM hp j B++[Bn]) hp.length=Bn:=by
    rw [Ds,List.getD_eq_getElem?_getD,List.getElem?_append_right (by rw [Ah];exact Nat.le_refl _),Ah,Nat.sub_self];rfl
   rw [e];exact hBn
  ·by_cases hij:i=j
   ·subst hij
    rw [Ax _ _ _ (by rw [Ah];exact hj),DI,if_pos ⟨rfl,hj⟩]
    exact hBj q hq'
   ·by_cases hlt:i<hp.length
    ·rw [Ax _ _ _ (by rw [Ah];exact hlt),BK hij]
     exact (hH.live i q hq').monoS hx fun q' c m e b k hb=>hOk i q' c m hij (by rw [<- e];exact hq') b k hb
    ·have hl:=hH.live i q hq'
     rw [Gj (by omega)] at hl
     cases q<;>exact hl.elim
 ·rcases cls i _ h with ⟨rfl,g⟩|⟨hi,g⟩
  ·rcases cls i' _ h' with ⟨rfl,g'⟩|⟨hi',g'⟩
   ·exact absurd rfl hne
   ·exact Ne.symm ((hpl b c n g.symm).2.2.1 i' b1 c1 n1 g')
  ·rcases cls i' _ h' with ⟨rfl,g'⟩|⟨hi',g'⟩
   ·exact (hpl b1 c1 n1 g'.symm).2.2.1 i b c n g
   ·exact hH.inj _ _ _ _ _ _ _ _ g g' hne
 ·rcases cls i _ h with ⟨rfl,g⟩|⟨hi,g⟩
  ·exact ⟨(hpl b c n g.symm).1,(hpl b c n g.symm).2.1⟩
  ·exact hH.fresh _ _ _ _ g
 ·obtain ⟨s1,s2,s3,s4⟩:=hH.sub b x (hO1 b x hb)
  refine ⟨s1,s2,fun i b' c n h=>?_,s4⟩
  rcases cls i _ h with ⟨rfl,g⟩|⟨hi,g⟩
  ·rintro rfl
   have hb':O1 b'=some x:=hb
   rw [(hpl b' c n g.symm).2.2.2] at hb';cases hb'
  ·exact s3 i b' c n g
theorem oc {lo j k:Nat} {e e':TypeId} {sz:Nat} {n:LN} {fz:Nat->Bool} {ln:Nat->Nat} {el:Nat->Nat->List AV} (hH:HR C hp w) (hb:A3 hp j=.rows e e' sz n fz ln el none) (hk:k<n.val) (hf:fz k=false) (AQ:lo<=hp.length) :
  ∃ C',Cext C w C' w/\HR C' (AM hp j (.rows e e' sz n fz ln el (some (k,some hp.length)))++[.row e' sz (.sym (ln k)) (el k)]) w/\Tr lo C w C' w:=by
 have hj:j<hp.length:=DL (by rw [hb];simp)
 have hno:C.ρ hp.length=none:=by
  have:=(hH.free [.dead] 0 (by simp)).2
  simpa using this
 cases hρ:C.ρ j with
 | none =>
   exact ⟨C,.refl _ _,(hH.reb hj fun p hp=>by rw [hρ] at hp;cases hp).ext _,.refl _ _ _⟩
 | some p =>
   have hl:=hH.live j p hρ
   rw [hb] at hl
   match p,hl with
   | .at b cap m,hl =>
   obtain ⟨a1,a2,a3,cs,hh,hz,hc⟩:=hl
   obtain ⟨v,hv,hr,hn⟩:=hc k (by omega)
   have nh:∀ q,q≠k->¬ GM (some (k,some hp.length)) q:=fun q hq ⟨x,hx⟩=>by
    injection hx with hx;injection hx with hx _;exact hq hx.symm
   have no:∀ q,¬ GM none q:=fun q ⟨x,hx⟩=>by cases hx
   rcases (hn (no k)).2 hf with ⟨g1,g2⟩|⟨b',c',cs',vs,g1,g2,g3,g4,g5,g6,g7⟩
   ·subst g2
    have hx:Cext C w ⟨(C.put hp.length .nil).ρ,C.I,C.O⟩ w:=⟨fun i q hq=>by
     show (C.put hp.length .nil).ρ i=some q
     by_cases hi:i=hp.length
     ·subst hi;rw [hno] at hq;cases hq
     ·rw [Cx.put_ne hi];exact hq,fun _ h=>h,fun _ _=>rfl⟩
    obtain ⟨h1,h2⟩:=hH.come (j:=j) (p:=.nil) (B:=.rows e e' sz n fz ln el (some (k,some hp.length))) (Bn:=.row e' sz (.sym (ln k)) (el k)) (O1:=C.O) hj hno (fun _ _ h=>h) (fun _ _ _ _ _ _ _ _ h=>h) (fun q hq=>by
     rw [hρ] at hq;injection hq with hq;subst hq
     refine ⟨a1,a2,a3,cs,hh,hz,fun q hq=>?_⟩
     obtain ⟨v2,hv2,_,hn2⟩:=hc q hq
     refine ⟨v2,hv2,fun h e=>?_,fun hno2=>⟨fun h=>((hn2 (no q)).1 h).mono hx,fun g=>SubOwn.mono (C:=C) (w:=w) (fun b x hb=>⟨hb,rfl⟩) (fun _ g'=>RelL.mono hx g') ((hn2 (no q)).2 g)⟩⟩
     injection e with e;injection e with e1 e2;injection e2 with e2
     subst e1 e2
     rw [hv] at hv2;injection hv2 with hv2;subst hv2
     exact .rown _ Cx.put_eq) ⟨g1,a3.1⟩ (fun _ _ _ h=>by cases h)
    refine ⟨_,h1,h2,rfl,rfl,rfl,Nat.le_refl _,fun _ _ _ _=>rfl,fun _ h=>h,fun _ h=>.inl h,fun i hi=>Cx.put_ne (by omega),fun i q c m2 hi h=>?_,fun q x h=>.inl ⟨x,h⟩⟩
    by_cases hi':i=hp.length
    ·subst hi';rw [Cx.put_eq] at h;cases h
    ·rw [Cx.put_ne hi'] at h;exact .inl ⟨i,c,m2,hi,h⟩
   ·subst g1
    obtain ⟨s1,s2,s3,s4⟩:=hH.sub b' _ g2
    let O1:Nat->Option (Nat × Nat):=fun q=>if q=b' then none else C.O q
    have hO1:∀ q,q≠b'->O1 q=C.O q:=fun q h=>if_neg h
    have hx:Cext C w ⟨(C.put hp.length (.at b' c' (ln k))).ρ,C.I,O1⟩ w:=⟨fun i q hq=>by
     show (C.put hp.length _).ρ i=some q
     by_cases hi:i=hp.length
     ·subst hi;rw [hno] at hq;cases hq
     ·rw [Cx.put_ne hi];exact hq,fun _ h=>h,fun _ _=>rfl⟩
    obtain ⟨h1,h2⟩:=hH.come (j:=j) (p:=.at b' c' (ln k)) (B:=.rows e e' sz n fz ln el (some (k,some hp.length))) (Bn:=.row e' sz (.sym (ln k)) (el k)) (O1:=O1) hj hno
     (fun q x h=>by
      by_cases hq:q=b'
      ·simp [O1,hq] at h
      ·rwa [hO1 q hq] at h)
     (fun i q c m2 hi hρi q2 k2 h=>by
      rw [hO1 q2 fun e=>?_]
      ·exact h
      ·subst e
       rw [g2] at h;injection h with h;injection h with h _
       exact hH.inj _ _ _ _ _ _ _ _ hρi hρ hi h.symm)
     (fun q hq=>by
      rw [hρ] at hq;injection hq with hq;subst hq
      refine ⟨a1,a2,a3,cs,hh,hz,fun q hq=>?_⟩
      obtain ⟨v2,hv2,_,hn2⟩:=hc q hq
      refine ⟨v2,hv2,fun h e=>?_,fun hno2=>⟨fun h=>((hn2 (no q)).1 h).mono hx,fun h=>?_⟩⟩
      ·injection e with e;injection e with e1 e2;injection e2 with e2
       subst e1 e2
       rw [hv] at hv2;injection hv2 with hv2;subst hv2
       exact .row _ b' c' _ Cx.put_eq
      ·rcases (hn2 (no q)).2 h with h|⟨b2,c2,cs2,vs2,i1,i2,i3,i4,i5,i6,i7⟩
       ·exact .inl h
       ·refine .inr ⟨b2,c2,cs2,vs2,i1,?_,i3,i4,i5,i6,fun q hq=>⟨(i7 q hq).1.mono hx,(i7 q hq).2⟩⟩
        show O1 b2=some (b,q)
        rw [hO1 b2 fun e=>?_]
        ·exact i2
        ·subst e
         rw [g2] at i2;injection i2 with i2;injection i2 with _ i2
         exact hno2 ⟨_,by rw [i2]⟩)
     ⟨rfl,g3,⟨a3.1,g4⟩,cs',vs,g5,g6,fun q hq=>⟨(g7 q hq).1.mono hx,(g7 q hq).2⟩⟩
     (fun q c m2 e=>by
      injection e with e1 e2 e3;subst e1
      exact ⟨s1,s2,s3,by simp [O1]⟩)
    refine ⟨_,h1,h2,rfl,rfl,rfl,Nat.le_refl _,fun _ _ _ _=>rfl,fun _ h=>h,fun _ h=>.inl h,fun i hi=>Cx.put_ne (by omega),fun i q c m2 hi h=>?_,fun q x h=>.inl ?_⟩
    ·by_cases hi':i=hp.length
     ·subst hi';rw [Cx.put_eq] at h;injection h with h;injection h with h
      subst h;exact .inr (.inr ⟨_,g2⟩)
     ·rw [Cx.put_ne hi'] at h;exact .inl ⟨i,c,m2,hi,h⟩
    ·have h':O1 q=some x:=h
     by_cases hq:q=b'
     ·simp [O1,hq] at h'
     ·rw [hO1 q hq] at h';exact ⟨x,h'⟩
def AU6 (C:Cx) (h:Nat) (stay:Bool):Nat->Prop:=fun q=>C.I q\/(stay=true/\∃ c n,C.ρ h=some (.at q c n))
def Z0 (C:Cx) (h j k:Nat) (stay:Bool):Nat->Option (Nat × Nat):=fun q=>match stay,C.ρ h,C.ρ j with
 | false,some (.at b' _ _),some (.at b _ _)=>if q=b' then some (b,k) else C.O q
 | _,_,_=>C.O q
theorem lN {h j k q:Nat} {stay:Bool} {x:Nat × Nat} (hH:HR C hp w) (e:C.O q=some x):Z0 C h j k stay q=some x:=by
 unfold Z0
 split
 ·rename_i b' c n b c' n' h1 h2
  rw [if_neg]
  ·exact e
  ·rintro rfl;exact (hH.sub _ _ e).2.2.1 _ _ _ _ h1 rfl
 ·exact e
theorem XL {h j k q:Nat} {stay:Bool} {x:Nat × Nat} (e:Z0 C h j k stay q=some x):C.O q=some x\/(stay=false/\∃ c n,C.ρ h=some (.at q c n)):=by
 unfold Z0 at e
 split at e
 ·rename_i b' c n b c' n' h1 h2
  split at e
  ·rename_i hq;subst hq;exact .inr ⟨rfl,c,n,h1⟩
  ·exact .inl e
 ·exact .inl e
theorem lM {lo j h k:Nat} {stay:Bool} {e e':TypeId} {sz:Nat} {n m:LN} {fz:Nat->Bool} {ln:Nat->Nat} {el:Nat->Nat->List AV} {f:Nat->List AV} (hH:HR C hp w) (hb:A3 hp j=.rows e e' sz n fz ln el (some (k,some h)))
  (hbh:A3 hp h=.row e' sz m f) (hne:h≠j) (AQ:lo<=h) :
  ∃ C',Turn h .top C w C' w/\HR C' (AM (AM (E5 (EJ h .top) hp) h .dead) j (.rows e e' sz n (Xl k stay fz) (Xo k m.val ln) (Xn k f el) none)) w/\Tr lo C w C' w:=by
 have hj:j<hp.length:=DL (by rw [hb];simp)
 let C':Cx:=⟨fun i=>if i=h then none else C.ρ i,AU6 C h stay,Z0 C h j k stay⟩
 have ne:∀ i,i≠h->C'.ρ i=C.ρ i:=fun i hi=>if_neg hi
 have eq:∀ p,C'.ρ h=some p->False:=fun p hp=>by simp [C'] at hp
 have ht:Turn h .top C w C' w:=⟨ne,fun b h=>.inl h,fun _ _=>rfl,fun v _=>.top v⟩
 have hs:KE C w C' w:=fun b x hb=>⟨lN hH hb,rfl⟩
 have old:∀ i p,C'.ρ i=some p->i≠h/\C.ρ i=some p:=fun i p hp=>by
  by_cases hi:i=h
  ·subst hi;exact (eq _ hp).elim
  ·rw [ne i hi] at hp;exact ⟨hi,hp⟩
 refine ⟨C',ht,⟨fun i p hp'=>?_,fun i i' b c n b1 c1 n1 g g' hn=>?_,fun i b c n g=>?_,fun b hb'=>?_,fun b x hb'=>?_⟩,?_⟩
 ·obtain ⟨hi,hρ⟩:=old i p hp'
  by_cases hij:i=j
  ·subst hij
   rw [DI,if_pos ⟨rfl,by rw [Ah,DG];exact hj⟩]
   have hl:=hH.live i p hρ
   rw [hb] at hl
   match p,hρ,hl with
   | .at b cap m',hρ,hl =>
   obtain ⟨a1,a2,a3,cs,hh,hz,hc⟩:=hl
   refine ⟨a1,a2,a3,cs,hh,hz,fun q hq=>?_⟩
   obtain ⟨v,hv,hr,hn⟩:=hc q hq
   refine ⟨v,hv,fun _ g=>(by cases g),fun _=>?_⟩
   by_cases hqk:q=k
   ·subst hqk
    have hrow:=hr h rfl
    have e1:Xl q stay fz q=stay:=by unfold Xl;rw [if_pos rfl]
    have e2:Xo q m.val ln q=m.val:=by unfold Xo;rw [if_pos rfl]
    have e3:Xn q f el q=f:=by unfold Xn;rw [if_pos rfl]
    rw [e1,e2,e3]
    cases hrow with
    | row _ b' c' n' hρh =>
      have hlh:=hH.live _ _ hρh
      rw [hbh] at hlh
      obtain ⟨r1,r2,r3,cs',vs,r4,r5,r6⟩:=hlh
      subst r1
      refine ⟨fun hs1=>?_,fun hs1=>.inr ⟨b',c',cs',vs,rfl,?_,r2,r3.2,r4,r5,fun q hq=>?_⟩⟩
      ·refine Rel.slc (.sym m.val) sz f (some ⟨b',0,none⟩) c' vs r2 (fun _=>⟨_,rfl,.inr ⟨hs1,c',_,hρh⟩,fun k hk q hq=>?_⟩) (fun k hk=>?_) (fun k hk=>(r6 k hk).2.2.1) (fun k hk=>(r6 k hk).2.1)
       ·rw [Dt]
        have:=(r6 k hk).2.2.2 q hq
        rw [<- this];simp [World.cell?,r4]
       ·exact RelL.still (C:=C) (C':=C') (fun b h=>Or.inl h) (fun _ _=>rfl) (r6 k hk).1 (Ca (r6 k hk).2.1)
      ·show Z0 C h i q stay b'=some (b,q)
       unfold Z0
       rw [hs1,hρh,hρ]
       simp
      ·exact ⟨RelL.still (C:=C) (C':=C') (fun b h=>Or.inl h) (fun _ _=>rfl) (r6 q hq).1 (Ca (r6 q hq).2.1),(r6 q hq).2⟩
    | rown _ hρh =>
      have hlh:=hH.live _ _ hρh
      rw [hbh] at hlh
      obtain ⟨h0,_⟩:m.val=0/\_:=hlh
      refine ⟨fun hs1=>?_,fun hs1=>.inl ⟨h0,rfl⟩⟩
      have:=Rel.slc (C:=C') (w:=w) (.sym m.val) sz f none 0 (fun _=>[]) (by show m.val<=0;omega) (fun h=>by have:0<m.val:=h;omega) (fun k hk=>by have:k<m.val:=hk;omega) (fun k hk=>by have:k<m.val:=hk;omega) (fun k hk=>by have:k<m.val:=hk;omega)
      rwa [show (LN.sym m.val).val=0 from h0] at this
   ·have nh:¬ GM (some (k,some h)) q:=fun ⟨x,hx⟩=>by
     injection hx with hx;injection hx with hx _;exact hqk hx.symm
    have e1:Xl k stay fz q=fz q:=by unfold Xl;rw [if_neg hqk]
    have e2:Xo k m.val ln q=ln q:=by unfold Xo;rw [if_neg hqk]
    have e3:Xn k f el q=el q:=by unfold Xn;rw [if_neg hqk]
    rw [e1,e2,e3]
    exact ⟨fun g=>((hn nh).1 g).still ht.imm ht.blk rfl,fun g=>SubOwn.mono hs (fun ok g'=>RelL.still ht.imm ht.blk g' (Ca ok)) ((hn nh).2 g)⟩
  ·rw [BK hij,BK hi,Gi]
   exact ht.brel (fun _ _ _ _=>rfl) hs (hH.live i p hρ)
 ·exact hH.inj _ _ _ _ _ _ _ _ (old _ _ g).2 (old _ _ g').2 hn
 ·obtain ⟨hi,g⟩:=old _ _ g
  refine ⟨(hH.fresh _ _ _ _ g).1,fun hb'=>?_⟩
  rcases hb' with hb'|⟨_,c',n',hρh⟩
  ·exact (hH.fresh _ _ _ _ g).2 hb'
  ·exact hH.inj _ _ _ _ _ _ _ _ g hρh hi rfl
 ·rcases hb' with hb'|⟨_,c',n',hρh⟩
  ·exact hH.ilt b hb'
  ·exact (hH.fresh _ _ _ _ hρh).1
 ·rcases XL hb' with hb'|⟨hs1,c',n',hρh⟩
  ·obtain ⟨s1,s2,s3,s4⟩:=hH.sub b x hb'
   refine ⟨s1,fun hI=>?_,fun i b' c n g=>s3 i b' c n (old _ _ g).2,s4⟩
   rcases hI with hI|⟨_,c2,n2,hρh⟩
   ·exact s2 hI
   ·exact s3 _ _ _ _ hρh rfl
  ·refine ⟨(hH.fresh _ _ _ _ hρh).1,fun hI=>?_,fun i b' c n g=>?_,?_⟩
   ·rcases hI with hI|⟨h2,_⟩
    ·exact (hH.fresh _ _ _ _ hρh).2 hI
    ·rw [hs1] at h2;cases h2
   ·obtain ⟨hi,g⟩:=old _ _ g
    exact hH.inj _ _ _ _ _ _ _ _ g hρh hi
   ·have hlh:=hH.live _ _ hρh
    rw [hbh] at hlh
    obtain ⟨_,_,_,cs',vs,r4,_⟩:=hlh
    exact ⟨_,_,_,r4⟩
 ·refine ⟨rfl,rfl,rfl,Nat.le_refl _,fun _ _ _ _=>rfl,fun b h=>.inl h,fun b hb'=>?_,fun i hi=>ne i (by omega),fun i b c m hi g=>.inl ⟨i,c,m,hi,(old _ _ g).2⟩,fun b x hb'=>?_⟩
  ·rcases hb' with hb'|⟨_,c,n,hρh⟩
   ·exact .inl hb'
   ·exact .inr (.inr ⟨h,c,n,AQ,hρh⟩)
  ·rcases XL hb' with hb'|⟨_,c,n,hρh⟩
   ·exact .inl ⟨x,hb'⟩
   ·exact .inr (.inr ⟨h,c,n,AQ,hρh⟩)
open Classical in
theorem oG {lo j:Nat} {e e':TypeId} {sz:Nat} {n:LN} {fz:Nat->Bool} {ln:Nat->Nat} {el:Nat->Nat->List AV} (hH:HR C hp w) (hb:A3 hp j=.rows e e' sz n fz ln el none) :
  ∃ C',Cext C w C' w/\HR C' (AM hp j (.row e 1 n (fun k=>[.slc (.sym (ln k)) sz (el k)]))) w/\Tr lo C w C' w:=by
 have hj:j<hp.length:=DL (by rw [hb];simp)
 cases hρ:C.ρ j with
 | none=>exact ⟨C,.refl _ _,hH.reb hj fun p hp=>(by rw [hρ] at hp;cases hp),.refl _ _ _⟩
 | some p =>
   have hl:=hH.live j p hρ
   rw [hb] at hl
   match p,hl with
   | .at b cap m,hl =>
   obtain ⟨a1,a2,a3,cs,hh,hz,hc⟩:=hl
   let C':Cx:=⟨C.ρ,fun q=>C.I q\/∃ k,C.O q=some (b,k),fun q=>if (∃ k,C.O q=some (b,k)) then none else C.O q⟩
   have hx:Cext C w C' w:=⟨fun _ _ h=>h,fun _ h=>.inl h,fun _ _=>rfl⟩
   have hO:∀ q x,C'.O q=some x->C.O q=some x/\¬ ∃ k,C.O q=some (b,k):=fun q x h=>by
    have h':(if (∃ k,C.O q=some (b,k)) then none else C.O q)=some x:=h
    split at h'
    ·cases h'
    ·rename_i hn;exact ⟨h',hn⟩
   have no:∀ q,¬ GM none q:=fun q ⟨x,hx⟩=>by cases hx
   refine ⟨C',hx,⟨fun i p hp'=>?_,hH.inj,fun i b' c n g=>⟨(hH.fresh _ _ _ _ g).1,fun hI=>?_⟩,fun q hI=>?_,fun q x hq=>?_⟩,?_⟩
   ·by_cases hi:i=j
    ·subst hi
     have hp2:C.ρ i=some p:=hp'
     rw [hρ] at hp2;injection hp2 with hp2;subst hp2
     rw [DI,if_pos ⟨rfl,hj⟩]
     refine ⟨a1,a2,⟨Nat.one_pos,a3.2⟩,cs,fun k=>(cs[k]?).toList,hh,by rw [hz,Nat.mul_one],fun k hk=>?_⟩
     obtain ⟨v,hv,_,hn⟩:=hc k hk
     have hn:=hn (no k)
     refine ⟨?_,rfl,by show (cs[k]?).toList.length=1;rw [hv];rfl,fun j hj=>?_⟩
     ·show RelL C' w _ (cs[k]?).toList
      rw [hv]
      refine .cons _ _ _ _ ?_ .nil
      cases hf:fz k with
      | true=>exact (hn.1 hf).mono hx
      | false =>
        rcases hn.2 hf with ⟨g1,g2⟩|⟨b',c',cs',vs,g1,g2,g3,g4,g5,g6,g7⟩
        ·subst g2
         have:=Rel.slc (C:=C') (w:=w) (.sym (ln k)) sz (el k) none 0 (fun _=>[]) (by show ln k<=0;omega) (fun h=>by have:0<ln k:=h;omega) (fun q hq=>by have:q<ln k:=hq;omega) (fun q hq=>by have:q<ln k:=hq;omega) (fun q hq=>by have:q<ln k:=hq;omega)
         rwa [show (LN.sym (ln k)).val=0 from g1] at this
        ·subst g1
         refine Rel.slc (.sym (ln k)) sz (el k) (some ⟨b',0,none⟩) c' vs g3 (fun _=>⟨_,rfl,.inr ⟨k,g2⟩,fun q hq i hi=>?_⟩) (fun q hq=>(g7 q hq).1.mono hx) (fun q hq=>(g7 q hq).2.2.1) (fun q hq=>(g7 q hq).2.1)
         rw [Dt]
         have:=(g7 q hq).2.2.2 i hi
         rw [<- this];simp [World.cell?,g5]
     ·have:j=0:=by omega
      subst this
      show cs[k*1+0]? = (cs[k]?).toList[0]?
      rw [hv];simpa using hv
    ·rw [BK hi]
     refine (hH.live i p hp').monoS hx fun q c m' e b2 k2 h2=>?_
     show (if (∃ k,C.O b2=some (b,k)) then none else C.O b2)=_
     rw [if_neg]
     ·exact h2
     ·rintro ⟨k3,h3⟩
      rw [h2] at h3;injection h3 with h3;injection h3 with h3 _
      exact hH.inj _ _ _ _ _ _ _ _ (by rw [<- e];exact hp') hρ hi h3
   ·rcases hI with hI|⟨k,hk⟩
    ·exact (hH.fresh _ _ _ _ g).2 hI
    ·exact (hH.sub _ _ hk).2.2.1 _ _ _ _ g rfl
   ·rcases hI with hI|⟨k,hk⟩
    ·exact hH.ilt _ hI
    ·exact (hH.sub _ _ hk).1
   ·obtain ⟨h1,h2⟩:=hO q x hq
    obtain ⟨s1,s2,s3,s4⟩:=hH.sub q x h1
    exact ⟨s1,fun hI=>hI.elim s2 h2,s3,s4⟩
   ·refine ⟨rfl,rfl,rfl,Nat.le_refl _,fun _ _ _ _=>rfl,fun b h=>.inl h,fun q hI=>?_,fun _ _=>rfl,fun i q c m hi g=>.inl ⟨i,c,m,hi,g⟩,fun q x hq=>.inl ⟨x,(hO q x hq).1⟩⟩
    rcases hI with hI|⟨k,hk⟩
    ·exact .inl hI
    ·exact .inr (.inl (.inr ⟨_,hk⟩))
def F8 (C:Cx) (j:Nat):Cx:=⟨fun i=>if i=j then none else C.ρ i,fun b=>C.I b\/∃ c n,C.ρ j=some (.at b c n),C.O⟩
theorem Dq {j i:Nat} (h:i≠j):(F8 C j).ρ i=C.ρ i:=by simp [F8,h]
theorem SS (C:Cx) (w:World) (j:Nat):Turn j .top C w (F8 C j) w:=⟨fun _ hi=>Dq hi,fun _ h=>.inl h,fun _ _=>rfl,fun v _=>.top v⟩
theorem GF {i j:Nat} (h:i≠j):Nat.beq i j=false:=by
 rcases hb:Nat.beq i j with _|_
 ·rfl
 ·exact absurd (Nat.eq_of_beq_eq_true hb) h
theorem cH {j:Nat} {H':A0} (hH:HR C hp w) (hl:∀ i p,i≠j->C.ρ i=some p->BRel (F8 C j) w p (A3 H' i)):HR (F8 C j) H' w:=by
 have no:∀ p,(F8 C j).ρ j=some p->False:=fun p h=>by simp [F8] at h
 have old:∀ i p,(F8 C j).ρ i=some p->i≠j/\C.ρ i=some p:=fun i p hp=>by
  by_cases hi:i=j
  ·subst hi;exact (no _ hp).elim
  ·rw [Dq hi] at hp;exact ⟨hi,hp⟩
 refine ⟨fun i p hp'=>hl i p (old i p hp').1 (old i p hp').2,fun i i' b c n b1 c1 n1 h h' hne=>hH.inj _ _ _ _ _ _ _ _ (old _ _ h).2 (old _ _ h').2 hne,fun i b c n h=>?_,fun b hb'=>?_,fun b x hb'=>?_⟩
 ·obtain ⟨hi,h⟩:=old _ _ h
  refine ⟨(hH.fresh _ _ _ _ h).1,fun hb'=>?_⟩
  rcases hb' with hb'|⟨c',n',h'⟩
  ·exact (hH.fresh _ _ _ _ h).2 hb'
  ·exact hH.inj _ _ _ _ _ _ _ _ h h' hi rfl
 ·rcases hb' with hb'|⟨c,n,h⟩
  ·exact hH.ilt b hb'
  ·exact (hH.fresh _ _ _ _ h).1
 ·obtain ⟨s1,s2,s3,s4⟩:=hH.sub b x hb'
  refine ⟨s1,fun hI=>?_,fun i b' c n h=>s3 i b' c n (old _ _ h).2,s4⟩
  rcases hI with hI|⟨c,n,h⟩
  ·exact s2 hI
  ·exact s3 _ _ _ _ h rfl
theorem cG {lo j:Nat} (AQ:lo<=j):Tr lo C w (F8 C j) w:=by
 refine ⟨rfl,rfl,rfl,Nat.le_refl _,fun _ _ _ _=>rfl,fun b h=>.inl h,fun b hb'=>?_,fun i hi=>Dq (by omega),fun i b c m hi h=>?_,fun b x h=>.inl ⟨x,h⟩⟩
 ·rcases hb' with hb'|⟨c,m,hρ⟩
  ·exact .inl hb'
  ·exact .inr (.inr ⟨j,c,m,AQ,hρ⟩)
 ·by_cases hij:i=j
  ·simp [F8,hij] at h
  ·rw [Dq hij] at h;exact .inl ⟨i,c,m,hi,h⟩
theorem j9 {j:Nat} {t:TypeId} {wd:Nat} {f:Nat->Nat->AV} (hH:HR C hp w) (hb:A3 hp j=.mat t wd (.lit 1) f) {x:AV} {v:Value} (h:Rel C w x v):Rel (F8 C j) w (paA j (.pa wd 1 (fun k=>[f 0 k])) x) v:=by
 have hI:∀ b,C.I b->(F8 C j).I b:=fun b h=>.inl h
 have hbk:∀ b,C.I b->w.heap[b]? = w.heap[b]?:=fun _ _=>rfl
 refine Rel.rec (C:=C) (w:=w) (motive_1:=fun x v _=>Rel (F8 C j) w (paA j (.pa wd 1 (fun k=>[f 0 k])) x) v) (motive_2:=fun m vs _=>RelL (F8 C j) w (paA.paL j (.pa wd 1 (fun k=>[f 0 k])) m) vs)
  ?_ ?_ ?_ ?_ ?_ ?_ ?_ ?_ ?_ ?_ ?_ ?_ ?_ ?_ ?_ ?_ ?_ ?_ ?_ ?_ ?_ h
 ·exact fun v=>.top v
 ·exact fun k a v=>.gd k _ v
 ·exact fun k n=>.li k n
 ·exact fun k n=>.si k n
 ·exact fun b=>.lb b
 ·exact fun b=>.sb b
 ·exact fun x=>.v x
 ·exact fun l vs _ h=>.agg _ vs h
 ·exact fun l vs _ h=>.tup _ vs h
 ·intro i off b c n h
  simp only [paA]
  by_cases hi:i=j
  ·subst hi;rw [show Nat.beq i i=true by simp];exact .top _
  ·rw [GF hi];exact .own i off b c n (by rw [Dq hi];exact h)
 ·intro i sz k off b c n h hk
  simp only [paA]
  by_cases hi:i=j
  ·subst hi;rw [show Nat.beq i i=true by simp]
   cases hko:Nat.beq k 0&&Nat.beq off 0 with
   | false=>exact .top _
   | true =>
     rw [Bool.and_eq_true] at hko
     have hk0:=Nat.eq_of_beq_eq_true hko.1
     have ho0:=Nat.eq_of_beq_eq_true hko.2
     subst hk0 ho0
     have hl:=hH.live _ _ h
     rw [hb] at hl
     obtain ⟨r1,r2,r3,cs,r4,r5,r6⟩:=hl
     have r1:1=n:=r1
     subst r1
     show Rel (F8 C i) w (.pa wd 1 (fun k=>[f 0 k])) (.pointer (some ⟨b,0*sz+0,none⟩))
     refine .pa wd 1 _ _ (fun k=>(cs[k]?).toList) ⟨⟨fun e=>by have:=r3.1;omega,fun e=>by cases e⟩,fun ad e=>by injection e with e;subst e;exact .inr ⟨c,1,h⟩⟩ (fun ad e k hk q hq=>?_) (fun k hk=>?_) (fun k hk=>?_) (fun k hk=>?_)
     ·have:q=0:=by omega
      subst this
      obtain ⟨_,v,hv,_⟩:=r6 0 (by omega) k hk
      injection e with e;subst e
      rw [Dt]
      simp only [Nat.zero_mul,Nat.zero_add] at hv
      simp [World.cell?,r4,hv]
     ·obtain ⟨ho,v,hv,hr⟩:=r6 0 (by omega) k hk
      simp only [Nat.zero_mul,Nat.zero_add] at hv
      show RelL _ _ _ (cs[k]?).toList
      rw [hv]
      exact .cons _ _ _ _ (hr.still hI hbk (LP ho)) .nil
     ·obtain ⟨ho,v,hv,hr⟩:=r6 0 (by omega) k hk
      simp only [Nat.zero_mul,Nat.zero_add] at hv
      show (cs[k]?).toList.length=1
      rw [hv];rfl
     ·obtain ⟨ho,_⟩:=r6 0 (by omega) k hk
      simp [DV,ho]
  ·rw [GF hi];exact .elt i sz k off b c n (by rw [Dq hi];exact h) hk
 ·intro i b c n h
  simp only [paA]
  by_cases hi:i=j
  ·subst hi;rw [show Nat.beq i i=true by simp];exact .top _
  ·rw [GF hi];exact .row i b c n (by rw [Dq hi];exact h)
 ·intro i n sz b c m h
  simp only [paA]
  by_cases hi:i=j
  ·subst hi;rw [show Nat.beq i i=true by simp];exact .top _
  ·rw [GF hi];exact .lsl i n sz b c m (by rw [Dq hi];exact h)
 ·intro i h
  simp only [paA]
  by_cases hi:i=j
  ·subst hi;rw [show Nat.beq i i=true by simp];exact .top _
  ·rw [GF hi];exact .rown i (by rw [Dq hi];exact h)
 ·intro n sz el A cap vs hcap hA hr hl hn _
  exact (Rel.slc n sz el A cap vs hcap hA hr hl hn).still hI hbk rfl
 ·intro l ad vs hr hI' hc hn _
  exact (Rel.xp l ad vs hr hI' hc hn).still hI hbk rfl
 ·exact fun f l m vs ws _ _ h h'=>.fn f _ _ vs ws h h'
 ·intro n sz el ad vs hI' hc hr hl hn _
  exact (Rel.pa n sz el ad vs hI' hc hr hl hn).still hI hbk rfl
 ·intro i b c n h
  simp only [paA]
  by_cases hi:i=j
  ·subst hi;rw [show Nat.beq i i=true by simp];exact .top _
  ·rw [GF hi];exact .mp i b c n (by rw [Dq hi];exact h)
 ·exact .nil
 ·exact fun a l v vs _ _ h h'=>.cons _ _ v vs h h'
theorem aR {j:Nat} {t:TypeId} {wd:Nat} {f:Nat->Nat->AV} (hH:HR C hp w) (hb:A3 hp j=.mat t wd (.lit 1) f):∀ {m:List AV} {vs:List Value},RelL C w m vs->RelL (F8 C j) w (paA.paL j (.pa wd 1 (fun k=>[f 0 k])) m) vs
 | _,_,.nil=>.nil
 | _,_,.cons _ _ _ _ h h'=>.cons _ _ _ _ (j9 hH hb h) (aR hH hb h')
theorem Wy (j:Nat) (p:AV):∀ (l:A0) (i:Nat),A3 (paH j p l) i=paB j p (A3 l i)
 | [],_=>rfl
 | _::_,0=>rfl
 | _::l,i+1=>Wy j p l i
theorem bh (j:Nat) (p:AV):∀ l:A0,(paH j p l).length=l.length
 | []=>rfl
 | _::l=>by simp [paH,bh j p l]
theorem oU {j:Nat} {t:TypeId} {wd:Nat} {f:Nat->Nat->AV} (hH:HR C hp w) (hb:A3 hp j=.mat t wd (.lit 1) f) {p:Pl} {b:Blk} (h:BRel C w p b):BRel (F8 C j) w p (paB j (.pa wd 1 (fun k=>[f 0 k])) b):=by
 have hm:BRel (F8 C j) w p (WO (EJ j .top) b):=(SS C w j).brel (fun _ _ _ _=>rfl) (fun b x hb=>⟨hb,rfl⟩) h
 match p,b,h with
 | .at q c m,.cells ty l',h =>
   obtain ⟨vs,hr,hh⟩:=h
   exact ⟨vs,aR hH hb hr,hh⟩
 | .at q c m,.row e sz k el,_=>exact hm
 | .at q c m,.mat _ _ _ _,_=>exact hm
 | .at q c m,.rows _ _ _ _ _ _ _ _,_=>exact hm
 | .at q c m,.tab _ _ _,_=>exact hm
 | .nil,.row e sz k el,_=>exact hm
theorem zq {j:Nat} {t:TypeId} {wd:Nat} {f:Nat->Nat->AV} (hH:HR C hp w) (hb:A3 hp j=.mat t wd (.lit 1) f):HR (F8 C j) (AM (paH j (.pa wd 1 (fun k=>[f 0 k])) hp) j .dead) w :=
 cH hH fun i p hi h=>by
  rw [BK hi,Wy]
  exact oU hH hb (hH.live i p h)
theorem Wr (j:Nat) (p:AV):∀ (fr:List AV) (t:Nat),A4 (paA.paL j p fr) t=paA j p (A4 fr t)
 | [],_=>rfl
 | _::_,0=>rfl
 | _::fr,t+1=>Wr j p fr t
theorem bg (j:Nat) (p:AV):∀ fr:List AV,(paA.paL j p fr).length=fr.length
 | []=>rfl
 | _::fr=>by simp [paA.paL,bg j p fr]
theorem zp {j n sz:Nat} {el:Nat->List AV} {a:AV} (h:∀ k b,a≠.gd k b):∀ k b,paA j (.pa n sz el) a≠.gd k b:=by
 intro k b e
 cases a<;>simp only [paA] at e<;>first|(cases e;done)|skip
 all_goals first|(split at e<;>cases e;done)|skip
 ·split at e
  ·split at e<;>cases e
  ·cases e
 ·exact h _ _ rfl
theorem zr {j:Nat} {t:TypeId} {wd:Nat} {f:Nat->Nat->AV} (hH:HR C hp w) (hb:A3 hp j=.mat t wd (.lit 1) f) {fr:List AV} {tm:Array Value} (h:FR [] C w fr tm):FR [] (F8 C j) w (paA.paL j (.pa wd 1 (fun k=>[f 0 k])) fr) tm :=
 ⟨by rw [bg];exact h.len,fun t=>by
  rw [Wr]
  refine ⟨j9 hH hb (h.get t).1,fun k b e=>?_⟩
  exact absurd e (zp (fun k b e'=>by obtain ⟨x,hx,_⟩:=(h.get t).2 k b e';simp at hx) k b)⟩
end
end Abs
end Go.Proofs.YtccgngldoinokaaGreat
