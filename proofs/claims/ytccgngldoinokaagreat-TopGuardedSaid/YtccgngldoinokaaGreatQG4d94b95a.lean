/- A part of the proof: no statement of its own. -/
import Derived.Test.YtccgngldoinokaaGreatQG7d4b84f6
import Derived.RangeFuncNested
import Derived.RangeFuncCalls
import Derived.RangeFuncLeaves
import Derived.OrdersIn
import Derived.Sort.LoopGhostIn
set_option linter.unusedSimpArgs false
set_option linter.unusedVariables false
namespace Go.Proofs.YtccgngldoinokaaGreat
namespace Abs
open Go Go.RowKit
def Fa (r:Option Nat):Fence:={ Fence.wide with round:=r }
structure Quiet (w w':World):Prop where
 os:w'.os=w.os
 tape:w'.tape=w.tape
 output:w'.output=w.output
 size:w.heap.size<=w'.heap.size
 keep:∀ k,k<w.heap.size->w'.heap[k]? = w.heap[k]?
def IterOK (P:Program) (gf:FuncId) (it:IN):Prop :=
 ∀ caps x,it caps=some x->(∀ p∈x.pre,p.ok)->∀ (C:Cx) (w:World) (lb:List Value),(∀ i,C.ρ i=none)->(∀ b,C.I b->b<w.heap.size)->RelL C w caps lb ->
   ∀ (l:Nat) (J Jx:Nat->World->Prop),(∀ k W W',J k W->Quiet W W'->J k W')->(∀ k W W',Jx k W->Quiet W W'->Jx k W') ->
   (∀ (k:Nat) (W0 W:World) (I1:Nat->Prop) (vs:List Value),k<x.n->J k W0->Quiet W0 W->(∀ b,C.I b->I1 b)->(∀ b,I1 b->C.I b\/(W0.heap.size<=b/\b<W.heap.size)) ->
    RelL ⟨fun _=>none,I1,fun _=>none⟩ W (x.it k) vs->YieldAt (Fa none) 0 P l ⟨vs⟩ W fun e W' =>
     (∀ b,C.I b->W'.heap[b]? = W.heap[b]?)/\W.heap.size<=W'.heap.size/\((e=.returned (.bool true)/\J (k+1) W')\/(e=.returned (.bool false)/\Jx k W'))) ->
   J 0 w->CallsIn (Fa none) 0 P gf ⟨.func (.yield l) #[] #[]::lb⟩ w fun e W'=>(∃ v,e=.returned v)/\(J x.n W'\/∃ k,k<x.n/\Jx k W')
def cz (P:Program) (gf:FuncId) (it:IN):Prop :=
 ∀ caps x,it caps=some x->(∀ p∈x.pre,p.ok)->∀ (lb:List Value) (l:Nat) (J Jx:Nat->World->Prop),(∀ k W W',J k W->Quiet W W'->J k W')->(∀ k W W',Jx k W->Quiet W W'->Jx k W') ->
   (∀ (k:Nat) (W:World),J k W->∃ I0:Nat->Prop,(∀ b,I0 b->b<W.heap.size)/\RelL ⟨fun _=>none,I0,fun _=>none⟩ W caps lb /\
    (k<x.n->∀ (W':World) (I1:Nat->Prop) (vs:List Value),Quiet W W'->(∀ b,I1 b->I0 b\/(W.heap.size<=b/\b<W'.heap.size))->RelL ⟨fun _=>none,I1,fun _=>none⟩ W' (x.it k) vs ->
     YieldAt (Fa none) 0 P l ⟨vs⟩ W' fun e W''=>(e=.returned (.bool true)/\J (k+1) W'')\/(e=.returned (.bool false)/\Jx k W''))) ->
   ∀ w,J 0 w->CallsIn (Fa none) 0 P gf ⟨.func (.yield l) #[] #[]::lb⟩ w fun e W'=>(∃ v,e=.returned v)/\(J x.n W'\/∃ k,k<x.n/\Jx k W')
def yL (P : Program) (f : FuncId) : Prop := ∃ fn, P.funcs[f]? = some fn ∧ (fn.name == "runtime.NumGoroutine") = false ∧ fn.body.isNone = false
def AK5 (P:Program) (f:Nat) (it:IN):Prop:=(f<1048576->IterOK P f it/\yL P f)/\∀ g,f=Ye g->cz P g it/\yL P g
structure SumsOK (P:Program) (S:Sums):Prop where
 one:∀ f s1,AL S.one f=some s1->∀ args pre res new,s1 args=some ⟨pre,res,new⟩->(∀ p∈pre,p.ok)->Fn P f args [] res new
 two:∀ f s2,AL S.two f=some s2->∀ args hp pre res hp' mv,s2 args hp=some ⟨pre,res,hp',mv⟩->(∀ p∈pre,p.ok)->FnM P f args hp res hp' mv
 eqs:∀ t ks,AL S.eqs t=some ks->EqOK P t ks
 bodyOne : ∀ f s1, AL S.one f = some s1 → ∃ fn, P.funcs[f]? = some fn ∧ (fn.name == "runtime.NumGoroutine") = false ∧ fn.body.isNone = false
 bodyTwo : ∀ f s2, AL S.two f = some s2 → ∃ fn, P.funcs[f]? = some fn ∧ (fn.name == "runtime.NumGoroutine") = false ∧ fn.body.isNone = false
 its:∀ f it,AL S.its f=some it->AK5 P f it
section
variable {P:Program} {S:Sums} {C C1:Cx} {w w':World} {H hp:A0}
def Cx.join (C:Cx) (base n:Nat) (C1:Cx) (I:Nat->Prop):Cx:=⟨fun i=>if base<=i/\i<base+n then C1.ρ (i-base) else C.ρ i,I,C.O⟩
theorem Eb {base n i:Nat} {I:Nat->Prop} (h:i<n):(C.join base n C1 I).ρ (base+i)=C1.ρ i:=by
 simp [Cx.join,h]
theorem H5 {base n i:Nat} {I:Nat->Prop} (h:i<base\/base+n<=i):(C.join base n C1 I).ρ i=C.ρ i:=by
 unfold Cx.join;simp only;rw [if_neg (by omega)]
theorem iF:∀ {b:Nat} {a:AV},LX a=true->shiftA b a=a:=by
 intro b a h;cases a<;>simp [LX] at h<;>rfl
theorem MP:∀ {b:Nat} {l:List AV},DV l=true->shiftA.shiftL b l=l
 | _,[],_=>rfl
 | b,a::l,h=>by simp [DV] at h;simp [shiftA.shiftL,iF h.1,MP h.2]
theorem ρ_lt {new:A0} (hH:HR C1 new w') {i:Nat} {p:Pl} (h:C1.ρ i=some p):i<new.length:=by
 rcases Nat.lt_or_ge i new.length with hlt|hge
 ·exact hlt
 ·have:=hH.live i p h;rw [Gj hge] at this;cases p<;>exact this.elim
theorem iG {new:A0} (hH:HR C1 new w') {base:Nat} {I:Nat->Prop} {a:AV} {v:Value} (h:Rel C1 w' a v) :
  ((shB a=true/\∀ b,C1.I b->I b)\/plainA a=true)->Rel (C.join base new.length C1 I) w' (shiftA base a) v:=by
 refine Rel.rec (C:=C1) (w:=w') (motive_1:=fun a v _=>((shB a=true/\∀ b,C1.I b->I b)\/plainA a=true)->Rel (C.join base new.length C1 I) w' (shiftA base a) v)
  (motive_2:=fun l vs _=>((shB.shBL l=true/\∀ b,C1.I b->I b)\/plainA.plainL l=true)->RelL (C.join base new.length C1 I) w' (shiftA.shiftL base l) vs)
  ?_ ?_ ?_ ?_ ?_ ?_ ?_ ?_ ?_ ?_ ?_ ?_ ?_ ?_ ?_ ?_ ?_ ?_ ?_ ?_ ?_ h
 ·exact fun v _=>.top v
 ·exact fun k a v _=>.gd k a v
 ·exact fun k n _=>.li k n
 ·exact fun k n _=>.si k n
 ·exact fun b _=>.lb b
 ·exact fun b _=>.sb b
 ·exact fun x _=>.v x
 ·exact fun l vs _ h ho=>.agg _ vs (h (by simpa [shB,plainA] using ho))
 ·exact fun l vs _ h ho=>.tup _ vs (h (by simpa [shB,plainA] using ho))
 ·exact fun i off b c n h _=>.own _ off b c n (by rw [Eb (ρ_lt hH h)];exact h)
 ·exact fun i sz k off b c n h hk ho=>by simp [shB,plainA] at ho
 ·exact fun i b c n h _=>.row _ b c n (by rw [Eb (ρ_lt hH h)];exact h)
 ·exact fun i n sz b c m h ho=>by simp [shB,plainA] at ho
 ·exact fun i h _=>.rown _ (by rw [Eb (ρ_lt hH h)];exact h)
 ·intro n sz el A cap vs hcap hA hr hl hn _ ho
  have hI:∀ b,C1.I b->I b:=by
   rcases ho with ho|ho
   ·exact ho.2
   ·simp [plainA] at ho
  exact (Rel.slc n sz el A cap vs hcap hA hr hl hn).change hI rfl
 ·intro l ad vs hr hI' hc hn _ ho
  have hI:∀ b,C1.I b->I b:=by
   rcases ho with ho|ho
   ·exact ho.2
   ·simp [plainA] at ho
  exact (Rel.xp l ad vs hr hI' hc hn).change hI rfl
 ·intro f l m vs ws h1 h2 h h' ho
  rcases ho with ⟨ho,hI⟩|ho
  ·simp [shB] at ho
   exact (Rel.fn f l m vs ws h1 h2).change hI (by simp [ownIn,ho])
  ·simp [plainA] at ho
 ·intro n sz el ad vs hI' hc hr hl hn _ ho
  have hI:∀ b,C1.I b->I b:=by
   rcases ho with ho|ho
   ·exact ho.2
   ·simp [plainA] at ho
  exact (Rel.pa n sz el ad vs hI' hc hr hl hn).change hI rfl
 ·exact fun i b c n h _=>.mp _ b c n (by rw [Eb (ρ_lt hH h)];exact h)
 ·exact fun _=>.nil
 ·intro a l v vs _ _ h h' ho
  have h1:((shB a=true/\∀ b,C1.I b->I b)\/plainA a=true)/\((shB.shBL l=true/\∀ b,C1.I b->I b)\/plainA.plainL l=true):=by
   rcases ho with ⟨ho,hI⟩|ho
   ·simp [shB.shBL] at ho;exact ⟨.inl ⟨ho.1,hI⟩,.inl ⟨ho.2,hI⟩⟩
   ·simp [plainA.plainL] at ho;exact ⟨.inr ho.1,.inr ho.2⟩
  exact .cons _ _ v vs (h h1.1) (h' h1.2)
theorem Nh {new:A0} (hH:HR C1 new w') {base:Nat} {I:Nat->Prop}:∀ {l:List AV} {vs:List Value},RelL C1 w' l vs ->
  ((shB.shBL l=true/\∀ b,C1.I b->I b)\/plainA.plainL l=true)->RelL (C.join base new.length C1 I) w' (shiftA.shiftL base l) vs
 | _,_,.nil,_=>.nil
 | _,_,.cons a l v vs h h',ho=>by
   have h1:((shB a=true/\∀ b,C1.I b->I b)\/plainA a=true)/\((shB.shBL l=true/\∀ b,C1.I b->I b)\/plainA.plainL l=true):=by
    rcases ho with ⟨ho,hI⟩|ho
    ·simp [shB.shBL] at ho;exact ⟨.inl ⟨ho.1,hI⟩,.inl ⟨ho.2,hI⟩⟩
    ·simp [plainA.plainL] at ho;exact ⟨.inr ho.1,.inr ho.2⟩
   exact .cons _ _ _ _ (iG hH h h1.1) (Nh hH h' h1.2)
theorem IS:∀ (b:Nat) (l:A0),(EE b l).length=l.length
 | _,[]=>rfl
 | b,x::l=>by cases x<;>simp [EE,IS b l]
theorem o9 {new:A0} (hH:HR C1 new w') {base:Nat} {I:Nat->Prop} (hok:(HX new=true/\∀ b,C1.I b->I b)\/(Dg new=true/\∀ p∈G2 new,p.ok)) :
  ∀ {i:Nat} {p:Pl},BRel C1 w' p (A3 new i)->BRel (C.join base new.length C1 I) w' p (A3 (EE base new) i):=by
 suffices key:∀ (l:A0),((HX l=true/\∀ b,C1.I b->I b)\/(Dg l=true/\∀ p∈G2 l,p.ok))->∀ {i:Nat} {p:Pl},BRel C1 w' p (A3 l i)->BRel (C.join base new.length C1 I) w' p (A3 (EE base l) i) from
  fun {i p}=>key new hok
 intro l
 induction l with
 | nil=>intro _ i p h;cases p<;>exact h.elim
 | cons b l ih =>
   intro ho i p h
   have htail:(HX l=true/\∀ b,C1.I b->I b)\/(Dg l=true/\∀ p∈G2 l,p.ok):=by
    rcases ho with ⟨ho,hI⟩|⟨ho,hn⟩
    ·left;cases b<;>simp [HX] at ho<;>exact ⟨by simp [ho],hI⟩
    ·right;cases b<;>simp [Dg] at ho<;>exact ⟨by simp [ho],fun p hp=>hn p (by first|exact hp|exact List.mem_cons_of_mem _ hp)⟩
   cases i with
   | succ i =>
     have:=ih htail (i:=i) (p:=p) h
     cases b<;>exact this
   | zero =>
     cases b with
     | dead=>cases p<;>exact h.elim
     | tab m sz el =>
       rcases ho with ⟨ho,hI⟩|⟨ho,_⟩
       ·cases p with
        | nil=>exact h.elim
        | «at» q cap n =>
          obtain ⟨es,ck,vs,hh,hs,hc⟩:=h
          refine ⟨es,ck,vs,hh,hs,fun k hk=>⟨?_,(hc k hk).2⟩⟩
          have hsh:=Nh (C:=C) (base:=base) (I:=I) hH (hc k hk).1 (by
           refine .inl ⟨?_,hI⟩
           have:=(hc k hk).2.1
           generalize el k=l' at this
           induction l' with
           | nil=>rfl
           | cons a l' ih'=>simp [DV] at this;simp [shB.shBL,ih' this.2];cases a<;>simp [LX] at this<;>rfl)
          rwa [MP (hc k hk).2.1] at hsh
       ·simp [Dg] at ho
     | cells t c =>
       cases p with
       | nil=>exact h.elim
       | «at» q cap n =>
         obtain ⟨vs,hr,hh⟩:=h
         refine ⟨vs,Nh hH hr ?_,hh⟩
         rcases ho with ⟨ho,hI⟩|⟨ho,hn⟩
         ·simp [HX] at ho;exact .inl ⟨ho.1,hI⟩
         ·simp [Dg] at ho;exact .inr ho.1
     | row e sz m el =>
       cases p with
       | nil=>exact h
       | «at» q cap n =>
         obtain ⟨h1,h2,h3,cs,vs,hh,hs,hc⟩:=h
         refine ⟨h1,h2,h3,cs,vs,hh,hs,fun k hk=>⟨?_,(hc k hk).2⟩⟩
         have hsh:=Nh (C:=C) (base:=base) (I:=I) hH (hc k hk).1 (by
          rcases ho with ⟨ho,hI⟩|⟨ho,hn⟩
          ·refine .inl ⟨?_,hI⟩
           have:=(hc k hk).2.1
           generalize el k=l' at this
           induction l' with
           | nil=>rfl
           | cons a l' ih'=>simp [DV] at this;simp [shB.shBL,ih' this.2];cases a<;>simp [LX] at this<;>rfl
          ·exact .inr (hn ⟨cy,(m.val,el)⟩ (List.mem_cons_self ..) k (by omega)))
         rwa [MP (hc k hk).2.1] at hsh
     | mat t wd m f=>rcases ho with ⟨ho,_⟩|⟨ho,_⟩<;>simp [HX,Dg] at ho
     | rows e e' sz m fz ln el hol=>rcases ho with ⟨ho,_⟩|⟨ho,_⟩<;>simp [HX,Dg] at ho
theorem GR {f : FuncId} {fn : Func} (hf : P.funcs[f]? = some fn) (hn : (fn.name == "runtime.NumGoroutine") = false) (hb : fn.body.isNone = false) (args : Array Value) (w : World) : (callFunc f args).run P w = .ok (.enter f args) w := by
 unfold callFunc
 simp only [Sem.run_bind,run_program,Result.andThen_ok,hf,hn,hb,Bool.false_eq_true,if_false]
 rfl
theorem Y4 {w':World} {all:Bool} (h:Since 0 (callee C w all) w C1 w'):(∀ k,k<w.heap.size->w'.heap[k]? = w.heap[k]?)/\∀ i b c n,C1.ρ i=some (.at b c n)->w.heap.size<=b :=
 ⟨fun k hk=>h.keep k hk fun i b c n hi=>by omega,fun i b c n hi=>h.own i b c n (Nat.zero_le _) hi⟩
theorem Q9 {new:A0} {all:Bool} {res:AV} {v:Value} (hH:HR C H w) (hf:Free C H hp (EE hp.length new)) (h1:HR C1 new w') (hr:Rel C1 w' res v) (hs:Since 0 (callee C w all) w C1 w')
  (hok:(all=false/\shB res=true/\HX new=true)\/(all=true/\plainA res=true/\Dg new=true/\∀ p∈G2 new,p.ok)) :
  ∃ C',HR C' H w'/\Rel C' w' (shiftA hp.length res) v/\Grow hp.length (EE hp.length new).length C w C' w':=by
 obtain ⟨hkeep,hown⟩:=Y4 hs
 have hIall:all=false->∀ b,C1.I b->C.I b\/w.heap.size<=b:=fun ha b hb=>by
  subst ha;exact hs.imm' b hb
 have hIC:all=false->∀ b,C.I b->C1.I b:=fun ha b hb=>by
  subst ha;exact hs.imm b hb
 rw [IS]
 let I:Nat->Prop:=fun b=>if all then C.I b else C1.I b
 have hIlt:∀ b,I b->b<w'.heap.size:=fun b hb=>by
  cases ha:all with
  | true=>simp [I,ha] at hb;exact Nat.lt_of_lt_of_le (hH.ilt b hb) hs.size
  | false=>simp [I,ha] at hb;exact h1.ilt b hb
 have hIimm:∀ b,C.I b->I b:=fun b hb=>by
  cases ha:all with
  | true=>simpa [I,ha] using hb
  | false=>simp [I,ha];exact hIC ha b hb
 have hIimm':∀ b,I b->C.I b\/w.heap.size<=b:=fun b hb=>by
  cases ha:all with
  | true=>simp [I,ha] at hb;exact .inl hb
  | false=>simp [I,ha] at hb;exact hIall ha b hb
 have hkey:(shB res=true/\∀ b,C1.I b->I b)\/plainA res=true:=by
  rcases hok with ⟨ha,h,_⟩|⟨ha,h,_⟩
  ·exact .inl ⟨h,fun b hb=>by simpa [I,ha] using hb⟩
  ·exact .inr h
 have hkey2:(HX new=true/\∀ b,C1.I b->I b)\/(Dg new=true/\∀ p∈G2 new,p.ok):=by
  rcases hok with ⟨ha,_,h⟩|⟨ha,_,h⟩
  ·exact .inl ⟨h,fun b hb=>by simpa [I,ha] using hb⟩
  ·exact .inr h
 have hg:Grow hp.length new.length C w (C.join hp.length new.length C1 I) w' :=
  ⟨hs.os,hs.tape,hs.output,hs.size,hkeep,hIimm,hIimm',fun i hi=>H5 hi,fun i b c m hge hlt h=>(by
   obtain ⟨t,rfl⟩:=Nat.exists_eq_add_of_le hge
   rw [Eb (by omega)] at h
   exact hown _ _ _ _ h),fun _=>rfl⟩
 have hfree:∀ i,hp.length<=i->i<hp.length+new.length->C.ρ i=none:=fun i hge hlt=>by
  obtain ⟨t,rfl⟩:=Nat.exists_eq_add_of_le hge
  exact (hf t (by rw [IS];omega)).2
 have hx:=hg.cext hfree hH.ilt
 refine ⟨_,⟨fun i p hi=>?_,fun i j b c n b' c' n' hi hj hne=>?_,fun i b c n hi=>?_,hIlt,fun b x hb=>?_⟩,iG h1 hr hkey,hg⟩
 ·by_cases hr:hp.length<=i/\i<hp.length+new.length
  ·obtain ⟨t,rfl⟩:=Nat.exists_eq_add_of_le hr.1
   rw [Eb (by omega)] at hi
   rw [(hf t (by rw [IS];omega)).1]
   exact o9 h1 hkey2 (h1.live _ _ hi)
  ·rw [H5 (by omega)] at hi
   refine (hH.live i p hi).mono hx (fun q c m hq=>hkeep q ?_) fun b x hb=>⟨hb,hkeep b (hH.sub b x hb).1⟩
   subst hq;exact (hH.fresh _ _ _ _ hi).1
 ·by_cases hr:hp.length<=i/\i<hp.length+new.length
  ·obtain ⟨t,rfl⟩:=Nat.exists_eq_add_of_le hr.1
   rw [Eb (by omega)] at hi
   have:=hown _ _ _ _ hi
   by_cases hr':hp.length<=j/\j<hp.length+new.length
   ·obtain ⟨t',rfl⟩:=Nat.exists_eq_add_of_le hr'.1
    rw [Eb (by omega)] at hj
    exact h1.inj _ _ _ _ _ _ _ _ hi hj (by omega)
   ·rw [H5 (by omega)] at hj
    have:=(hH.fresh _ _ _ _ hj).1;omega
  ·rw [H5 (by omega)] at hi
   have:=(hH.fresh _ _ _ _ hi).1
   by_cases hr':hp.length<=j/\j<hp.length+new.length
   ·obtain ⟨t',rfl⟩:=Nat.exists_eq_add_of_le hr'.1
    rw [Eb (by omega)] at hj
    have:=hown _ _ _ _ hj;omega
   ·rw [H5 (by omega)] at hj
    exact hH.inj _ _ _ _ _ _ _ _ hi hj hne
 ·by_cases hr:hp.length<=i/\i<hp.length+new.length
  ·obtain ⟨t,rfl⟩:=Nat.exists_eq_add_of_le hr.1
   rw [Eb (by omega)] at hi
   refine ⟨(h1.fresh _ _ _ _ hi).1,fun hI=>?_⟩
   rcases hIimm' b hI with h|h
   ·have:=hH.ilt b h;have:=hown _ _ _ _ hi;omega
   ·cases ha:all with
    | true =>
      simp [Cx.join,I,ha] at hI
      have:=hH.ilt b hI;omega
    | false =>
      simp [Cx.join,I,ha] at hI
      exact (h1.fresh _ _ _ _ hi).2 hI
  ·rw [H5 (by omega)] at hi
   have h0:=hH.fresh _ _ _ _ hi
   refine ⟨Nat.lt_of_lt_of_le h0.1 hs.size,fun hI=>?_⟩
   rcases hIimm' b hI with h|h
   ·exact h0.2 h
   ·omega
 ·obtain ⟨s1,s2,s3,s4⟩:=hH.sub b x hb
  refine ⟨Nat.lt_of_lt_of_le s1 hs.size,fun hI=>?_,fun i b' c n hi=>?_,s4.keep (hkeep b s1)⟩
  ·rcases hIimm' b hI with h|h
   ·exact s2 h
   ·omega
  ·by_cases hr:hp.length<=i/\i<hp.length+new.length
   ·obtain ⟨t,rfl⟩:=Nat.exists_eq_add_of_le hr.1
    rw [Eb (by omega)] at hi
    have:=hown _ _ _ _ hi;omega
   ·rw [H5 (by omega)] at hi
    exact s3 i b' c n hi
end
end Abs
end Go.Proofs.YtccgngldoinokaaGreat

namespace Go.Proofs.YtccgngldoinokaaGreat
namespace Abs
open Go Go.RowKit
def Ran (P:Program) (o:Oper) (σ:Operand->Value) (w:World) (K:Value->World->Prop):Prop :=
 (∃ v w',(execOp σ o).run P w=.ok (.value v) w'/\K v w') \/
 (∃ f args,(execOp σ o).run P w=.ok (.enter f args) w/\Calls P f args w fun e w'=>∃ v,e=.returned v/\K v w') \/
 (∃ w',(execOp σ o).run P w=.ok .skip w'/\K undef w')
theorem Ran.mono {P:Program} {o:Oper} {σ:Operand->Value} {w:World} {K K':Value->World->Prop} (h:Ran P o σ w K) (hk:∀ v w',K v w'->K' v w'):Ran P o σ w K':=by
 rcases h with ⟨v,w',h1,h2⟩|⟨f,args,h1,h2⟩|⟨w',h1,h2⟩
 ·exact .inl ⟨v,w',h1,hk _ _ h2⟩
 ·exact .inr (.inl ⟨f,args,h1,h2.mono fun e w' ⟨v,he,h⟩=>⟨v,he,hk _ _ h⟩⟩)
 ·exact .inr (.inr ⟨w',h1,hk _ _ h2⟩)
theorem Se {P:Program} {f:FuncId} {args:Array Value} {w:World} {R:Ending->World->Prop} {n:Nat} (r:Option Nat) (h:Calls P f args w R):CallsIn (Fa r) n P f args w R:=by
 cases r with
 | none=>exact callsIn_wide.2 h
 | some l=>exact CallsIn.inRound (F:=Fence.wide) l (callsIn_wide.2 h)
theorem Ran.nodefer {P:Program} {o:Oper} {σ:Operand->Value} {w:World} {K:Value->World->Prop} (h:Ran P o σ w K):∀ c,o.op≠.defer c:=by
 intro c hc
 have key:∀ x,(execOp σ o).run P w=x->(∃ d w',x=.ok (.defer d) w')\/∃ hh w',x=.halt hh w':=by
  intro x hx
  unfold execOp at hx
  rw [hc] at hx
  simp only [Sem.run_bind] at hx
  cases hr:(resolve σ c o.type).run P w with
  | ok d w'=>rw [hr] at hx;exact .inl ⟨d,w',by rw [<- hx];rfl⟩
  | halt hh w'=>rw [hr] at hx;exact .inr ⟨hh,w',by rw [<- hx];rfl⟩
 rcases h with ⟨v,w',h,_⟩|⟨f,args,h,_⟩|⟨w',h,_⟩
 all_goals (rcases key _ h with ⟨d,w'',e⟩|⟨hh,w'',e⟩<;>cases e)
theorem Ran.wpIn {P:Program} {o:Oper} {a:Act} {w:World} {r:Option Nat} {n:Nat} {next:Act->World->Prop} {Q:Exit->Act->World->Prop} (h:Ran P o a.eval w fun v w'=>next (a.put o.dst v) w'):o.wpIn (Fa r) n P a w next Q:=by
 refine ⟨fun _ _=>trivial,?_⟩
 rw [Oper.semAt_eq _ _ _ h.nodefer]
 rcases h with ⟨v,w',h1,h2⟩|⟨f,args,h1,h2⟩|⟨w',h1,h2⟩
 ·rw [h1];exact h2
 ·rw [h1]
  refine ⟨fun h=>(by cases h),Se r (h2.mono ?_)⟩
  rintro e w' ⟨v,he,h⟩
  subst he;exact h
 ·rw [h1];exact h2
section
variable {P:Program} {S:Sums} {C:Cx} {w:World} {H hp:A0} {ρ:Operand->AV} {σ:Operand->Value}
theorem HT:∀ {l:List Operand},(∀ x∈l,Rel C w (ρ x) (σ x))->RelL C w (QL ρ l) (l.map σ)
 | [],_=>.nil
 | x::l,h=>.cons _ _ _ _ (h x (by simp)) (HT fun y hy=>h y (by simp [hy]))
theorem P2 {a:AV} {v:Value} (h:Rel C w a v) (hn:Fp a=true):v=.slice none 0 0:=by
 unfold Fp at hn
 split at hn
 ·cases h;rfl
 ·cases hn
theorem eC {t ty:TypeId} {s x:AV} {u v:Value} (hH:HR C H w) (hpre:Pre hp H) (hs:Rel C w s u) (hx:Rel C w x v):Md P S C w H hp (Builtin.append_ #[t,t] ty #[u,v]) (F1 P S hp t s x):=by
 unfold F1
 split
 ·rename_i e hu
  split
  ·rename_i hn
   rw [P2 hx hn]
   split
   ·rename_i k hsl hsz
    obtain ⟨i,hi⟩:=B0 hsz
    have key:∀ A (n c:Nat),n<=c->(Builtin.append_ #[t,t] ty #[.slice A n c,.slice none 0 0]).run P w=.ok (.slice A n c) w:=fun A n c hc=>by
     cases A with
     | none=>simp [Builtin.append_,run_underlying hu,sizeOf,typeInfo,hi,Builtin.lenOf,hc,Builtin.firstCells]
     | some a=>simp [Builtin.append_,run_underlying hu,sizeOf,typeInfo,hi,Builtin.lenOf,hc,Builtin.firstCells,storeCells]
    refine Vd.md (Vd.val ?_ hs) hH
    unfold AG3 at hsl
    split at hsl
    ·rename_i j
     cases hs with
     | row _ b c n hρ =>
       refine key _ _ _ ?_
       have hl:=hH.live _ _ hρ
       split at hsl
       ·rename_i hb
        obtain ⟨hlt,hB⟩:=hpre.old hb (by simp)
        rw [hB] at hl;exact hl.2.1
       ·cases hsl
     | rown _ hρ=>exact key _ _ _ (Nat.le_refl _)
    ·cases hs with|slc _ _ _ A cap vs hcap hA hr hl hn=>exact key _ _ _ hcap
    ·rw [P2 hs hsl];exact key _ _ _ (Nat.le_refl _)
   ·exact .fail _
  ·split
   ·exact .fail _
   ·rename_i m sz elx hr
    split
    ·rename_i hsz hnz
     obtain rfl:sz=A9 P e:=Nat.eq_of_beq_eq_true hsz
     have hpos:0<A9 P e:=by
      rcases Nat.eq_zero_or_pos (A9 P e) with h|h
      ·rw [h] at hnz;cases hnz
      ·exact h
     split
     ·rename_i hsn
      rw [P2 hs hsn]
      split
      ·rename_i z hz
       exact .need fun hb=>U5 hH hpre hu hx hr rfl hpos hz hb
      ·exact .fail _
     ·intro a new hq
      exfalso
      revert hq
      repeat' split
      all_goals (intro hq;first|exact hq.fail_inv|(have:=hq.need_inv.2;cases this))
    ·exact .fail _
 ·exact .fail _
theorem Md.ran {o:Oper} {m:Sem Value} {r:AR} (hm:Md P S C w H hp m r) (hx:(execOp σ o).run P w=((m >>= fun v=>pure (.value v)):Sem Next).run P w) {a:AV} {new:A0} (hq:PO S hp r a new) (hf:Free C H hp new) :
  Ran P o σ w fun v w'=>∃ C',HR C' H w'/\Rel C' w' a v/\Grow hp.length new.length C w C' w':=by
 obtain ⟨v,w',C',hr,h1,h2,h3⟩:=hm a new hq hf
 exact .inl ⟨v,w',by rw [hx];simp [hr],C',h1,h2,h3⟩
theorem PO.callA {d:Nat} {hp0:A0} {g:FuncId} {args:List AV} {a:AV} {new:A0} (h:PO S hp (Abs.callA S g d hp0 args) a new):PO S hp (.call g args) a new:=by
 cases d with
 | zero=>exact h.fail_inv.elim
 | succ d =>
   rw [Abs.callA] at h
   split at h
   ·exact h
   ·cases h
theorem Mq (hS:SumsOK P S) (o:Oper) (hops:∀ x∈o.op.operands,Rel C w (ρ x) (σ x)) (hH:HR C H w) (hpre:Pre hp H) {a:AV} {new:A0} (hq:PO S hp (Hk P S ρ hp o.op) a new) (hf:Free C H hp new) :
  Ran P o σ w fun v w'=>∃ C',HR C' H w'/\Rel C' w' a v/\Grow hp.length new.length C w C' w':=by
 obtain ⟨dst,op,type,pos,after,guard⟩:=o
 cases op<;>simp only [Hk] at hq<;>simp only [Op.operands] at hops
 case move x=>exact Md.ran (m:=pure (σ x)) ((Vd.val (by simp) (hops x (by simp))).md hH) (by simp [execOp]) hq hf
 case assign x=>exact Md.ran (m:=pure (σ x)) ((Vd.val (by simp) (hops x (by simp))).md hH) (by simp [execOp]) hq hf
 case alloc t=>exact (eD hS.eqs hH).ran rfl hq hf
 case box t x=>exact (v7 hH (hops x (by simp))).ran rfl hq hf
 case build t parts =>
  refine ((gN (P:=P) (t:=t) (parts:=parts.map fun (i,x)=>(i,σ x)) ?_).md hH).ran rfl hq hf
  rw [Array.toList_map]
  exact IY _ fun x hx=>hops _ (by simp;exact ⟨x.1,by simpa using hx⟩)
 case buildSlice t n parts =>
  have hp':PRel C w (Kb ρ parts.toList) (parts.map fun (i,x)=>(i,σ x)).toList:=by
   rw [Array.toList_map]
   exact IY _ fun x hx=>hops _ (by simp;exact ⟨x.1,by simpa using hx⟩)
  cases hrow:rowIn.rowInL ((Kb ρ parts.toList).map (·.2)) with
  | none=>exact (KQ hH hp' 19 hrow).ran rfl hq hf
  | some j =>
    exfalso
    rw [CW] at hq
    simp only [hrow] at hq
    cases hs:OY hp j<;>simp only [hs] at hq<;>cases hq
 case load t x =>
  have hx:=hops x (by simp)
  cases hl:Fe P hp t (ρ x) with
  | val b =>
    obtain ⟨u,hu,hr⟩:=VH (P:=P) hH hpre hx hl
    rw [hl] at hq
    exact ((Vd.val hu hr).md hH).ran rfl hq hf
  | fail=>rw [hl] at hq;exact hq.fail_inv.elim
  | need p r =>
    rw [hl] at hq
    obtain ⟨hp',hq'⟩:=hq.need_inv
    obtain ⟨b,u,rfl,hu,hr⟩:=dS (P:=P) hH hpre hx hl hp'
    exact ((Vd.val hu hr).md hH).ran rfl hq' hf
  | _ =>
    exfalso
    revert hl
    unfold Fe Ev
    repeat' split
    all_goals (intro hl;cases hl)
 case store t x y =>
  exfalso
  revert hq
  unfold Fh
  repeat' split
  all_goals (intro hq;first|(obtain ⟨_,h⟩:=hq.need_inv;cases h;done)|(cases hq;done))
 case nilCheck x =>
  have hx:=hops x (by simp)
  cases hp':NK (ρ x) with
  | true =>
    simp only [hp'] at hq
    obtain ⟨ad,hv⟩:=Gg hx hp'
    refine Md.ran (m:=pure (σ x)) ((Vd.val (by simp) hx).md hH) ?_ hq hf
    simp [execOp,hv]
  | false =>
    simp only [hp'] at hq
    split at hq
    ·rename_i f l m hfn
     rw [hfn] at hx
     generalize hv:σ x=u at hx
     cases hx with
     | fn _ _ _ vs ws h h' =>
       refine Md.ran (m:=pure (.func (.func f) ⟨vs⟩ ⟨ws⟩)) ((Vd.val (by simp) (.fn _ _ _ _ _ h h')).md hH) ?_ hq hf
       simp [execOp,hv]
    ·rename_i n sz el hfn
     rw [hfn] at hx
     have hn0:0<n:=hq.need_inv.1
     generalize hv:σ x=u at hx
     cases hx with
     | pa _ _ _ A vs hI hc hr hl hn =>
       cases A with
       | none=>have:=hI.1.2 rfl;omega
       | some ad =>
         refine Md.ran (m:=pure (.pointer (some ad))) ((Vd.val (by simp) (.pa n sz el (some ad) vs hI hc hr hl hn)).md hH) ?_ hq.need_inv.2 hf
         simp [execOp,hv]
    ·exact hq.fail_inv.elim
 case binOp op t x y yt =>
  refine ((gO (P:=P) (t:=t) (x:=x) (y:=y) hS.eqs (hops x (by simp)) (hops y (by simp))).md hH).ran ?_ hq hf
  rfl
 case unOp op t x =>
  cases op
  case neg=>exact ((tN (P:=P) (hops x (by simp))).md hH).ran rfl hq hf
  case not=>exact ((tM (P:=P) (hops x (by simp))).md hH).ran rfl hq hf
  all_goals exact (PO.fail_inv hq).elim
 case convert s d x=>exact ((Xj (P:=P) (hops x (by simp))).md hH).ran rfl hq hf
 case fieldAddr t x f=>exact ((L8 (P:=P) (hops x (by simp))).md hH).ran rfl hq hf
 case index t x i=>exact ((gL (P:=P) (hops x (by simp)) (hops i (by simp))).md hH).ran rfl hq hf
 case field t x f=>exact ((gM (P:=P) (hops x (by simp))).md hH).ran rfl hq hf
 case indexAddr t x i=>exact ((TB (P:=P) hH hpre (hops x (by simp)) (hops i (by simp))).md hH).ran rfl hq hf
 case extract x i=>exact ((Xi (P:=P) (hops x (by simp))).md hH).ran rfl hq hf
 case makeMap t r =>
  cases r with
  | none=>exact (YZ (P:=P) hH).ran rfl hq hf
  | some r=>exact (PO.fail_inv hq).elim
 case lookup t x k ok=>exact ((Y_ (P:=P) hS.eqs hH hpre (hops x (by simp)) (hops k (by simp))).md hH).ran rfl hq hf
 case mapUpdate t m k x =>
  exfalso
  revert hq
  unfold EZ
  repeat' split
  all_goals (intro hq;first|(exact hq.fail_inv;done)|(obtain ⟨_,hq⟩:=hq.need_inv;obtain ⟨_,hq⟩:=hq.need_inv;cases hq))
 case makeFunc fn first cap =>
  have h1:=HT (C:=C) (w:=w) (ρ:=ρ) (σ:=σ) (l:=first.toList) fun x hx=>hops x (by simp at hx;simp [hx])
  have h2:=HT (C:=C) (w:=w) (ρ:=ρ) (σ:=σ) (l:=cap.toList) fun x hx=>hops x (by simp at hx;simp [hx])
  have e1:first.map σ=⟨first.toList.map σ⟩:=by rw [<- Array.toList_map]
  have e2:cap.map σ=⟨cap.toList.map σ⟩:=by rw [<- Array.toList_map]
  refine Md.ran (m:=pure (.func fn (first.map σ) (cap.map σ))) ((Vd.val (v:=.func fn (first.map σ) (cap.map σ)) (by simp) ?_).md hH) rfl hq hf
  rw [e1,e2]
  exact .fn _ _ _ _ _ h1 h2
 case makeSlice t n c =>
  have hn:=hops n (by simp)
  have hc:=hops c (by simp)
  refine Md.ran (m:=Instr.makeSlice t (σ n) (σ c)) ?_ rfl hq hf
  unfold PM
  split
  ·rename_i e hu
   split
   ·rename_i wd z hbt
    split
    ·rename_i kn kc hzz hkn hkc
     rw [AJ hn hkn,AJ hc hkc]
     obtain ⟨e2,hu2,hw⟩:=Su hbt
     have hz:=cE hS.eqs hzz hbt
     exact .need fun hb=>jR hH hu hz (by omega) hb.1 hb.2.1 hb.2.2 (by have h0:0<=AA (ρ n):=hb.1;simp [LN.val,Iz];omega)
    ·exact .fail _
   split
   ·exact .fail _
   ·rename_i z hz
    split
    ·exact .fail _
    ·rename_i hok
     split
     ·rename_i k x hk
      split
      ·rename_i h0 hs
       rw [hk] at hn
       generalize hv:σ n=u at hn
       cases hn
       refine .need fun hb=>?_
       split
       ·rename_i kc hkc
        rw [AJ hc hkc]
        have h0':0<=x:=by simpa using h0
        exact bC hH hu hz hok (Nat.pos_of_ne_zero fun h=>by simp [h] at hs) h0' hb.1 hb.2 (by simp [LN.val];omega)
       ·exact .fail _
      ·exact .fail _
     ·rename_i k x hk
      split
      ·rename_i hs
       rw [hk] at hn
       generalize hv:σ n=u at hn
       cases hn
       refine .need fun hb=>?_
       split
       ·rename_i kc hkc
        rw [AJ hc hkc]
        exact bC hH hu hz hok (Nat.pos_of_ne_zero fun h=>by simp [h] at hs) hb.1 hb.2.1 hb.2.2 (by simp [LN.val,Iz];omega)
       ·exact .fail _
      ·exact .fail _
     ·exact .fail _
  ·exact .fail _
 case slice t x lo hi mx =>
  refine Md.ran (m:=Instr.sliceAt t (σ x) (lo.map σ) (hi.map σ) (mx.map σ)) ?_ rfl hq hf
  unfold Y3
  split
  ·rename_i e hmx hu
   have hmx':mx=none:=by cases mx<;>simp_all
   subst hmx'
   have hx:=hops x (by simp)
   split
   ·rename_i n sz el hxe
    split
    ·rename_i hsz hnz
     rw [hxe] at hx
     obtain rfl:sz=A9 P e:=Nat.eq_of_beq_eq_true hsz
     obtain ⟨ie,hie⟩:∃ ie,P.info? e=some ie:=by
      cases hz:A9 P e with
      | zero=>rw [hz] at hnz;cases hnz
      | succ n=>exact B0 hz
     refine Vd.md (Qe (P:=P) hu rfl hie hx ?_ ?_) hH
     ·cases lo with
      | none=>exact .inl ⟨rfl,rfl⟩
      | some a=>exact .inr ⟨_,_,rfl,rfl,hops a (by simp)⟩
     ·cases hi with
      | none=>exact .inl ⟨rfl,rfl⟩
      | some a=>exact .inr ⟨_,_,rfl,rfl,hops a (by cases lo<;>simp)⟩
    ·exact .fail _
   ·split
    ·split
     ·intro a new hq;cases hq
     ·exact .fail _
    ·exact .fail _
   ·exact .fail _
  ·rename_i n e hmx hu
   have hmx':mx=none:=by cases mx<;>simp_all
   subst hmx'
   have hx:=hops x (by simp)
   split
   ·rename_i l s AQ mN hxe hsz
    have hlo':lo=none:=by cases lo<;>simp_all
    have hhi':hi=none:=by cases hi<;>simp_all
    subst hlo' hhi'
    rw [hxe] at hx
    split
    ·rename_i hc
     simp only [Bool.and_eq_true] at hc
     exact Vd.md (Uq (P:=P) hu hsz hx (Nat.le_of_ble_eq_true hc.1) hc.2) hH
    ·exact .fail _
   ·exact .fail _
  ·exact .fail _
 case call c =>
  obtain ⟨cal,args,tys⟩:=c
  cases cal with
  | value f =>
    simp only at hq
    have hfv:=hops f (by simp [Call.operands])
    split at hq
    ·rename_i g first cap hfe
     rw [hfe] at hfv
     generalize hv:σ f=u at hfv
     cases hfv with
     | fn _ _ _ vs ws h h' =>
       have hargs:=HT (C:=C) (w:=w) (ρ:=ρ) (σ:=σ) (l:=args.toList) fun x hx=>hops x (by simp [Call.operands];right;simpa using hx)
       have hall:RelL C w (Es first (Es (QL ρ args.toList) cap)) (vs++(args.toList.map σ++ws)):=by
        rw [F2,F2];exact h.append (hargs.append h')
       replace hq:=hq.callA
       cases hq with
       | call _ _ s1 pre res new h2 h1 hs hg hpre' hcn =>
         obtain ⟨fn,hfn,hname,hbody⟩:=hS.bodyOne _ _ h1
         have hfnc:=hS.one _ _ h1 _ _ _ _ hs hpre'
         right;left
         refine ⟨g,⟨vs++(args.toList.map σ++ws)⟩,?_,?_⟩
         ·have e1:(⟨vs⟩:Array Value)++args.map σ++⟨ws⟩=⟨vs++(args.toList.map σ++ws)⟩:=by
           apply Array.ext';simp
          have:=GR (P:=P) hfn hname hbody ⟨vs++(args.toList.map σ++ws)⟩ w
          simp only [execOp,resolve,Sem.run_bind]
          simp only [hv,Deferred.ofValue,Sem.run_pure,Result.andThen_ok,invoke,e1]
          exact this
         ·have hexp:∀ all:Bool,(all=true\/ownIn.ownInL (Es first (Es (QL ρ args.toList) cap))=false) ->
            RelL (callee C w all) w ((Es first (Es (QL ρ args.toList) cap)).map (GC 5 hp)) (vs++(args.toList.map σ++ws)):=by
           intro all
           generalize Es first (Es (QL ρ args.toList) cap)=l at hall
           generalize vs++(args.toList.map σ++ws)=us at hall
           induction hall using RelL.rec (motive_1:=fun _ _ _=>True) with
           | nil=>intro _;exact .nil
           | cons b l u us h0 h1 _ ih =>
             intro ho
             refine .cons _ _ _ _ (qK hH hpre 5 h0 ?_) (ih ?_)
             ·rcases ho with ho|ho
              ·exact .inl ho
              ·simp [ownIn.ownInL] at ho;exact .inr ho.1
             ·rcases ho with ho|ho
              ·exact .inl ho
              ·simp [ownIn.ownInL] at ho;exact .inr ho.2
           | _=>trivial
          have hH0:∀ all,HR (callee C w all) [] w:=fun all=>⟨fun i p h=>by simp [callee] at h,fun i j b c n b' c' n' h=>by simp [callee] at h,fun i b c n h=>by simp [callee] at h,fun b hb=>(by
           cases all
           ·exact hH.ilt b hb
           ·exact hb),fun b x h=>by simp [callee] at h⟩
          unfold Kx Gk at *
          cases hown:ownIn.ownInL (Es first (Es (QL ρ args.toList) cap)) with
          | false =>
            simp only [hown] at hg hcn
            simp only [Bool.and_eq_true] at hg
            refine (hfnc (callee C w false) w _ (fun _=>rfl) (hH0 false) (hexp false (.inr hown))).mono fun e w' ⟨v,C1,he,h1,hr,hs⟩=>⟨v,he,?_⟩
            exact Q9 (all:=false) hH hf h1 hr hs (.inl ⟨rfl,hg⟩)
          | true =>
            simp only [hown] at hg hcn
            simp only [Bool.and_eq_true] at hg
            refine (hfnc (callee C w true) w _ (fun _=>rfl) (hH0 true) (hexp true (.inl rfl))).mono fun e w' ⟨v,C1,he,h1,hr,hs⟩=>⟨v,he,?_⟩
            exact Q9 (all:=true) hH hf h1 hr hs (.inr ⟨rfl,hg.1,hg.2,hcn⟩)
    ·exact hq.fail_inv.elim
  | invoke r m=>exact hq.fail_inv.elim
  | builtin b =>
    have hargs:=HT (C:=C) (w:=w) (ρ:=ρ) (σ:=σ) (l:=args.toList) fun x hx=>hops x (by simp [Call.operands];simpa using hx)
    cases b<;>try exact (PO.fail_inv hq).elim
    case len =>
     simp only at hq
     split at hq
     ·rename_i x t ha ht
      obtain ⟨args⟩:=args
      obtain ⟨tys⟩:=tys
      simp only at ha ht
      subst ha ht
      have hx:=hops x (by simp [Call.operands])
      split at hq
      ·rename_i e hu
       exact ((tO (P:=P) (ty:=type) hu hH hpre hx).md hH).ran (by simp [execOp,resolve,invoke,builtin]) hq hf
      ·rename_i n e hu
       refine Md.ran (m:=Builtin.len_ #[t] type #[σ x]) ((Vd.val ?_ (.li _ _)).md hH) (by simp [execOp,resolve,invoke,builtin]) hq hf
       simp [Builtin.len_,run_underlying hu,goInt]
      ·exact hq.fail_inv.elim
     ·exact hq.fail_inv.elim
    case min =>
     simp only at hq
     split at hq
     ·rename_i a' l hev
      rw [hev] at hargs
      cases hargs':args.toList.map σ with
      | nil=>rw [hargs'] at hargs;cases hargs
      | cons u us =>
        rw [hargs'] at hargs
        cases hargs with
        | cons _ _ _ _ h h' =>
          have:=GY (P:=P) (S:=S) (hp:=hp) false l _ _ us h h'
          refine (Vd.md this hH).ran ?_ hq hf
          have e1:args.map σ=⟨u::us⟩:=by apply Array.ext';simpa using hargs'
          simp [execOp,resolve,invoke,builtin,e1,Builtin.min_]
     ·exact hq.fail_inv.elim
    case max =>
     simp only at hq
     split at hq
     ·rename_i a' l hev
      rw [hev] at hargs
      cases hargs':args.toList.map σ with
      | nil=>rw [hargs'] at hargs;cases hargs
      | cons u us =>
        rw [hargs'] at hargs
        cases hargs with
        | cons _ _ _ _ h h' =>
          have:=GY (P:=P) (S:=S) (hp:=hp) true l _ _ us h h'
          refine (Vd.md this hH).ran ?_ hq hf
          have e1:args.map σ=⟨u::us⟩:=by apply Array.ext';simpa using hargs'
          simp [execOp,resolve,invoke,builtin,e1,Builtin.max_]
     ·exact hq.fail_inv.elim
    case append =>
     simp only at hq
     split at hq
     ·rename_i s x t t' ha ht
      obtain ⟨args⟩:=args
      obtain ⟨tys⟩:=tys
      simp only at ha ht
      subst ha ht
      have hs':=hops s (by simp [Call.operands])
      have hx:=hops x (by simp [Call.operands])
      split at hq
      ·rename_i htt
       obtain rfl:t=t':=Nat.eq_of_beq_eq_true htt
       refine Md.ran (m:=Builtin.append_ #[t,t] type #[σ s,σ x]) ?_ (by simp [execOp,resolve,invoke,builtin]) hq hf
       exact eC hH hpre hs' hx
      ·exact hq.fail_inv.elim
     ·exact hq.fail_inv.elim
 all_goals exact hq.fail_inv.elim
end
end Abs
end Go.Proofs.YtccgngldoinokaaGreat

namespace Go.Proofs.YtccgngldoinokaaGreat
namespace Abs
open Go Go.RowKit
structure Tr (h:Nat) (C:Cx) (w:World) (C':Cx) (w':World):Prop where
 os:w'.os=w.os
 tape:w'.tape=w.tape
 output:w'.output=w.output
 size:w.heap.size<=w'.heap.size
 keep:∀ k,k<w.heap.size->(∀ i b c n,C.ρ i=some (.at b c n)->b≠k)->C.O k=none->w'.heap[k]? = w.heap[k]?
 imm:∀ b,C.I b->C'.I b
 imm':∀ b,C'.I b->C.I b\/(w.heap.size<=b\/∃ x,C.O b=some x)\/∃ i c n,h<=i/\C.ρ i=some (.at b c n)
 rho:∀ i,i<h->C'.ρ i=C.ρ i
 own:∀ i b c n,h<=i->C'.ρ i=some (.at b c n)->(∃ j c' n',h<=j/\C.ρ j=some (.at b c' n'))\/w.heap.size<=b\/∃ x,C.O b=some x
 sub:∀ b x,C'.O b=some x->(∃ y,C.O b=some y)\/w.heap.size<=b\/∃ i c n,h<=i/\C.ρ i=some (.at b c n)
theorem Since.refl {h:Nat} {C:Cx} {w:World} (hn:∀ i,h<=i->C.ρ i=none) (ho:∀ b,C.O b=none):Since h C w C w :=
 ⟨rfl,rfl,rfl,Nat.le_refl _,fun _ _ _=>rfl,fun _ h=>h,fun _ h=>.inl h,fun _ _=>rfl,fun i b c n hi hp=>(by rw [hn i hi] at hp;cases hp),fun b x hb=>(by rw [ho b] at hb;cases hb)⟩
theorem Since.step {h:Nat} {C0 C C':Cx} {w0 w w':World} (s:Since h C0 w0 C w) (t:Tr h C w C' w'):Since h C0 w0 C' w':=by
 refine ⟨t.os.trans s.os,t.tape.trans s.tape,t.output.trans s.output,Nat.le_trans s.size t.size,fun k hk hn=>?_,fun b hb=>t.imm b (s.imm b hb),fun b hb=>?_,fun i hi=>(t.rho i hi).trans (s.rho i hi),fun i b c n hi hp=>?_,fun b x hb=>?_⟩
 ·refine (t.keep k (Nat.lt_of_lt_of_le hk s.size) (fun i b c n hp=>?_) (by
   cases ho:C.O k with
   | none=>rfl
   | some x=>have:=s.sub k x ho;omega)).trans (s.keep k hk hn)
  by_cases hi:i<h
  ·exact hn i b c n hi (by rw [<- s.rho i hi];exact hp)
  ·have:=s.own i b c n (by omega) hp;omega
 ·rcases t.imm' b hb with h1|(h1|⟨x,h1⟩)|⟨i,c,n,hi,hp⟩
  ·exact s.imm' b h1
  ·exact .inr (Nat.le_trans s.size h1)
  ·exact .inr (s.sub b x h1)
  ·exact .inr (s.own i b c n hi hp)
 ·rcases t.own i b c n hi hp with ⟨j,c',n',hj,hp'⟩|h1|⟨x,h1⟩
  ·exact s.own j b c' n' hj hp'
  ·exact Nat.le_trans s.size h1
  ·exact s.sub b x h1
 ·rcases t.sub b x hb with ⟨y,h1⟩|h1|⟨i,c,n,hi,hp⟩
  ·exact s.sub b y h1
  ·exact Nat.le_trans s.size h1
  ·exact s.own i b c n hi hp
theorem Grow.tr {h base n:Nat} {C C':Cx} {w w':World} (g:Grow base n C w C' w') (hb:h<=base):Tr h C w C' w' :=
 ⟨g.os,g.tape,g.output,g.size,fun k hk _ _=>g.keep k hk,g.imm,fun b hb=>(g.imm' b hb).imp id fun h=>.inl (.inl h),fun i hi=>g.rho i (.inl (by omega)),fun i b c m hi hp=>(by
  by_cases hr:i<base\/base+n<=i
  ·rw [g.rho i hr] at hp;exact .inl ⟨i,c,m,hi,hp⟩
  ·exact .inr (.inl (g.own i b c m (by omega) (by omega) hp))),fun b x hb=>.inl ⟨x,by rw [<- g.sub b];exact hb⟩⟩
section
variable {P:Program} {S:Sums} {C C':Cx} {w:World} {H hp:A0}
theorem Gv {b:Nat} {t:TypeId}:∀ (vs:List Value) (w:World) (cs:Array Value) (off n:Nat),w.heap[b]? = some (.cells cs t (0,0))->off+n+vs.length<=cs.size->(∀ u∈vs,u.oneCell'=true) ->
  ∃ w',(storeCells ⟨b,off,none⟩ vs n).run P w=.ok () w'/\w'.heap[b]? = some (.cells ⟨cs.toList.take (off+n)++(vs++cs.toList.drop (off+n+vs.length))⟩ t (0,0)) /\
    (∀ k,k≠b->w'.heap[k]? = w.heap[k]?)/\w'.os=w.os/\w'.tape=w.tape/\w'.output=w.output/\w'.heap.size=w.heap.size
 | [],w,cs,off,n,hh,hl,h1=>⟨w,by simp [storeCells],by simpa using hh,fun _ _=>rfl,rfl,rfl,rfl,rfl⟩
 | u::vs,w,cs,off,n,hh,hl,h1=>by
   simp at hl
   have hc:w.cell? ((⟨b,off,none⟩:Addr).add n)=some (cs[off+n]'(by omega)):=by rw [G9 hh];simp
   have hfz:w.frozen? ((⟨b,off,none⟩:Addr).add n)=false:=by
    unfold World.frozen?;rw [BH];simp [hh]
   have hst:=run_store P w ((⟨b,off,none⟩:Addr).add n) u .plain (h1 u (by simp))
   simp only [hc,hfz] at hst
   have hset:(w.setCell ((⟨b,off,none⟩:Addr).add n) u).heap[b]? = some (.cells (cs.setIfInBounds (off+n) u) t (0,0)):=by
    unfold World.setCell
    rw [Dt]
    simp [Array.getElem?_modify,hh]
   obtain ⟨w',hr,hh',hk,ho,ht,hou,hs⟩:=Gv vs (w.setCell ((⟨b,off,none⟩:Addr).add n) u) (cs.setIfInBounds (off+n) u) off (n+1) hset (by simp;omega) (fun v hv=>h1 v (by simp [hv]))
   refine ⟨w',?_,?_,fun k hkb=>?_,ho,ht,hou,by rw [hs];simp [World.setCell]⟩
   ·simp only [storeCells,Sem.run_bind]
    simp at hst
    simp [hst,hr]
   ·rw [hh']
    congr 2
    have hlt:off+n<cs.toList.length:=by simp;omega
    have e1:(cs.toList.set (off+n) u).take (off+(n+1))=cs.toList.take (off+n)++[u]:=by
     rw [show off+(n+1)=off+n+1 by omega,List.take_add_one,List.take_set_of_le (Nat.le_refl _),List.getElem?_set_self hlt];rfl
    have e2:(cs.toList.set (off+n) u).drop (off+(n+1)+vs.length)=cs.toList.drop (off+n+(vs.length+1)):=by
     rw [List.drop_set,if_pos (by omega)];congr 1;omega
    simp only [Array.toList_setIfInBounds,e1,e2,List.length_cons,List.append_assoc,List.cons_append,List.nil_append]
   ·rw [hk k hkb]
    unfold World.setCell
    simp only [BH,Array.getElem?_modify]
    rw [if_neg (fun h=>hkb h.symm)]
end
end Abs
end Go.Proofs.YtccgngldoinokaaGreat

namespace Go.Proofs.YtccgngldoinokaaGreat
namespace Abs
open Go Go.RowKit
section
variable {P:Program} {S:Sums} {C C':Cx} {w w':World} {H hp:A0}
structure Turn (j:Nat) (a:AV) (C:Cx) (w:World) (C':Cx) (w':World):Prop where
 rho:∀ i,i≠j->C'.ρ i=C.ρ i
 imm:∀ b,C.I b->C'.I b
 blk:∀ b,C.I b->w'.heap[b]? = w.heap[b]?
 row:∀ v,Rel C w (.row j) v->Rel C' w' a v
theorem GG {i j:Nat} {a:AV} (h:i≠j):EJ j a i=none:=by
 unfold EJ
 have:Nat.beq i j=false:=by
  rcases hb:Nat.beq i j with _|_
  ·rfl
  ·exact absurd (Nat.eq_of_beq_eq_true hb) h
 rw [this]
theorem My {j:Nat} {a:AV}:EJ j a j=some a:=by
 unfold EJ
 rw [show Nat.beq j j=true from by simp]
theorem Rel.still (hI:∀ b,C.I b->C'.I b) (hb:∀ b,C.I b->w'.heap[b]? = w.heap[b]?) {a:AV} {v:Value} (h:Rel C w a v) (ho:ownIn a=false):Rel C' w' a v:=by
 have hx:Cext (⟨fun _=>none,C.I,fun _=>none⟩:Cx) w ⟨fun _=>none,C'.I,fun _=>none⟩ w':=⟨fun i p h=>by simp at h,hI,hb⟩
 have h1:Rel (⟨fun _=>none,C.I,fun _=>none⟩:Cx) w a v:=Rel.change (C:=C) (C':=⟨fun _=>none,C.I,fun _=>none⟩) (fun _ h=>h) h ho
 exact Rel.change (C:=⟨fun _=>none,C'.I,fun _=>none⟩) (C':=C') (fun _ h=>h) (h1.mono hx) ho
theorem RelL.still (hI:∀ b,C.I b->C'.I b) (hb:∀ b,C.I b->w'.heap[b]? = w.heap[b]?):∀ {l:List AV} {vs:List Value},RelL C w l vs->ownIn.ownInL l=false->RelL C' w' l vs
 | _,_,.nil,_=>.nil
 | _,_,.cons a l v vs h h',ho=>by
   simp [ownIn.ownInL] at ho
   exact .cons a l v vs (h.still hI hb ho.1) (h'.still hI hb ho.2)
theorem Turn.rel {j:Nat} {a:AV} (t:Turn j a C w C' w') {x:AV} {v:Value} (h:Rel C w x v):Rel C' w' (mapR (EJ j a) x) v:=by
 refine Rel.rec (C:=C) (w:=w) (motive_1:=fun x v _=>Rel C' w' (mapR (EJ j a) x) v) (motive_2:=fun l vs _=>RelL C' w' (mapR.mapRL (EJ j a) l) vs)
  ?_ ?_ ?_ ?_ ?_ ?_ ?_ ?_ ?_ ?_ ?_ ?_ ?_ ?_ ?_ ?_ ?_ ?_ ?_ ?_ ?_ h
 ·exact fun v=>.top v
 ·exact fun k a v=>.gd k _ v
 ·exact fun k n=>.li k n
 ·exact fun k n=>.si k n
 ·exact fun b=>.lb b
 ·exact fun b=>.sb b
 ·exact fun x=>.v x
 ·exact fun l vs _ h=>.agg _ vs h
 ·exact fun l vs _ h=>.tup _ vs h
 ·intro i off b c n h
  simp only [mapR]
  by_cases hi:i=j
  ·subst hi;rw [My];exact .top _
  ·rw [GG hi];exact .own i off b c n (by rw [t.rho i hi];exact h)
 ·intro i sz k off b c n h hk
  simp only [mapR]
  by_cases hi:i=j
  ·subst hi;rw [My];exact .top _
  ·rw [GG hi];exact .elt i sz k off b c n (by rw [t.rho i hi];exact h) hk
 ·intro i b c n h
  simp only [mapR]
  by_cases hi:i=j
  ·subst hi;rw [My];exact t.row _ (.row i b c n h)
  ·rw [GG hi];exact .row i b c n (by rw [t.rho i hi];exact h)
 ·intro i n sz b c m h
  simp only [mapR]
  by_cases hi:i=j
  ·subst hi;rw [My];exact .top _
  ·rw [GG hi];exact .lsl i n sz b c m (by rw [t.rho i hi];exact h)
 ·intro i h
  simp only [mapR]
  by_cases hi:i=j
  ·subst hi;rw [My];exact t.row _ (.rown i h)
  ·rw [GG hi];exact .rown i (by rw [t.rho i hi];exact h)
 ·intro n sz el A cap vs hcap hA hr hl hn _
  exact (Rel.slc n sz el A cap vs hcap hA hr hl hn).still t.imm t.blk rfl
 ·intro l ad vs hr hI hc hn _
  exact (Rel.xp l ad vs hr hI hc hn).still t.imm t.blk rfl
 ·exact fun f l m vs ws _ _ h h'=>.fn f _ _ vs ws h h'
 ·intro n sz el ad vs hI hc hr hl hn _
  exact (Rel.pa n sz el ad vs hI hc hr hl hn).still t.imm t.blk rfl
 ·intro i b c n h
  simp only [mapR]
  by_cases hi:i=j
  ·subst hi;rw [My];exact .top _
  ·rw [GG hi];exact .mp i b c n (by rw [t.rho i hi];exact h)
 ·exact .nil
 ·exact fun a l v vs _ _ h h'=>.cons _ _ v vs h h'
theorem Turn.relL {j:Nat} {a:AV} (t:Turn j a C w C' w'):∀ {l:List AV} {vs:List Value},RelL C w l vs->RelL C' w' (mapR.mapRL (EJ j a) l) vs
 | _,_,.nil=>.nil
 | _,_,.cons _ _ _ _ h h'=>.cons _ _ _ _ (t.rel h) (t.relL h')
theorem Gi (f:Nat->Option AV):∀ (l:A0) (i:Nat),A3 (E5 f l) i=WO f (A3 l i)
 | [],_=>rfl
 | _::_,0=>rfl
 | _::l,i+1=>Gi f l i
theorem DI:∀ (l:A0) (i k:Nat) (b:Blk),A3 (AM l i b) k=if k=i/\i<l.length then b else A3 l k
 | [],i,k,b=>by simp [AM,A3]
 | x::l,0,0,b=>by simp [AM,A3]
 | x::l,0,k+1,b=>by simp [AM,A3]
 | x::l,i+1,0,b=>by simp [AM,A3]
 | x::l,i+1,k+1,b=>by simp [AM,A3,DI l i k b]
theorem BK {l:A0} {i k:Nat} {b:Blk} (h:k≠i):A3 (AM l i b) k=A3 l k:=by rw [DI,if_neg (fun e=>h e.1)]
theorem DG (f:Nat->Option AV):∀ l:A0,(E5 f l).length=l.length
 | []=>rfl
 | _::l=>by simp [E5,DG f l]
theorem DL {hp:A0} {i:Nat} (h:A3 hp i≠.dead):i<hp.length:=by
 rcases Nat.lt_or_ge i hp.length with hlt|hge
 ·exact hlt
 ·exact absurd (Gj hge) h
theorem kD {f:Nat->Option AV} {ho:Option (Nat × Option Nat)} {k:Nat}:GM (mM f ho) k↔GM ho k:=by
 unfold GM
 match ho with
 | none=>simp [mM]
 | some (q,none)=>simp [mM]
 | some (q,some h) =>
   simp only [mM]
   split<;>simp
theorem kC {f:Nat->Option AV} {ho:Option (Nat × Option Nat)} {k h:Nat} (e:mM f ho=some (k,some h)):ho=some (k,some h)/\f h=none:=by
 match ho,e with
 | some (q,some g),e =>
   simp only [mM] at e
   split at e
   ·cases e
   ·rename_i hf
    injection e with e;injection e with e1 e2;injection e2 with e2
    subst e1 e2
    exact ⟨rfl,hf⟩
theorem Turn.brel {j:Nat} {a:AV} (t:Turn j a C w C' w') {p:Pl} {b:Blk} (hb:∀ q c m,p=.at q c m->w'.heap[q]? = w.heap[q]?) (hs:KE C w C' w') (h:BRel C w p b):BRel C' w' p (WO (EJ j a) b):=by
 match p,b,h with
 | .at q c m,.mat ty wd k f,h =>
   obtain ⟨h1,h2,h3,cs,hh,hz,hc⟩:=h
   exact ⟨h1,h2,h3,cs,(hb q c m rfl).trans hh,hz,fun k hk i hi=>by
    obtain ⟨ho,v,hv,hr⟩:=hc k hk i hi
    exact ⟨ho,v,hv,hr.still t.imm t.blk (LP ho)⟩⟩
 | .at q c m,.rows e e' sz k fz ln el ho,h =>
   obtain ⟨h1,h2,h3,cs,hh,hz,hc⟩:=h
   exact ⟨h1,h2,h3,cs,(hb q c m rfl).trans hh,hz,fun k hk=>by
    obtain ⟨v,hv,hr,hn⟩:=hc k hk
    refine ⟨v,hv,fun g e=>?_,fun hno=>?_⟩
    ·obtain ⟨e1,e2⟩:=kC e
     have:=t.rel (hr g e1)
     simpa only [mapR,e2] using this
    ·rw [kD] at hno
     exact ⟨fun hf=>((hn hno).1 hf).still t.imm t.blk rfl,fun hf=>((hn hno).2 hf).mono hs fun ok h=>h.still t.imm t.blk (Ca ok)⟩⟩
 | .at q c m,.tab k sz el,h =>
   obtain ⟨es,ck,vs,hh,hs,hc⟩:=h
   exact ⟨es,ck,vs,(hb q c m rfl).trans hh,hs,fun k hk=>⟨(hc k hk).1.still t.imm t.blk (Ca (hc k hk).2.1),(hc k hk).2⟩⟩
 | .at q c m,.cells ty l,h =>
   obtain ⟨vs,hr,hh⟩:=h
   exact ⟨vs,t.relL hr,(hb q c m rfl).trans hh⟩
 | .at q c m,.row e sz k el,h =>
   obtain ⟨h1,h2,h3,cs,vs,hh,hs,hc⟩:=h
   exact ⟨h1,h2,h3,cs,vs,(hb q c m rfl).trans hh,hs,fun k hk=>⟨(hc k hk).1.still t.imm t.blk (Ca (hc k hk).2.1),(hc k hk).2⟩⟩
 | .nil,.row e sz k el,h=>exact h
theorem Turn.hr {j:Nat} {a:AV} {b':Blk} (t:Turn j a C w C' w') (hH:HR C hp w) (hj:j<hp.length)
  (hkeep:∀ i b c n,i≠j->C.ρ i=some (.at b c n)->w'.heap[b]? = w.heap[b]?) (hsz:w.heap.size<=w'.heap.size)
  (hnew:∀ p,C'.ρ j=some p->BRel C' w' p b')
  (hpl:∀ b c n,C'.ρ j=some (.at b c n)->b<w'.heap.size/\¬ C'.I b/\∀ i b' c' n',i≠j->C.ρ i=some (.at b' c' n')->b'≠b)
  (hI:∀ b,C'.I b->b<w'.heap.size/\∀ i c n,i≠j->C.ρ i=some (.at b c n)->False)
  (hO:∀ b,C'.O b=C.O b) (hO2:∀ b x,C.O b=some x->w'.heap[b]? = w.heap[b]? /\ ¬ C'.I b/\∀ b' c n,C'.ρ j=some (.at b' c n)->b'≠b):HR C' (AM (E5 (EJ j a) hp) j b') w':=by
 refine ⟨fun i p hp'=>?_,fun i i' b c n b1 c1 n1 h h' hne=>?_,fun i b c n h=>?_,fun b hb=>(hI b hb).1,fun b x hb=>?_⟩
 ·by_cases hi:i=j
  ·subst hi
   rw [DI,if_pos ⟨rfl,by rw [DG];exact hj⟩]
   exact hnew p hp'
  ·rw [BK hi,Gi]
   rw [t.rho i hi] at hp'
   exact t.brel (fun q c m hq=>hkeep i q c m hi (by rw [<- hq];exact hp')) (fun b x hb=>⟨by rw [hO b];exact hb,(hO2 b x hb).1⟩) (hH.live i p hp')
 ·by_cases hi:i=j
  ·subst hi
   rw [t.rho i' (Ne.symm hne)] at h'
   exact fun e=>(hpl b c n h).2.2 i' b1 c1 n1 (Ne.symm hne) h' e.symm
  ·rw [t.rho i hi] at h
   by_cases hi':i'=j
   ·subst hi'
    exact (hpl b1 c1 n1 h').2.2 i b c n hi h
   ·rw [t.rho i' hi'] at h'
    exact hH.inj _ _ _ _ _ _ _ _ h h' hne
 ·by_cases hi:i=j
  ·subst hi;exact ⟨(hpl b c n h).1,(hpl b c n h).2.1⟩
  ·rw [t.rho i hi] at h
   exact ⟨Nat.lt_of_lt_of_le (hH.fresh _ _ _ _ h).1 hsz,fun hb=>(hI b hb).2 i c n hi h⟩
 ·rw [hO b] at hb
  obtain ⟨s1,s2,s3,s4⟩:=hH.sub b x hb
  obtain ⟨o1,o2,o3⟩:=hO2 b x hb
  refine ⟨Nat.lt_of_lt_of_le s1 hsz,o2,fun i b' c n h=>?_,s4.keep o1⟩
  by_cases hi:i=j
  ·subst hi;exact o3 b' c n h
  ·rw [t.rho i hi] at h;exact s3 i b' c n h
theorem Pe {lo j:Nat} {e:TypeId} {sz:Nat} {n:LN} {el:Nat->List AV} (hH:HR C hp w) (hb:A3 hp j=.row e sz n el) (AQ:lo<=j) :
  ∃ C',Turn j (.slc n sz el) C w C' w/\HR C' (AM (E5 (EJ j (.slc n sz el)) hp) j .dead) w/\Tr lo C w C' w:=by
 let C':Cx:=⟨fun i=>if i=j then none else C.ρ i,fun b=>C.I b\/∃ c n,C.ρ j=some (.at b c n),C.O⟩
 have hj:j<hp.length:=DL (by rw [hb];simp)
 have ht:Turn j (.slc n sz el) C w C' w:=⟨fun i hi=>by simp [C',hi],fun b h=>.inl h,fun _ _=>rfl,fun v hv=>by
  cases hv with
  | row _ b c m hρ =>
    have hl:=hH.live _ _ hρ
    rw [hb] at hl
    obtain ⟨hm,hcap,hs0,cs,vs,hh,hsz,hcell⟩:=hl
    rw [<- hm]
    refine .slc n sz el _ c vs (by omega) (fun _=>⟨_,rfl,.inr ⟨c,m,hρ⟩,fun k hk q hq=>?_⟩) (fun k hk=>?_) (fun k hk=>(hcell k (by omega)).2.2.1) (fun k hk=>(hcell k (by omega)).2.1)
    ·rw [Dt]
     have:=(hcell k (by omega)).2.2.2 q hq
     rw [<- this];simp [World.cell?,hh]
    ·exact RelL.still (C:=C) (C':=C') (fun b h=>Or.inl h) (fun _ _=>rfl) (hcell k (by omega)).1 (Ca (hcell k (by omega)).2.1)
  | rown _ hρ =>
    have hl:=hH.live _ _ hρ
    rw [hb] at hl
    obtain ⟨h0,_⟩:n.val=0/\_:=hl
    have:=Rel.slc (C:=C') (w:=w) n sz el none 0 (fun _=>[]) (by omega) (fun h=>by omega) (fun k hk=>by omega) (fun k hk=>by omega) (fun k hk=>by omega)
    rwa [h0] at this⟩
 refine ⟨C',ht,ht.hr hH hj (fun _ _ _ _ _ _=>rfl) (Nat.le_refl _) (fun p hp=>by simp [C'] at hp) (fun b c n h=>by simp [C'] at h) (fun b hb'=>?_) (fun _=>rfl) (fun b x hb=>⟨rfl,fun hI=>?_,fun b' c n h=>by simp [C'] at h⟩),?_⟩
 ·rcases hb' with hb'|⟨c,m,hρ⟩
  ·exact ⟨hH.ilt b hb',fun i c n _ hi=>(hH.fresh _ _ _ _ hi).2 hb'⟩
  ·exact ⟨(hH.fresh _ _ _ _ hρ).1,fun i c' n' hi h=>hH.inj _ _ _ _ _ _ _ _ h hρ hi rfl⟩
 ·rcases hI with hI|⟨c,m,hρ⟩
  ·exact (hH.sub b x hb).2.1 hI
  ·exact (hH.sub b x hb).2.2.1 _ _ _ _ hρ rfl
 ·refine ⟨rfl,rfl,rfl,Nat.le_refl _,fun _ _ _ _=>rfl,fun b h=>.inl h,fun b hb'=>?_,fun i hi=>by simp [C',show i≠j by omega],fun i b c m hi h=>?_,fun b x hb=>.inl ⟨x,hb⟩⟩
  ·rcases hb' with hb'|⟨c,m,hρ⟩
   ·exact .inl hb'
   ·exact .inr (.inr ⟨j,c,m,AQ,hρ⟩)
  ·by_cases hij:i=j
   ·simp [C',hij] at h
   ·simp [C',hij] at h;exact .inl ⟨i,c,m,hi,h⟩
end
end Abs
end Go.Proofs.YtccgngldoinokaaGreat

namespace Go.Proofs.YtccgngldoinokaaGreat
namespace Abs
open Go Go.RowKit
section
variable {P:Program} {S:Sums} {C C':Cx} {w w':World} {H hp:A0}
theorem HR.upd (hH:HR C hp w) {i b c n:Nat} {B:Blk} (hi:C.ρ i=some (.at b c n)) (hkeep:∀ k,k≠b->w'.heap[k]? = w.heap[k]?) (hsz:w'.heap.size=w.heap.size)
  (hos:w'.os=w.os) (htp:w'.tape=w.tape) (hout:w'.output=w.output)
  (hB:Cext C w C w'->BRel C w' (.at b c n) B) (hlt:i<hp.length) (lo:Nat):HR C (AM hp i B) w'/\Cext C w C w'/\Tr lo C w C w':=by
 have hx:Cext C w C w':=⟨fun _ _ h=>h,fun _ h=>h,fun q hq=>hkeep q fun e=>(hH.fresh _ _ _ _ hi).2 (e▸hq)⟩
 refine ⟨⟨fun i' p hp'=>?_,hH.inj,fun i' b' c' n' h=>?_,fun q hq=>by rw [hsz];exact hH.ilt q hq,fun q x hq=>⟨by rw [hsz];exact (hH.sub q x hq).1,(hH.sub q x hq).2.1,(hH.sub q x hq).2.2.1,(hH.sub q x hq).2.2.2.keep (hkeep q fun e=>(hH.sub q x hq).2.2.1 _ _ _ _ hi e.symm)⟩⟩,hx,?_⟩
 ·by_cases he:i'=i
  ·subst he
   rw [DI,if_pos ⟨rfl,hlt⟩]
   rw [hi] at hp';injection hp' with hp';subst hp'
   exact hB hx
  ·rw [BK he]
   refine (hH.live i' p hp').mono hx (fun q c' m hq=>hkeep q ?_) fun q x hq=>⟨hq,hkeep q fun e=>(hH.sub q x hq).2.2.1 _ _ _ _ hi e.symm⟩
   subst hq
   exact fun e=>hH.inj _ _ _ _ _ _ _ _ hp' hi he e
 ·rw [hsz];exact hH.fresh _ _ _ _ h
 ·exact ⟨hos,htp,hout,by omega,fun k hk hn _=>hkeep k fun e=>hn i b c n hi e.symm,fun _ h=>h,fun _ h=>.inl h,fun _ _=>rfl,fun i' b' c' n' h h'=>.inl ⟨i',c',n',h,h'⟩,fun q x hq=>.inl ⟨x,hq⟩⟩
theorem Iu {x:AV} {v:Value} (h:Rel C w x v) (ho:LU (AU x)=true):RelL C w (AU x) v.cells.toList:=by
 cases x with
 | agg l=>cases h with|agg _ vs h=>simpa [AU,Value.cells] using h
 | _ =>
   all_goals
    simp only [AU] at ho ⊢
    simp only [LU,Bool.and_true] at ho
    have h1:=JL h ho
    rw [Sp h1]
    exact .cons _ _ _ _ h .nil
theorem LV:∀ {l:List AV},DV l=true->LU l=true
 | [],_=>rfl
 | a::l,h=>by
   simp [DV] at h
   simp only [LU,LV h.2,Bool.and_true]
   cases a<;>first|rfl|exact h.1
theorem HN {t:TypeId} {b off:Nat} {v:Value} {cs:Array Value} {ty:TypeId} {ti:TypeInfo} (hti:P.info? t=some ti) (hh:w.heap[b]? = some (.cells cs ty (0,0)))
  (hsz:v.cells.size=A9 P t) (hl:off+v.cells.size<=cs.size) (h1:∀ u∈v.cells.toList,u.oneCell'=true) :
  ∃ w',(Instr.storeAt t (.pointer (some ⟨b,off,none⟩)) v).run P w=.ok () w'/\w'.heap[b]? = some (.cells ⟨cs.toList.take off++(v.cells.toList++cs.toList.drop (off+v.cells.toList.length))⟩ ty (0,0)) /\
    (∀ k,k≠b->w'.heap[k]? = w.heap[k]?)/\w'.os=w.os/\w'.tape=w.tape/\w'.output=w.output/\w'.heap.size=w.heap.size:=by
 obtain ⟨w',hr,hw⟩:=Gv (P:=P) (b:=b) (t:=ty) v.cells.toList w cs off 0 hh (by simpa using hl) h1
 refine ⟨w',?_,by simpa using hw⟩
 have hs:=BP (P:=P) hti w
 simp [Instr.storeAt,Instr.sureAddr,storeVar,hs,hsz,hr]
theorem ZL (k:Nat) (c:List AV) (el:Nat->List AV) (j:Nat):tQ k c el j=if j=k then c else el j:=by unfold tQ;rfl
theorem Lm {a:AV} {v:Value} (h:Rel C w a v) (hb:eX a=true):v=.bool (Fu a):=by
 cases h<;>simp [eX] at hb<;>rfl
theorem jP {k j:Nat} {x y z:AV} (h:uy k j x y=some z):LX z=true/\(j=k->∀ (C:Cx) (w:World) (v:Value),Rel C w x v->Rel C w z v)/\(j≠k->∀ (C:Cx) (w:World) (v:Value),Rel C w y v->Rel C w z v):=by
 unfold uy at h
 split at h
 ·rename_i q q' hx hy
  split at h
  ·rename_i hq
   have hq:=of_decide_eq_true hq
   subst hq
   injection h with h;subst h
   refine ⟨rfl,fun e C w v hv=>?_,fun e C w v hv=>?_⟩
   ·rw [AJ hv hx];unfold iQ;rw [if_pos e];exact .si _ _
   ·rw [AJ hv hy];unfold iQ;rw [if_neg e];exact .si _ _
  ·cases h
 ·split at h
  ·rename_i hx hy
   injection h with h;subst h
   refine ⟨rfl,fun e C w v hv=>?_,fun e C w v hv=>?_⟩
   ·rw [Lm hv hx];unfold iR;rw [if_pos e];exact .sb _
   ·rw [Lm hv hy];unfold iR;rw [if_neg e];exact .sb _
  ·cases h
 ·cases h
theorem JS {k j:Nat}:∀ {l m n:List AV},WK k j l m=some n->DV n=true/\(j=k->∀ (C:Cx) (w:World) (vs:List Value),RelL C w l vs->RelL C w n vs)/\(j≠k->∀ (C:Cx) (w:World) (vs:List Value),RelL C w m vs->RelL C w n vs)
 | [],[],n,h=>by
   simp only [WK] at h
   injection h with h;subst h
   exact ⟨rfl,fun _ _ _ _ h=>h,fun _ _ _ _ h=>h⟩
 | x::l,y::m,n,h=>by
   simp only [WK] at h
   split at h
   ·rename_i z n' h1 h2
    injection h with h;subst h
    obtain ⟨a1,a2,a3⟩:=jP h1
    obtain ⟨b1,b2,b3⟩:=JS h2
    refine ⟨by simp [DV,a1,b1],fun e C w vs hv=>?_,fun e C w vs hv=>?_⟩
    ·cases hv with|cons _ _ v vs h h'=>exact .cons _ _ _ _ (a2 e C w v h) (b2 e C w vs h')
    ·cases hv with|cons _ _ v vs h h'=>exact .cons _ _ _ _ (a3 e C w v h) (b3 e C w vs h')
   ·cases h
 | [],_::_,n,h=>by simp [WK] at h
 | _::_,[],n,h=>by simp [WK] at h
theorem G3:∀ {l m:List AV},DV l=true->DV m=true->DV (l++m)=true
 | [],_,_,h=>h
 | a::l,m,h,h'=>by simp [DV] at h;simp [DV,h.1,G3 h.2 h']
theorem R0 (n:Nat):∀ {l:List AV},DV l=true->DV (l.take n)=true:=by
 induction n with
 | zero=>intro l _;simp [DV]
 | succ n ih =>
   intro l h
   cases l with
   | nil=>simp [DV]
   | cons a l=>simp [DV] at h;simp [DV,h.1,ih h.2]
theorem R1 (n:Nat):∀ {l:List AV},DV l=true->DV (l.drop n)=true:=by
 induction n with
 | zero=>intro l h;simpa using h
 | succ n ih =>
   intro l h
   cases l with
   | nil=>simp [DV]
   | cons a l=>simp [DV] at h;simpa using ih h.2
theorem mq {k off:Nat} {cs c:List AV} {el:Nat->List AV} {vs us new:List Value} (h:RelL C w c new) (ho:DV c=true) (hk:RelL C w (el k) vs) (hok:DV (el k)=true) (hcs:RelL C w cs us) (hn:new=vs.take off++(us++vs.drop (off+us.length))) :
  RelL C w (Xm k off cs c el k) new/\DV (Xm k off cs c el k)=true:=by
 unfold Xm
 split
 ·rename_i l hl;have:=JS hl;exact ⟨this.2.1 rfl C w new h,this.1⟩
 ·split
  ·rename_i m hm
   have hm:=JS hm
   have hp:=hk.paste off (hm.2.1 rfl C w us hcs)
   rw [hn]
   refine ⟨hp,?_⟩
   rw [Fm]
   exact G3 (R0 _ hok) (G3 hm.1 (R1 _ hok))
  ·rw [ZL,if_pos rfl];exact ⟨h,ho⟩
theorem mo {k q off:Nat} (hq:q≠k) {cs c:List AV} {el:Nat->List AV} {vs:List Value} (hlen:off+cs.length<=vs.length) (h:RelL C w (el q) vs) (ho:DV (el q)=true):RelL C w (Xm k off cs c el q) vs/\DV (Xm k off cs c el q)=true:=by
 unfold Xm
 split
 ·rename_i l hl;have:=JS hl;exact ⟨this.2.2 hq C w vs h,this.1⟩
 ·split
  ·rename_i m hm
   have hm:=JS hm
   have hw:=hm.2.2 hq C w ((vs.drop off).take cs.length) (by rw [CS,Aa];exact (h.drop off).take _)
   have hp:=h.paste off hw
   have hl2:((vs.drop off).take cs.length).length=cs.length:=by rw [List.length_take,List.length_drop];omega
   have e:vs.take off++((vs.drop off).take cs.length++vs.drop (off+((vs.drop off).take cs.length).length))=vs:=by
    rw [hl2,show vs.drop (off+cs.length)=(vs.drop off).drop cs.length by rw [List.drop_drop],List.take_append_drop,List.take_append_drop]
   rw [e] at hp
   refine ⟨hp,?_⟩
   rw [Fm]
   exact G3 (R0 _ ho) (G3 hm.1 (R1 _ ho))
  ·rw [ZL,if_neg hq];exact ⟨h,ho⟩
theorem Ke:∀ {l m:List AV},DV l=true->DV m=true->DV (l++m)=true
 | [],_,_,h=>h
 | a::l,m,h,h'=>by simp [DV] at h;simp [DV,h.1,Ke h.2 h']
theorem I7 {α:Type} (A V:List α) (o i:Nat) (h:o+V.length<=A.length):(A.take o++(V++A.drop (o+V.length)))[i]? = if i<o then A[i]? else if i<o+V.length then V[i-o]? else A[i]?:=by
 have h1:(A.take o).length=o:=by rw [List.length_take];omega
 by_cases c1:i<o
 ·rw [if_pos c1,List.getElem?_append_left (by omega),List.getElem?_take_of_lt c1]
 ·rw [if_neg c1,List.getElem?_append_right (by omega),h1]
  by_cases c2:i<o+V.length
  ·rw [if_pos c2,List.getElem?_append_left (by omega)]
  ·rw [if_neg c2,List.getElem?_append_right (by omega),List.getElem?_drop]
   congr 1;omega
theorem Qj {t:TypeId} {p x:AV} {u v:Value} {i:Nat} {B:Blk} (hH:HR C hp w) (hp':Rel C w p u) (hx:Rel C w x v) (h:Fh P hp t p x=.upd i B) (lo:Nat) :
  ∃ w',(Instr.storeAt t u v).run P w=.ok () w'/\HR C (AM hp i B) w'/\Cext C w C w'/\Tr lo C w C w':=by
 unfold Fh at h
 split at h
 ·cases h
 ·rename_i hsz
  simp only [decide_eq_true_eq] at hsz
  obtain ⟨hsz,hpos⟩:=hsz
  obtain ⟨ti,hti⟩:∃ ti,P.info? t=some ti:=by
   obtain ⟨k,hk⟩:∃ k,A9 P t=k+1:=⟨A9 P t-1,by omega⟩
   exact B0 hk
  split at h
  ·rename_i j off
   split at h
   ·rename_i t' l hb
    split at h
    ·rename_i hc
     simp only [Bool.and_eq_true,decide_eq_true_eq] at hc
     injection h with h1 h2
     subst h1 h2
     cases hp' with
     | own _ _ b c n hρ =>
       have hl:=hH.live _ _ hρ
       rw [hb] at hl
       obtain ⟨vs,hr,hh⟩:=hl
       have hrx:=Iu hx hc.2
       have hlen:=hrx.len
       have hlen':=hr.len
       obtain ⟨w',hrun,hh',hk,ho,ht,hou,hs⟩:=HN (P:=P) (t:=t) (off:=off) hti hh (v:=v) (by rw [<- hsz,hlen];simp) (by
        have h1:v.cells.size=v.cells.toList.length:=by simp
        have h2:(⟨vs⟩:Array Value).size=vs.length:=rfl
        omega) (Ot hrx hc.2)
       refine ⟨w',hrun,hH.upd (B:=.cells t' (EH l off (AU x))) hρ hk hs ho ht hou (fun hx'=>⟨_,(hr.mono hx').paste off (hrx.mono hx'),hh'⟩) (DL (by rw [hb];simp)) lo⟩
    ·cases h
   ·cases h
  ·rename_i j sz' k off
   split at h
   ·rename_i e sz n el hb
    split at h
    ·rename_i hc
     simp only [Bool.and_eq_true,decide_eq_true_eq] at hc
     obtain ⟨⟨rfl,hfit⟩,hok⟩:=hc
     injection h with h1 h2
     subst h1 h2
     cases hp' with
     | elt _ _ _ _ b c n' hρ hk =>
       have hl:=hH.live _ _ hρ
       rw [hb] at hl
       obtain ⟨hm,hcap,hs0,cs,vs,hh,hcs,hcell⟩:=hl
       have hrx:=Iu hx (LV hok)
       have hlen:=hrx.len
       obtain ⟨hrk,hokk,hlk,hck⟩:=hcell k hk
       have hlk':=hrk.len
       have hA:cs.toList.length=c*sz':=(Array.length_toList).trans hcs
       have hkc:(k+1)*sz'<=c*sz':=Nat.mul_le_mul_right _ (by omega)
       rw [Nat.add_mul] at hkc
       obtain ⟨w',hrun,hh',hkp,ho,ht,hou,hs⟩:=HN (P:=P) (t:=t) (off:=k*sz'+off) hti hh (v:=v) (by rw [<- hsz,hlen];simp) (by
        have:v.cells.size=v.cells.toList.length:=by simp
        omega) (Ot hrx (LV hok))
       refine ⟨w',hrun,hH.upd hρ hkp hs ho ht hou (fun hx'=>?_) (DL (by rw [hb];simp)) lo⟩
       have hpaste:RelL C w' (EH (el k) off (AU x)) ((vs k).take off++(v.cells.toList++(vs k).drop (off+v.cells.toList.length))):=(hrk.mono hx').paste off (hrx.mono hx')
       have hplen:((vs k).take off++(v.cells.toList++(vs k).drop (off+v.cells.toList.length))).length=sz':=by
        simp only [List.length_append,List.length_take,List.length_drop];omega
       have hnew:RelL C w' (match decide (off=0/\(AU x).length=sz') with|true=>AU x|false=>EH (el k) off (AU x)) ((vs k).take off++(v.cells.toList++(vs k).drop (off+v.cells.toList.length))) /\
         DV (match decide (off=0/\(AU x).length=sz') with|true=>AU x|false=>EH (el k) off (AU x))=true:=by
        split
        ·rename_i hd
         simp only [decide_eq_true_eq] at hd
         obtain ⟨rfl,hd⟩:=hd
         have e1:(vs k).drop (0+v.cells.toList.length)=[]:=List.drop_eq_nil_of_le (by omega)
         rw [e1]
         simp only [List.take_zero,List.nil_append,List.append_nil]
         exact ⟨hrx.mono hx',hok⟩
        ·refine ⟨hpaste,?_⟩
         rw [Fm]
         exact Ke (Ow _ hokk) (Ke hok (Ox _ hokk))
       refine ⟨hm,hcap,hs0,_,fun q=>if q=k then (vs k).take off++(v.cells.toList++(vs k).drop (off+v.cells.toList.length)) else vs q,hh',?_,fun q hq=>?_⟩
       ·simp only [List.size_toArray,List.length_append,List.length_take,List.length_drop,Array.length_toList]
        have:v.cells.size=v.cells.toList.length:=by simp
        omega
       ·by_cases he:q=k
        ·subst he
         have hu:=mq (k:=q) (off:=off) (cs:=AU x) (el:=el) (us:=v.cells.toList) hnew.1 hnew.2 (hrk.mono hx') hokk (hrx.mono hx') rfl
         simp only [if_true]
         refine ⟨hu.1,hu.2,hplen,fun r hr=>?_⟩
         simp only [List.getElem?_toArray]
         rw [I7 _ _ _ _ (by omega),I7 _ _ _ _ (by omega)]
         have hold:=hck r hr
         rw [<- Array.getElem?_toList] at hold
         by_cases h1:r<off
         ·rw [if_pos (by omega),if_pos h1,hold]
         ·rw [if_neg (by omega),if_neg h1]
          by_cases h2:r<off+v.cells.toList.length
          ·rw [if_pos (by omega),if_pos h2];congr 1;omega
          ·rw [if_neg (by omega),if_neg h2,hold]
        ·simp only [he,if_false]
         have hu:=mo (off:=off) (cs:=AU x) he (c:=(match decide (off=0/\(AU x).length=sz') with|true=>AU x|false=>EH (el k) off (AU x))) (by rw [(hcell q hq).2.2.1];omega) ((hcell q hq).1.mono hx') (hcell q hq).2.1
         refine ⟨hu.1,hu.2,(hcell q hq).2.2.1,fun r hr=>?_⟩
         have hold:=(hcell q hq).2.2.2 r hr
         simp only [List.getElem?_toArray]
         rw [<- Array.getElem?_toList] at hold
         rw [I7 _ _ _ _ (by omega)]
         rcases Nat.lt_or_gt_of_ne he with hlt|hgt
         ·have:(q+1)*sz'<=k*sz':=Nat.mul_le_mul_right _ hlt
          rw [Nat.add_mul] at this
          rw [if_pos (by omega),hold]
         ·have:(k+1)*sz'<=q*sz':=Nat.mul_le_mul_right _ hgt
          rw [Nat.add_mul] at this
          rw [if_neg (by omega),if_neg (by omega),hold]
    ·cases h
   ·exfalso;revert h;repeat' split
    all_goals (intro h;cases h)
   ·exfalso;revert h;repeat' split
    all_goals (intro h;cases h)
   ·cases h
  ·cases h
theorem WJ {k j k' j':Nat} {x y z:AV} (h:ux k j k' j' x y=some z):LX z=true/\(k'=k/\j'=j->∀ (C:Cx) (w:World) (v:Value),Rel C w x v->Rel C w z v)/\(¬ (k'=k/\j'=j)->∀ (C:Cx) (w:World) (v:Value),Rel C w y v->Rel C w z v):=by
 unfold ux at h
 split at h
 ·rename_i q q' hx hy
  split at h
  ·rename_i hq
   have hq:=of_decide_eq_true hq
   subst hq
   injection h with h;subst h
   refine ⟨rfl,fun e C w v hv=>?_,fun e C w v hv=>?_⟩
   ·rw [AJ hv hx];unfold iO;rw [if_pos e];exact .si _ _
   ·rw [AJ hv hy];unfold iO;rw [if_neg e];exact .si _ _
  ·cases h
 ·split at h
  ·rename_i hx hy
   injection h with h;subst h
   refine ⟨rfl,fun e C w v hv=>?_,fun e C w v hv=>?_⟩
   ·rw [Lm hv hx];unfold iP;rw [if_pos e];exact .sb _
   ·rw [Lm hv hy];unfold iP;rw [if_neg e];exact .sb _
  ·cases h
 ·cases h
theorem mw {k j k' j':Nat} (e:k'=k/\j'=j) {c:AV} {f:Nat->Nat->AV} {v:Value} (h:Rel C w c v) (ho:LX c=true):Rel C w (Xp k j c f k' j') v/\LX (Xp k j c f k' j')=true:=by
 unfold Xp
 split
 ·rename_i l hl;have:=WJ hl;exact ⟨this.2.1 e C w v h,this.1⟩
 ·unfold gS;rw [if_pos e];exact ⟨h,ho⟩
theorem mr {k j k' j':Nat} (e:¬ (k'=k/\j'=j)) {c:AV} {f:Nat->Nat->AV} {v:Value} (h:Rel C w (f k' j') v) (ho:LX (f k' j')=true):Rel C w (Xp k j c f k' j') v/\LX (Xp k j c f k' j')=true:=by
 unfold Xp
 split
 ·rename_i l hl;have:=WJ hl;exact ⟨this.2.2 e C w v h,this.1⟩
 ·unfold gS;rw [if_neg e];exact ⟨h,ho⟩
theorem uJ {w k j k' j':Nat} (hj:j<w) (hj':j'<w):k'*w+j'=k*w+j↔k'=k/\j'=j:=by
 refine ⟨fun h=>?_,fun ⟨h1,h2⟩=>by rw [h1,h2]⟩
 rcases Nat.lt_trichotomy k' k with hl|he|hl
 ·have:=Nat.mul_le_mul_right w (show k'+1<=k from hl)
  rw [Nat.add_mul] at this;omega
 ·subst he;exact ⟨rfl,by omega⟩
 ·have:=Nat.mul_le_mul_right w (show k+1<=k' from hl)
  rw [Nat.add_mul] at this;omega
theorem Xv {t:TypeId} {p x:AV} {u v:Value} {q:Cd} {r:AR} (hH:HR C hp w) (hp':Rel C w p u) (hx:Rel C w x v) (h:Fh P hp t p x=.need q r) (hq:q.ok) (lo:Nat) :
  ∃ i B,r=.upd i B/\∃ w',(Instr.storeAt t u v).run P w=.ok () w'/\HR C (AM hp i B) w'/\Cext C w C w'/\Tr lo C w C w':=by
 unfold Fh at h
 split at h
 ·cases h
 ·rename_i hsz
  simp only [decide_eq_true_eq] at hsz
  obtain ⟨hsz,hpos⟩:=hsz
  obtain ⟨ti,hti⟩:∃ ti,P.info? t=some ti:=by
   obtain ⟨k,hk⟩:∃ k,A9 P t=k+1:=⟨A9 P t-1,by omega⟩
   exact B0 hk
  split at h
  ·exfalso;revert h;repeat' split
   all_goals (intro h;cases h)
  ·rename_i j sz' k off
   cases hp' with
   | elt _ _ _ _ b c n' hρ hk =>
   split at h
   ·exfalso;revert h;repeat' split
    all_goals (intro h;cases h)
   ·rename_i t' wd n f hb
    split at h
    ·rename_i c1 hcx
     split at h
     ·rename_i hc
      simp only [Bool.and_eq_true,decide_eq_true_eq] at hc
      obtain ⟨rfl,hok⟩:=hc
      injection h with h1 h2
      subst h1 h2
      have hoff:off<sz':=hq
      have hl:=hH.live _ _ hρ
      rw [hb] at hl
      obtain ⟨hm,hcap,hs0,cs,hh,hcs,hcell⟩:=hl
      have hrx:=Iu hx (by rw [hcx];exact LV (by simp [DV,hok]))
      rw [hcx] at hrx hsz
      generalize hvl:v.cells.toList=vl at hrx
      cases hrx with|cons _ _ vc vs h0 h1 =>
      cases h1
      have hvs:v.cells.size=1:=by have:=congrArg List.length hvl;simpa using this
      have hA:cs.toList.length=c*sz':=(Array.length_toList).trans hcs
      have hkc:(k+1)*sz'<=c*sz':=Nat.mul_le_mul_right _ (by omega)
      rw [Nat.add_mul] at hkc
      obtain ⟨w',hrun,hh',hkp,ho,ht,hou,hs⟩:=HN (P:=P) (t:=t) (off:=k*sz'+off) hti hh (v:=v) (by rw [hvs,<- hsz];rfl) (by omega) (by
       rw [hvl];intro u hu;simp at hu;subst hu
       exact JL h0 (by cases c1<;>first|rfl|exact hok))
      rw [hvl] at hh'
      refine ⟨_,_,rfl,w',hrun,hH.upd hρ hkp hs ho ht hou (fun hx'=>?_) (DL (by rw [hb];simp)) lo⟩
      refine ⟨hm,hcap,hs0,_,hh',?_,fun k' hk' j' hj'=>?_⟩
      ·simp only [List.size_toArray,List.length_append,List.length_take,List.length_drop,Array.length_toList,List.length_cons,List.length_nil]
       omega
      ·obtain ⟨hok',v',hv',hr'⟩:=hcell k' hk' j' hj'
       have hg:=I7 cs.toList [vc] (k*sz'+off) (k'*sz'+j') (by simp only [List.length_cons,List.length_nil];omega)
       simp only [List.getElem?_toArray]
       by_cases he:k'=k/\j'=off
       ·have hu:=mw (f:=f) he (h0.mono hx') hok
        refine ⟨hu.2,vc,?_,hu.1⟩
        rw [hg,he.1,he.2]
        simp
       ·have hu:=mr (c:=c1) he (hr'.mono hx') hok'
        refine ⟨hu.2,v',?_,hu.1⟩
        have hne:=mt (uJ hoff hj').1 he
        rw [hg,<- hv',<- Array.getElem?_toList]
        simp only [List.length_cons,List.length_nil]
        by_cases h2:k'*sz'+j'<k*sz'+off
        ·rw [if_pos h2]
        ·rw [if_neg h2,if_neg (by omega)]
     ·cases h
    ·cases h
   ·rename_i e e' sz2 n fz ln el hol hb
    split at h
    ·rename_i g k0 xo hcx
     split at h
     ·rename_i hc
      simp only [decide_eq_true_eq] at hc
      obtain ⟨rfl,rfl⟩:=hc
      injection h with h1 h2
      subst h1 h2
      have hk0:k=k0:=hq
      subst hk0
      have hl:=hH.live _ _ hρ
      rw [hb] at hl
      obtain ⟨hm,hcap,hs0,cs,hh,hcs,hcell⟩:=hl
      have hrx:=Iu hx (by rw [hcx];rfl)
      rw [hcx] at hrx hsz
      generalize hvl:v.cells.toList=vl at hrx
      cases hrx with|cons _ _ vc vs h0 h1 =>
      cases h1
      have hvs:v.cells.size=1:=by have:=congrArg List.length hvl;simpa using this
      have hA:cs.toList.length=c:=(Array.length_toList).trans hcs
      obtain ⟨w',hrun,hh',hkp,ho,ht,hou,hs⟩:=HN (P:=P) (t:=t) (off:=k*1+0) hti hh (v:=v) (by rw [hvs,<- hsz];rfl) (by omega) (by
       rw [hvl];intro u hu;simp at hu;subst hu
       exact JL h0 rfl)
      rw [hvl] at hh'
      refine ⟨_,_,rfl,w',hrun,hH.upd hρ hkp hs ho ht hou (fun hx'=>?_) (DL (by rw [hb];simp)) lo⟩
      refine ⟨hm,hcap,hs0,_,hh',?_,fun k' hk'=>?_⟩
      ·simp only [List.size_toArray,List.length_append,List.length_take,List.length_drop,Array.length_toList,List.length_cons,List.length_nil]
       omega
      ·obtain ⟨v',hv',hr',hn'⟩:=hcell k' hk'
       have hg:=I7 cs.toList [vc] (k*1+0) k' (by simp only [List.length_cons,List.length_nil];omega)
       simp only [List.getElem?_toArray]
       by_cases he:k'=k
       ·subst he
        refine ⟨vc,?_,fun g' e'=>?_,fun hno=>(hno ⟨_,rfl⟩).elim⟩
        ·rw [hg];simp
        ·injection e' with e';injection e' with e1 e2;injection e2 with e2;subst e2
         exact h0.mono hx'
       ·refine ⟨v',?_,fun g' e'=>?_,fun hno=>?_⟩
        ·rw [hg,<- hv',<- Array.getElem?_toList]
         simp only [List.length_cons,List.length_nil]
         by_cases h2:k'<k*1+0
         ·rw [if_pos h2]
         ·rw [if_neg h2,if_neg (by omega)]
        ·injection e' with e';injection e' with e1 e2;exact absurd e1.symm he
        ·have hno':¬ GM (some (k,xo)) k':=fun ⟨y,hy⟩=>he (by injection hy with hy;injection hy with h1 h2;exact h1.symm)
         refine ⟨fun hf=>((hn' hno').1 hf).mono hx',fun hf=>((hn' hno').2 hf).mono (fun b' x hb'=>⟨hb',hkp b' fun e=>(hH.sub b' x hb').2.2.1 _ _ _ _ hρ e.symm⟩) fun _ h=>h.mono hx'⟩
     ·cases h
    ·cases h
   ·cases h
  ·cases h
end
end Abs
end Go.Proofs.YtccgngldoinokaaGreat

namespace Go.Proofs.YtccgngldoinokaaGreat
namespace Abs
open Go Go.RowKit
section
variable {P:Program} {S:Sums} {C C':Cx} {w w':World} {H hp:A0}
def lT (n:Nat) (f g:Nat->List Value) (k:Nat):List Value:=if k<n then f k else g (k-n)
theorem kk (n:Nat) (f g:Nat->List Value):∀ m,G6 (lT n f g) (n+m)=G6 f n++G6 g m:=by
 intro m
 induction m with
 | zero =>
   simp only [Nat.add_zero,G6,List.range_zero,List.flatMap_nil,List.append_nil]
   rw [List.flatMap_def,List.flatMap_def]
   congr 1
   apply List.map_congr_left
   intro k hk
   simp [lT,List.mem_range.1 hk]
 | succ m ih =>
   rw [<- Nat.add_assoc,K7,K7,ih,List.append_assoc]
   congr 2
   unfold lT
   rw [if_neg (by omega)]
   congr 1;omega
theorem Tj {e:TypeId} {sz b c q:Nat} {n:LN} {el:Nat->List AV} (h:BRel C w (.at b c q) (.row e sz n el)) :
  ∃ vs:Nat->List Value,w.ownsRow 0 e sz (.slice (some ⟨b,0,none⟩) q c) q (G6 vs q)/\∀ k,k<q->RelL C w (el k) (vs k)/\DV (el k)=true/\(vs k).length=sz:=by
 obtain ⟨hm,hcap,hs0,cs,vs,hh,hcs,hcell⟩:=h
 have hfl:=IA (m:=q) (fun k hk=>(hcell k hk).2.2.1)
 refine ⟨vs,⟨hfl,.inr ⟨b,c,cs,rfl,Nat.zero_le _,hh,hcap,hs0.2,hcs,?_⟩⟩,fun k hk=>⟨(hcell k hk).1,(hcell k hk).2.1,(hcell k hk).2.2.1⟩⟩
 have hle:q*sz<=c*sz:=Nat.mul_le_mul_right _ hcap
 apply List.ext_getElem?
 intro r
 by_cases hr:r<q*sz
 ·obtain ⟨k,j,hk,hj,rfl⟩:=KB hs0.1 hr
  rw [List.getElem?_take_of_lt hr,Jg (fun k hk=>(hcell k hk).2.2.1) hk hj,<- (hcell k hk).2.2.2 j hj]
  simp
 ·rw [List.getElem?_eq_none (by simp;omega),List.getElem?_eq_none (by omega)]
theorem NS {t ty e:TypeId} {i lo:Nat} {x:AV} {u v:Value} {n m:LN} {sz:Nat} {el elx:Nat->List AV} {z:List AV} (hH:HR C hp w) (ht:P.underlying t=some (.slice e)) (hs:Rel C w (.row i) u)
  (hb:A3 hp i=.row e sz n el) (hx:Rel C w x v) (hr:NF hp x=some (m,sz,elx)) (hsz:sz=A9 P e) (hpos:0<sz) (hz:FD P e=some z) (hbytes:(n.val+m.val)*(DJ P e+1)<=CV) (AQ:lo<=i) :
  ∃ u' w' C',(Builtin.append_ #[t,t] ty #[u,v]).run P w=.ok u' w'/\Turn i .top C w C' w'/\HR C' (AM (E5 (EJ i .top) hp) i (.row e sz (T4 n m) (fL n el elx))) w'/\Rel C' w' (.row i) u'/\Tr lo C w C' w':=by
 obtain ⟨A,c0,vx,rfl,hcap0,hA,hel⟩:=VT hH (fun _ _=>rfl) hx hr
 obtain ⟨ti,z0,hi,hz0,hzs,rfl⟩:=Dc hz
 have hszi:ti.size=sz:=by rw [hsz];simp [A9,hi]
 have hby:ti.bytes=DJ P e:=by simp [DJ,hi]
 obtain ⟨hb1,hb2⟩:=M9 hbytes
 have hj:i<hp.length:=DL (by rw [hb];simp)
 have stay:(Builtin.append_ #[t,t] ty #[u,.slice A m.val c0]).run P w=.ok u w->m.val=0 ->
   ∃ u' w' C',(Builtin.append_ #[t,t] ty #[u,.slice A m.val c0]).run P w=.ok u' w'/\Turn i .top C w C' w'/\HR C' (AM (E5 (EJ i .top) hp) i (.row e sz (T4 n m) (fL n el elx))) w'/\Rel C' w' (.row i) u'/\Tr lo C w C' w':=by
  intro hrun h0
  have htn:Turn i .top C w C w:=⟨fun _ _=>rfl,fun _ h=>h,fun _ _=>rfl,fun v _=>.top v⟩
  refine ⟨u,w,C,hrun,htn,htn.hr hH hj (fun _ _ _ _ _ _=>rfl) (Nat.le_refl _) (fun p hp'=>?_) (fun b c q h=>?_) (fun b h=>⟨hH.ilt b h,fun i' c q _ hi'=>(hH.fresh _ _ _ _ hi').2 h⟩) (fun _=>rfl) (fun b x hb'=>⟨rfl,(hH.sub b x hb').2.1,fun b' c q h=>(hH.sub b x hb').2.2.1 _ _ _ _ h⟩),hs,?_⟩
  ·have hl:=hH.live _ _ hp'
   rw [hb] at hl
   match p,hl with
   | .nil,hl =>
     obtain ⟨h1,h2⟩:n.val=0/\_:=hl
     exact ⟨by rw [IM];omega,h2⟩
   | .at b c q,hl =>
     obtain ⟨hm,hcap,hs0,cs,vs,hh,hcs,hcell⟩:=hl
     refine ⟨by rw [IM];omega,hcap,hs0,cs,vs,hh,hcs,fun k hk=>?_⟩
     rw [Nx,if_pos (by omega)]
     exact hcell k hk
  ·exact ⟨(hH.fresh _ _ _ _ h).1,(hH.fresh _ _ _ _ h).2,fun i' b' c' n' hi' h'=>hH.inj _ _ _ _ _ _ _ _ h' h hi'⟩
  ·exact ⟨rfl,rfl,rfl,Nat.le_refl _,fun _ _ _ _=>rfl,fun _ h=>h,fun _ h=>.inl h,fun _ _=>rfl,fun i' b' c' n' h h'=>.inl ⟨i',c',n',h,h'⟩,fun b x hb'=>.inl ⟨x,hb'⟩⟩
 cases A with
 | none =>
   have h0:m.val=0:=by
    rcases Nat.eq_zero_or_pos m.val with h|h
    ·exact h
    ·obtain ⟨ad,h1,_⟩:=hA h;cases h1
   refine stay ?_ h0
   have hc0:∀ A (q c:Nat),q<=c->(Builtin.append_ #[t,t] ty #[.slice A q c,.slice none m.val c0]).run P w=.ok (.slice A q c) w:=fun A q c hc=>by
    rw [h0]
    cases A with
    | none=>simp [Builtin.append_,run_underlying ht,sizeOf,typeInfo,hi,Builtin.lenOf,hc,Builtin.firstCells]
    | some a=>simp [Builtin.append_,run_underlying ht,sizeOf,typeInfo,hi,Builtin.lenOf,hc,Builtin.firstCells,storeCells]
   cases hs with
   | row _ b c q hρ =>
     have hl:=hH.live _ _ hρ
     rw [hb] at hl
     exact hc0 _ _ _ hl.2.1
   | rown _ hρ=>exact hc0 _ _ _ (Nat.le_refl _)
 | some ad =>
   have hAc:∀ j y,(G6 vx m.val)[j]? = some y->w.cell? (ad.add j)=some y:=fun j y hj'=>by
    have hl:=IA (fun k hk=>(hel k hk).2.2)
    have hjl:j<m.val*sz:=by rw [<- hl];exact (List.getElem?_eq_some_iff.1 hj').1
    obtain ⟨k,r,hk,hr',rfl⟩:=KB hpos hjl
    obtain ⟨ad',h1,_,hc⟩:=hA (by omega)
    injection h1 with h1;subst h1
    rw [hc k hk r hr',<- Jg (fun k hk=>(hel k hk).2.2) hk hr',hj']
   have hone:=Ph (p:=fun u=>u.oneCell'=true) (m:=m.val) (fun k hk u hu=>Nj (hel k hk).1 (hel k hk).2.1 u hu)
   obtain ⟨q,vs,hn,hown,hels⟩:∃ (q:Nat) (vs:Nat->List Value),n.val=q/\w.ownsRow 0 e sz u q (G6 vs q)/\∀ k,k<q->RelL C w (el k) (vs k)/\DV (el k)=true/\(vs k).length=sz:=by
    cases hs with
    | row _ b c q hρ =>
      have hl:=hH.live _ _ hρ
      rw [hb] at hl
      obtain ⟨vs,h1,h2⟩:=Tj hl
      exact ⟨q,vs,hl.1,h1,h2⟩
    | rown _ hρ =>
      have hl:=hH.live _ _ hρ
      rw [hb] at hl
      exact ⟨0,fun _=>[],hl.1,World.ownsRow_nil w 0 e sz,fun k hk=>by omega⟩
   obtain ⟨u',w',hrun,hown',hgrow,hnil,hat⟩:=run_append_own_at (P:=P) w 0 t ty e ti z0 sz (DJ P e) ht hi hz0 hszi hby (by omega) hpos u q (G6 vs q) hown ad m.val c0 (G6 vx m.val) (IA (fun k hk=>(hel k hk).2.2)) hAc hone
    (by omega) (by rw [<- hn];exact hb2) (Nat.zero_le _)
   rw [<- kk] at hown'
   have hown2:=hown'
   obtain ⟨_,⟨h1,h2⟩|⟨g,cap,cur,hv,_,hh,_⟩⟩:=hown'
   ·-- nil stays nil
    have hu:=(hnil.1 h1).1
    refine stay ?_ (by omega)
    rw [hu]
    rw [show m.val=0 by omega]
    simp [Builtin.append_,run_underlying ht,sizeOf,typeInfo,hi,Builtin.lenOf,Builtin.firstCells,loadCells,loadCellsFrom]
   ·subst hv
    have hlt':g<w'.heap.size:=by
     rcases Nat.lt_or_ge g w'.heap.size with h|h
     ·exact h
     ·rw [Array.getElem?_eq_none h] at hh;cases hh
    have hnoI:∀ b,C.I b->some b≠u.ownBlock:=fun b hb'=>by
     cases hs with
     | row _ b0 c q hρ=>simp only [Value.ownBlock];exact fun e=>(hH.fresh _ _ _ _ hρ).2 (by injection e with e;rw [<- e];exact hb')
     | rown _ hρ=>simp [Value.ownBlock]
    have hno:∀ i' b c n',i'≠i->C.ρ i'=some (.at b c n')->some b≠u.ownBlock:=fun i' b c n' hne h=>by
     cases hs with
     | row _ b0 c q hρ=>simp only [Value.ownBlock];exact fun e=>hH.inj _ _ _ _ _ _ _ _ h hρ hne (by injection e)
     | rown _ hρ=>simp [Value.ownBlock]
    have hnoO:∀ b x,C.O b=some x->some b≠u.ownBlock:=fun b x hb'=>by
     cases hs with
     | row _ b0 c q hρ=>simp only [Value.ownBlock];exact fun e=>(hH.sub b x hb').2.2.1 _ _ _ _ hρ (by injection e with e;exact e.symm)
     | rown _ hρ=>simp [Value.ownBlock]
    have hg:(∃ c n',C.ρ i=some (.at g c n'))\/g=w.heap.size:=by
     rcases hat with h|h
     ·cases hs with
      | row _ b0 c q hρ=>simp only [Value.ownBlock] at h;injection h with h;exact .inl ⟨c,_,by rw [h];exact hρ⟩
      | rown _ hρ=>simp [Value.ownBlock] at h
     ·simp only [Value.ownBlock] at h;injection h with h;exact .inr h
    let C':Cx:=⟨fun k=>if k=i then some (.at g cap (q+m.val)) else C.ρ k,C.I,C.O⟩
    have hci:C'.ρ i=some (.at g cap (q+m.val)):=by simp [C']
    have htn:Turn i .top C w C' w':=⟨fun k hk=>by simp [C',hk],fun _ h=>h,fun b hb'=>hgrow.block b (hH.ilt b hb') (hnoI b hb'),fun v _=>.top v⟩
    refine ⟨_,w',C',hrun,htn,htn.hr hH hj (fun k b c n' hk h=>hgrow.block b (hH.fresh _ _ _ _ h).1 (hno _ _ _ _ hk h)) hgrow.size (fun p hp'=>?_) (fun b c n' h=>?_) (fun b h=>⟨Nat.lt_of_lt_of_le (hH.ilt b h) hgrow.size,fun k c n' _ hk=>(hH.fresh _ _ _ _ hk).2 h⟩) (fun _=>rfl) (fun b x hb'=>⟨hgrow.block b (hH.sub b x hb').1 (hnoO b x hb'),(hH.sub b x hb').2.1,fun b' c n' h e=>?_⟩),.row _ _ _ _ hci,?_⟩
    ·rw [hci] at hp';injection hp' with hp';subst hp'
     refine Vc hpos (by rw [IM];omega) hown2 fun k hk=>?_
     rw [Nx,hn]
     by_cases hkq:k<q
     ·simp only [lT,hkq,if_true]
      exact ⟨RelL.still (C:=C) (C':=C') (fun _ h=>h) htn.blk (hels k hkq).1 (Ca (hels k hkq).2.1),(hels k hkq).2⟩
     ·simp only [lT,hkq,if_false]
      have:=hel (k-q) (by omega)
      exact ⟨RelL.still (C:=C) (C':=C') (fun _ h=>h) htn.blk this.1 (Ca this.2.1),this.2⟩
    ·rw [hci] at h;injection h with h;injection h with h1 h2 h3
     subst h1
     refine ⟨hlt',fun hI=>?_,fun k b' c' n'' hk h' e=>?_⟩
     ·rcases hg with ⟨c1,n1,hρ⟩|hgs
      ·exact (hH.fresh _ _ _ _ hρ).2 hI
      ·have:=hH.ilt _ hI;omega
     ·rcases hg with ⟨c1,n1,hρ⟩|hgs
      ·exact hH.inj _ _ _ _ _ _ _ _ h' hρ hk e
      ·have:=(hH.fresh _ _ _ _ h').1;omega
    ·rw [hci] at h;injection h with h;injection h with h1 h2 h3
     subst h1
     rcases hg with ⟨c1,n1,hρ⟩|hgs
     ·exact (hH.sub b x hb').2.2.1 _ _ _ _ hρ e
     ·have:=(hH.sub b x hb').1;omega
    ·refine ⟨hgrow.os,hgrow.tape,hgrow.output,hgrow.size,fun k hk hnk _=>hgrow.block k hk ?_,fun _ h=>h,fun _ h=>.inl h,fun k hk=>by simp [C',show k≠i by omega],fun k b c n' hk h=>?_,fun b x hb'=>.inl ⟨x,hb'⟩⟩
     ·cases hs with
      | row _ b0 c q hρ=>simp only [Value.ownBlock];exact fun e=>hnk _ _ _ _ hρ (by injection e with e;exact e.symm)
      | rown _ hρ=>simp [Value.ownBlock]
     ·by_cases hki:k=i
      ·subst hki
       rw [hci] at h;injection h with h;injection h with h1 h2 h3
       subst h1
       rcases hg with ⟨c1,n1,hρ⟩|hgs
       ·exact .inl ⟨k,c1,n1,hk,hρ⟩
       ·exact .inr (.inl (by omega))
      ·simp [C',hki] at h;exact .inl ⟨k,c,n',hk,h⟩
end
end Abs
end Go.Proofs.YtccgngldoinokaaGreat

namespace Go.Proofs.YtccgngldoinokaaGreat
namespace Abs
open Go Go.RowKit
def RelG (T:List Cnd) (C:Cx) (w:World) (a:AV) (v:Value):Prop :=
 Rel C w a v/\∀ k b,a=.gd k b->∃ x,T[k]? = some x/\(x.c=true->Rel C w b v)/\(x.c=false->v=undef)
structure FR (T:List Cnd) (C:Cx) (w:World) (fr:List AV) (tm:Array Value):Prop where
 len:fr.length=tm.size
 get:∀ t,RelG T C w (A4 fr t) (tm.getD t undef)
def EW:AV->Prop
 | .gd _ _=>False
 | _=>True
theorem RelG.plain {T:List Cnd} {C:Cx} {w:World} {a:AV} {v:Value} (h:Rel C w a v) (hn:EW a):RelG T C w a v :=
 ⟨h,fun k b e=>by subst e;exact hn.elim⟩
theorem BQ (a:AV):EW (DN a):=by cases a<;>simp [DN,EW]
theorem Du {C:Cx} {w:World} {a:AV} {v:Value} (h:Rel C w a v):Rel C w (DN a) v:=by
 cases a<;>first|exact h|exact .top _
section
variable {P:Program} {S:Sums} {C C':Cx} {w w':World} {H hp:A0} {T:List Cnd}
theorem RelG.mono (hx:Cext C w C' w') {a:AV} {v:Value} (h:RelG T C w a v):RelG T C' w' a v :=
 ⟨h.1.mono hx,fun k b e=>by
  obtain ⟨x,h1,h2,h3⟩:=h.2 k b e
  exact ⟨x,h1,fun hc=>(h2 hc).mono hx,h3⟩⟩
theorem FR.mono (hx:Cext C w C' w') {fr:List AV} {tm:Array Value} (h:FR T C w fr tm):FR T C' w' fr tm:=⟨h.len,fun t=>(h.get t).mono hx⟩
theorem F9 (f:Nat->Option AV):∀ (l:List AV) (t:Nat),A4 (mapR.mapRL f l) t=mapR f (A4 l t)
 | [],_=>rfl
 | _::_,0=>rfl
 | _::l,t+1=>F9 f l t
theorem Hz (f:Nat->Option AV):∀ l:List AV,(mapR.mapRL f l).length=l.length
 | []=>rfl
 | _::l=>by simp [mapR.mapRL,Hz f l]
theorem bG {j k:Nat} {a x b:AV} (ha:EW a) (h:mapR (EJ j a) x=.gd k b):∃ b',x=.gd k b'/\b=mapR (EJ j a) b':=by
 cases x with
 | gd k' b'=>simp only [mapR] at h;injection h with h1 h2;subst h1;exact ⟨b',rfl,h2.symm⟩
 | own i o=>simp only [mapR] at h;split at h<;>cases h
 | elt i s q o=>simp only [mapR] at h;split at h<;>cases h
 | lsl i n s=>simp only [mapR] at h;split at h<;>cases h
 | mp i=>simp only [mapR] at h;split at h<;>cases h
 | row i =>
   simp only [mapR] at h
   split at h
   ·rename_i hh
    unfold EJ at hh
    split at hh
    ·injection hh with hh;subst hh;subst h;exact ha.elim
    ·cases hh
   ·cases h
 | _=>simp only [mapR] at h;cases h
theorem Turn.frame {j:Nat} {a:AV} (t:Turn j a C w C' w') (ha:EW a) {fr:List AV} {tm:Array Value} (h:FR T C w fr tm):FR T C' w' (mapR.mapRL (EJ j a) fr) tm:=by
 refine ⟨by rw [Hz,h.len],fun q=>?_⟩
 rw [F9]
 have hq:=h.get q
 refine ⟨t.rel hq.1,fun k b e=>?_⟩
 obtain ⟨b',h1,h2⟩:=bG ha e
 obtain ⟨x,hx,h3,h4⟩:=hq.2 k b' h1
 exact ⟨x,hx,fun hc=>h2▸t.rel (h3 hc),h4⟩
theorem E9:∀ (l:List AV) (d t:Nat) (a:AV),A4 (Ay l d a) t=if t=d/\d<l.length then a else A4 l t
 | [],d,t,a=>by simp [Ay,Ws]
 | x::l,0,0,a=>by simp [Ay,Ej]
 | x::l,0,t+1,a=>by simp [Ay,CO]
 | x::l,d+1,0,a=>by simp [Ay,Ej]
 | x::l,d+1,t+1,a=>by simp [Ay,CO,E9 l d t a]
theorem Ea:∀ (l:List AV) (d:Nat) (a:AV),(Ay l d a).length=l.length
 | [],_,_=>rfl
 | _::_,0,_=>rfl
 | _::l,d+1,a=>by simp [Ay,Ea l d a]
def CT (fr:List AV) (d:Option Nat) (a:AV):List AV:=match d with|none=>fr|some d=>Ay fr d a
theorem FR.put {fr:List AV} {act:Act} (h:FR T C w fr act.tmps) {a:AV} {v:Value} (ha:RelG T C w a v) (d:Option Nat):FR T C w (CT fr d a) (act.put d v).tmps:=by
 cases d with
 | none=>exact h
 | some d =>
   refine ⟨by simp [CT,Act.put,Ea,h.len],fun t=>?_⟩
   show RelG T C w (A4 (Ay fr d a) t) ((act.tmps.setIfInBounds d v).getD t undef)
   rw [E9]
   by_cases ht:t=d/\d<fr.length
   ·obtain ⟨rfl,hlt⟩:=ht
    rw [if_pos ⟨rfl,hlt⟩,Array.getD_eq_getD_getElem?,Array.getElem?_setIfInBounds_self_of_lt (by rw [<- h.len];exact hlt)]
    exact ha
   ·rw [if_neg ht]
    have:(act.tmps.setIfInBounds d v).getD t undef=act.tmps.getD t undef:=by
     rw [Array.getD_eq_getD_getElem?,Array.getD_eq_getD_getElem?,Array.getElem?_setIfInBounds]
     by_cases hd:d=t
     ·subst hd
      have hge:act.tmps.size<=d:=by rw [<- h.len];omega
      simp [Nat.not_lt.2 hge]
     ·simp [hd]
    rw [this];exact h.get t
def AncOK (T:List Cnd) (c:Bool) (anc:List Nat):Prop:=∀ k,Eh k anc=true->∃ x,T[k]? = some x/\(c=true->x.c=true)
theorem IW:∀ l:List Value,RelL C w (l.map .v) l
 | []=>.nil
 | x::l=>.cons _ _ _ _ (.v x) (IW l)
theorem wA {fr:List AV} {act:Act} (h:FR T C w fr act.tmps) {c:Bool} (hc:c=true) {anc:List Nat} (ha:AncOK T c anc) (x:Operand):Rel C w (evU anc fr x) (act.eval x):=by
 unfold evU
 cases x with
 | tmp t =>
   have ht:=h.get t
   show Rel C w (Dk anc (A4 fr t)) (act.tmps.getD t undef)
   generalize A4 fr t=a at ht
   cases a<;>try exact ht.1
   case gd k b =>
    simp only [Dk]
    split
    ·rename_i hm
     obtain ⟨y,hy,hy'⟩:=ha k hm
     obtain ⟨x,hx,h1,_⟩:=ht.2 k b rfl
     rw [hy] at hx;injection hx with hx;subst hx
     exact h1 (hy' hc)
    ·exact .top _
 | const v =>
   show Rel C w (Dk anc (ev fr (.const v))) v
   cases v<;>try exact .v _
   ·exact .lb _
   ·exact .li _ _
   ·exact .fn _ _ _ _ _ (IW _) (IW _)
   ·exact .agg _ _ (IW _)
   ·exact .tup _ _ (IW _)
 | global g=>exact .v _
 | func f=>exact .fn _ _ _ _ _ .nil .nil
inductive BO (S:Sums):List AV->A0->AR->List AV->A0->AV->Prop
 | val (fr:List AV) (hp:A0) (a:AV):BO S fr hp (.val a) fr hp a
 | need (fr:List AV) (hp:A0) (p:Cd) (r:AR) (fr':List AV) (hp':A0) (a:AV) (h:p.ok) (h':BO S fr hp r fr' hp' a):BO S fr hp (.need p r) fr' hp' a
 | brt (fr:List AV) (hp:A0) (t e:AR) (fr':List AV) (hp':A0) (a:AV) (h:BO S fr hp t fr' hp' a):BO S fr hp (.br true t e) fr' hp' a
 | brf (fr:List AV) (hp:A0) (t e:AR) (fr':List AV) (hp':A0) (a:AV) (h:BO S fr hp e fr' hp' a):BO S fr hp (.br false t e) fr' hp' a
 | blk (fr:List AV) (hp:A0) (b:Blk) (mk:Nat->AV):BO S fr hp (.blk b mk) fr (hp++[b]) (mk hp.length)
 | upd (fr:List AV) (hp:A0) (i:Nat) (b:Blk):BO S fr hp (.upd i b) fr (AM hp i b) (.tup [])
 | grow (fr:List AV) (hp:A0) (i:Nat) (b:Blk) (hl:S.lo<=i):BO S fr hp (.grow i b) (mapR.mapRL (EJ i .top) fr) (AM (E5 (EJ i .top) hp) i b) (.row i)
 | frz (fr:List AV) (hp:A0) (j:Nat) (a:AV) (r:AR) (fr':List AV) (hp':A0) (x:AV) (hl:S.lo<=j)
   (h:BO S (mapR.mapRL (EJ j a) fr) (AM (E5 (EJ j a) hp) j .dead) r fr' hp' x):BO S fr hp (.frz j a r) fr' hp' x
 | one (fr:List AV) (hp:A0) (f:FuncId) (args:List AV) (a:AV) (new:A0) (h:PO S hp (.call f args) a new):BO S fr hp (.call f args) fr (hp++new) a
 | two (fr:List AV) (hp:A0) (f:FuncId) (args:List AV) (s2:Ey) (pre:List Cd) (res:AV) (hp2:A0) (h2:AL S.two f=some s2)
   (hs:s2 args hp=some ⟨pre,res,hp2,none⟩) (hl:hp.length<=hp2.length) (hpre:∀ p∈pre,p.ok) (hnr:Fw hp=true):BO S fr hp (.call f args) fr hp2 res
 | mov (fr:List AV) (hp:A0) (f:FuncId) (args:List AV) (s2:Ey) (pre:List Cd) (res:AV) (hp2:A0) (j:Nat) (h2:AL S.two f=some s2)
   (hs:s2 args hp=some ⟨pre,res,hp2,some j⟩) (hl:hp.length<=hp2.length) (hpre:∀ p∈pre,p.ok) (hnr:Fw hp=true) (hj:S.lo<=j):BO S fr hp (.call f args) (mapR.mapRL (EJ j .top) fr) hp2 res
theorem PO.bo {r:AR} {a:AV} {new:A0} (h:PO S hp r a new) (fr:List AV):BO S fr hp r fr (hp++new) a:=by
 induction h with
 | val a=>rw [List.append_nil];exact .val _ _ _
 | need p r a new h h' ih=>exact .need _ _ _ _ _ _ _ h ih
 | brt t e a new h ih=>exact .brt _ _ _ _ _ _ _ ih
 | brf t e a new h ih=>exact .brf _ _ _ _ _ _ _ ih
 | blk b mk=>exact .blk _ _ _ _
 | call f args s1 pre res new h2 h1 hs hg hpre hcn=>exact .one _ _ _ _ _ _ (.call f args s1 pre res new h2 h1 hs hg hpre hcn)
theorem U6 (hp:A0):∀ l:List AV,WN hp l=l.map (GC 5 hp)
 | []=>rfl
 | a::l=>by simp [WN,U6 hp l]
theorem Cy (anc:List Nat) (fr:List AV):∀ (l:List Nat) (k:List (Nat × AV)->VC),He anc fr l k=k (l.map fun t=>(t,Dk anc (A4 fr t)))
 | [],_=>rfl
 | t::l,k=>by simp [He,Dz,Cy anc fr l]
theorem SH (anc:List Nat) (fr:List AV) (t:Nat):∀ l:List Nat,JX (l.map fun t=>(t,Dk anc (A4 fr t))) t=Dk anc (A4 fr t)\/JX (l.map fun t=>(t,Dk anc (A4 fr t))) t=.top
 | []=>.inr rfl
 | u::l=>by
   simp only [List.map_cons,PR]
   split
   ·rename_i h;rw [Nat.eq_of_beq_eq_true h];exact .inl rfl
   ·exact SH anc fr t l
theorem cS (anc:List Nat) (fr:List AV) (l:List Nat) (x:Operand):Ks (l.map fun t=>(t,Dk anc (A4 fr t))) x=evU anc fr x\/Ks (l.map fun t=>(t,Dk anc (A4 fr t))) x=.top:=by
 cases x with
 | tmp t=>exact SH anc fr t l
 | const v=>left;cases v<;>rfl
 | global g=>exact .inl rfl
 | func f=>exact .inl rfl
theorem EB {R:AV->A0->Prop}:∀ {l:List Cd} {k:VC},(needs l k).sat R->(∀ p∈l,p.ok)/\k.sat R
 | [],k,h=>⟨fun p hp=>by simp at hp,h⟩
 | p::l,k,h=>by
   obtain ⟨h1,h2⟩:=EB h.2
   exact ⟨fun q hq=>by
    rcases List.mem_cons.1 hq with rfl|hq
    ·exact h.1
    ·exact h1 q hq,h2⟩
theorem gQ {R:AV->A0->Prop} {nb:Bool}:∀ {r:AR} {fr:List AV} {hp:A0} {K:List AV->A0->AV->VC},(r.vc S nb fr hp K).sat R ->
  (∃ a new,PO S hp r a new/\(K fr (hp++new) a).sat R)\/(nb=true/\∃ fr' hp' a,BO S fr hp r fr' hp' a/\(K fr' hp' a).sat R):=by
 intro r
 induction r with
 | fail=>intro fr hp K h;exact h.elim
 | val a =>
   intro fr hp K h
   simp only [AR.vc,AT] at h
   exact .inl ⟨a,[],.val a,by rwa [List.append_nil]⟩
 | need p r ih =>
   intro fr hp K h
   rcases ih h.2 with ⟨a,new,h1,h2⟩|⟨hn,fr',hp',a,h1,h2⟩
   ·exact .inl ⟨a,new,.need _ _ _ _ h.1 h1,h2⟩
   ·exact .inr ⟨hn,fr',hp',a,.need _ _ _ _ _ _ _ h.1 h1,h2⟩
 | br b t e iht ihe =>
   intro fr hp K h
   cases b with
   | true =>
     rcases iht (h.1 rfl) with ⟨a,new,h1,h2⟩|⟨hn,fr',hp',a,h1,h2⟩
     ·exact .inl ⟨a,new,.brt _ _ _ _ h1,h2⟩
     ·exact .inr ⟨hn,fr',hp',a,.brt _ _ _ _ _ _ _ h1,h2⟩
   | false =>
     rcases ihe (h.2 rfl) with ⟨a,new,h1,h2⟩|⟨hn,fr',hp',a,h1,h2⟩
     ·exact .inl ⟨a,new,.brf _ _ _ _ h1,h2⟩
     ·exact .inr ⟨hn,fr',hp',a,.brf _ _ _ _ _ _ _ h1,h2⟩
 | blk b mk =>
   intro fr hp K h
   simp only [AR.vc,A8,GW] at h
   exact .inl ⟨_,_,.blk b mk,h⟩
 | upd i b =>
   intro fr hp K h
   cases nb with
   | false=>exact h.elim
   | true =>
     simp only [AR.vc,A8] at h
     exact .inr ⟨rfl,_,_,_,.upd _ _ _ _,h⟩
 | grow i b =>
   intro fr hp K h
   simp only [AR.vc] at h
   split at h
   ·rename_i hh
    simp only [Bool.and_eq_true] at hh
    simp only [AK,A8] at h
    exact .inr ⟨hh.1,_,_,_,.grow _ _ _ _ (Nat.le_of_ble_eq_true hh.2),h⟩
   ·exact h.elim
 | frz j a r ih =>
   intro fr hp K h
   simp only [AR.vc] at h
   split at h
   ·rename_i hh
    simp only [Bool.and_eq_true] at hh
    simp only [AK,A8] at h
    rcases ih h with ⟨x,new,h1,h2⟩|⟨hn,fr',hp',x,h1,h2⟩
    ·exact .inr ⟨hh.1,_,_,_,.frz _ _ _ _ _ _ _ _ (Nat.le_of_ble_eq_true hh.2) (h1.bo _),h2⟩
    ·exact .inr ⟨hn,_,_,_,.frz _ _ _ _ _ _ _ _ (Nat.le_of_ble_eq_true hh.2) h1,h2⟩
   ·exact h.elim
 | call f args =>
   intro fr hp K h
   simp only [AR.vc] at h
   split at h
   ·rename_i s2 h2
    split at h
    ·rename_i pre res hp2 mv hnb hs
     simp only [Bool.and_eq_true] at hnb
     split at h
     ·rename_i hl
      cases mv with
      | none =>
        obtain ⟨h3,h4⟩:=EB h
        rw [A8,AT] at h4
        exact .inr ⟨hnb.1,_,_,_,.two _ _ _ _ s2 pre res hp2 h2 hs (Nat.le_of_ble_eq_true hl) h3 hnb.2,h4⟩
      | some j =>
        dsimp only at h
        split at h
        ·rename_i hj
         obtain ⟨h3,h4⟩:=EB h
         rw [AK,A8,AT] at h4
         exact .inr ⟨hnb.1,_,_,_,.mov _ _ _ _ s2 pre res hp2 j h2 hs (Nat.le_of_ble_eq_true hl) h3 hnb.2 (Nat.le_of_ble_eq_true hj),h4⟩
        ·exact h.elim
     ·exact h.elim
    ·exact h.elim
   ·rename_i h2
    split at h
    ·rename_i s1 h1
     rw [AK,U6] at h
     split at h
     ·rename_i pre res new hs
      split at h
      ·rename_i hg
       obtain ⟨h3,h4⟩:=EB h
       obtain ⟨h5,h6⟩:=EB h4
       rw [A8,AT,GW] at h6
       exact .inl ⟨_,_,.call f args s1 pre res new h2 h1 hs hg h3 h5,h6⟩
      ·exact h.elim
     ·exact h.elim
    ·exact h.elim
end
end Abs
end Go.Proofs.YtccgngldoinokaaGreat

namespace Go.Proofs.YtccgngldoinokaaGreat
namespace Abs
open Go Go.RowKit
section
variable {P:Program} {S:Sums} {C C':Cx} {w w':World} {H hp:A0} {T:List Cnd}
theorem Tr.trans {h:Nat} {C C1 C2:Cx} {w w1 w2:World} (a:Tr h C w C1 w1) (b:Tr h C1 w1 C2 w2):Tr h C w C2 w2:=by
 refine ⟨b.os.trans a.os,b.tape.trans a.tape,b.output.trans a.output,Nat.le_trans a.size b.size,fun k hk hn ho=>?_,fun q hq=>b.imm q (a.imm q hq),fun q hq=>?_,fun i hi=>(b.rho i hi).trans (a.rho i hi),fun i q c n hi hq=>?_,fun q x hq=>?_⟩
 ·refine (b.keep k (Nat.lt_of_lt_of_le hk a.size) (fun i q c n hq=>?_) ?_).trans (a.keep k hk hn ho)
  ·by_cases hi:i<h
   ·exact hn i q c n (by rw [<- a.rho i hi];exact hq)
   ·rcases a.own i q c n (by omega) hq with ⟨j,c',n',_,hj⟩|h1|⟨x,h1⟩
    ·exact hn j q c' n' hj
    ·omega
    ·intro e;subst e;rw [ho] at h1;cases h1
  ·cases hc:C1.O k with
   | none=>rfl
   | some x =>
     rcases a.sub k x hc with ⟨y,h1⟩|h1|⟨i,c,n,_,h1⟩
     ·rw [ho] at h1;cases h1
     ·omega
     ·exact (hn _ _ _ _ h1 rfl).elim
 ·rcases b.imm' q hq with h1|(h1|⟨x,h1⟩)|⟨i,c,n,hi,h1⟩
  ·exact a.imm' q h1
  ·exact .inr (.inl (.inl (Nat.le_trans a.size h1)))
  ·rcases a.sub q x h1 with h2|h2|h2
   ·exact .inr (.inl (.inr h2))
   ·exact .inr (.inl (.inl h2))
   ·exact .inr (.inr h2)
  ·rcases a.own i q c n hi h1 with ⟨j,c',n',hj,h2⟩|h2|h2
   ·exact .inr (.inr ⟨j,c',n',hj,h2⟩)
   ·exact .inr (.inl (.inl h2))
   ·exact .inr (.inl (.inr h2))
 ·rcases b.own i q c n hi hq with ⟨j,c',n',hj,h1⟩|h1|⟨x,h1⟩
  ·exact a.own j q c' n' hj h1
  ·exact .inr (.inl (Nat.le_trans a.size h1))
  ·rcases a.sub q x h1 with h2|h2|⟨j,c',n',hj,h2⟩
   ·exact .inr (.inr h2)
   ·exact .inr (.inl h2)
   ·exact .inl ⟨j,c',n',hj,h2⟩
 ·rcases b.sub q x hq with ⟨y,h1⟩|h1|⟨i,c,n,hi,h1⟩
  ·exact a.sub q y h1
  ·exact .inr (.inl (Nat.le_trans a.size h1))
  ·rcases a.own i q c n hi h1 with ⟨j,c',n',hj,h2⟩|h2|h2
   ·exact .inr (.inr ⟨j,c',n',hj,h2⟩)
   ·exact .inr (.inl h2)
   ·exact .inl h2
theorem Tr.refl (h:Nat) (C:Cx) (w:World):Tr h C w C w :=
 ⟨rfl,rfl,rfl,Nat.le_refl _,fun _ _ _ _=>rfl,fun _ h=>h,fun _ h=>.inl h,fun _ _=>rfl,fun i _b c n h h'=>.inl ⟨i,c,n,h,h'⟩,fun b x h=>.inl ⟨x,h⟩⟩
theorem Ax (l m:A0) (i:Nat) (h:i<l.length):A3 (l++m) i=A3 l i:=by
 rw [Ds,Ds,List.getD_eq_getElem?_getD,List.getD_eq_getElem?_getD,List.getElem?_append_left h]
theorem KS (l m:A0) (t:Nat):A3 (l++m) (l.length+t)=A3 m t:=by
 rw [Ds,Ds,List.getD_eq_getElem?_getD,List.getD_eq_getElem?_getD,List.getElem?_append_right (by omega),Nat.add_sub_cancel_left]
theorem HR.lt (h:HR C hp w) {i:Nat} {p:Pl} (hi:C.ρ i=some p):i<hp.length :=
 DL fun e=>by have:=h.live i p hi;rw [e] at this;cases p<;>exact this
theorem HR.ext (h:HR C hp w) (new:A0):HR C (hp++new) w :=
 ⟨fun i p hi=>by rw [Ax _ _ _ (h.lt hi)];exact h.live i p hi,h.inj,h.fresh,h.ilt,h.sub⟩
theorem HR.free (h:HR C hp w) (new:A0):Free C (hp++new) hp new:=fun t _ =>
 ⟨KS _ _ _,by
  cases hi:C.ρ (hp.length+t) with
  | none=>rfl
  | some p=>have:=h.lt hi;omega⟩
theorem Grow.frame {base n:Nat} (g:Grow base n C w C' w') (hn:∀ i,base<=i->i<base+n->C.ρ i=none) (hi:∀ b,C.I b->b<w.heap.size) {fr:List AV} {tm:Array Value} (h:FR T C w fr tm):FR T C' w' fr tm :=
 h.mono (g.cext hn hi)
def Qb (lo:Nat) (T:List Cnd) (C:Cx) (w:World) (tm:Array Value) (fr:List AV) (hp:A0) (a:AV) (v:Value) (w':World):Prop :=
 ∃ C',HR C' hp w'/\Rel C' w' a v/\FR T C' w' fr tm/\Tr lo C w C' w'
theorem MV {new:A0} {a:AV} {v:Value} {fr:List AV} {tm:Array Value} {lo:Nat} (hH:HR C hp w) (hF:FR T C w fr tm) (AQ:lo<=hp.length)
  (h:∃ C',HR C' (hp++new) w'/\Rel C' w' a v/\Grow hp.length new.length C w C' w'):Qb lo T C w tm fr (hp++new) a v w':=by
 obtain ⟨C',h1,h2,h3⟩:=h
 refine ⟨C',h1,h2,h3.frame (fun i h4 h5=>?_) hH.ilt hF,h3.tr AQ⟩
 obtain ⟨t,rfl⟩:=Nat.exists_eq_add_of_le h4
 exact (hH.free new t (by omega)).2
def MG (fr:List AV) (ρ:Operand->AV):Prop:=∀ (T:List Cnd) (C:Cx) (w:World) (act:Act),FR T C w fr act.tmps->∀ x,Rel C w (ρ x) (act.eval x)
theorem OR (fr:List AV) (l:List Nat):MG fr (Ks (l.map fun t=>(t,Dk [] (A4 fr t)))):=fun T C w act hF x=>by
 rcases cS [] fr l x with h|h
 ·rw [h];exact wA hF (c:=true) rfl (fun k hk=>by simp [Eh] at hk) x
 ·rw [h];exact .top _
theorem Pr (hS:SumsOK P S) (o:Oper) {ρ:Operand->AV} {fr:List AV} {act:Act} (hρ:MG fr ρ) (hH:HR C hp w) (hF:FR T C w fr act.tmps) (AQ:S.lo<=hp.length) {a:AV} {new:A0}
  (hq:PO S hp (Hk P S (ρ) hp o.op) a new):Ran P o act.eval w (Qb S.lo T C w act.tmps fr (hp++new) a) :=
 (Mq hS o (fun x _=>hρ T C w act hF x) (hH.ext new) (fun _i hi=>Ax _ _ _ hi) hq (hH.free new)).mono
  fun _v _w' h=>MV hH hF AQ h
def JJ:AR->Bool
 | .need _ r=>JJ r
 | .val _=>true
 | .blk _ _=>true
 | .fail=>true
 | _=>false
theorem BO.pure {r:AR} {fr fr':List AV} {hp':A0} {a:AV} (h:BO S fr hp r fr' hp' a) (hpu:JJ r=true):∃ new,fr'=fr/\hp'=hp++new/\PO S hp r a new:=by
 induction h with
 | val fr hp a=>exact ⟨[],rfl,by simp,.val a⟩
 | need fr hp p r fr' hp' a h h' ih=>obtain ⟨new,h1,h2,h3⟩:=ih hpu;exact ⟨new,h1,h2,.need _ _ _ _ h h3⟩
 | blk fr hp b mk=>exact ⟨[b],rfl,rfl,.blk b mk⟩
 | _=>simp [JJ] at hpu
theorem NG {n:LN} {lo hi:Option AV} {k:Nat->LN->AR} (hk:∀ l m,JJ (k l m)=true):JJ (HV n lo hi k)=true:=by
 unfold HV
 repeat' split
 all_goals first|exact hk _ _|rfl
theorem dH (_hS:SumsOK P S) (o:Oper) {t:TypeId} {p x:Operand} (ho:o.op=.store t p x) {ρ:Operand->AV} {fr fr':List AV} {act:Act} {hp':A0} {a:AV} (hρ:MG fr ρ) (hH:HR C hp w) (hF:FR T C w fr act.tmps)
  (h:BO S fr hp (Fh P hp t (ρ p) (ρ x)) fr' hp' a):Ran P o act.eval w (Qb S.lo T C w act.tmps fr' hp' a):=by
 have hev:=hρ T C w act hF
 have key:(∃ i B,Fh P hp t (ρ p) (ρ x)=.upd i B)\/(∃ q r,Fh P hp t (ρ p) (ρ x)=.need q r)\/Fh P hp t (ρ p) (ρ x)=.fail:=by
  unfold Fh
  repeat' split
  all_goals first|exact .inr (.inr rfl)|exact .inl ⟨_,_,rfl⟩|exact .inr (.inl ⟨_,_,rfl⟩)
 rcases key with ⟨i,B,key⟩|⟨q,r,key⟩|key
 ·rw [key] at h
  obtain ⟨w',hrun,h1,h2,h3⟩:=Qj hH (hev p) (hev x) key S.lo
  cases h
  refine .inr (.inr ⟨w',?_,C,h1,.tup _ _ .nil,hF.mono h2,h3⟩)
  obtain ⟨dst,op,type,pos,after,guard⟩:=o
  simp only at ho
  subst ho
  simp [execOp,hrun]
 ·rw [key] at h
  cases h with
  | need _ _ _ _ _ _ _ hq h =>
    obtain ⟨i,B,rfl,w',hrun,h1,h2,h3⟩:=Xv hH (hev p) (hev x) key hq S.lo
    cases h
    refine .inr (.inr ⟨w',?_,C,h1,.tup _ _ .nil,hF.mono h2,h3⟩)
    obtain ⟨dst,op,type,pos,after,guard⟩:=o
    simp only at ho
    subst ho
    simp [execOp,hrun]
 ·rw [key] at h;cases h
theorem pQ (hS:SumsOK P S) (o:Oper) {t:TypeId} {m k x:Operand} (ho:o.op=.mapUpdate t m k x) {ρ:Operand->AV} {fr fr':List AV} {act:Act} {hp':A0} {a:AV} (hρ:MG fr ρ) (hH:HR C hp w) (hF:FR T C w fr act.tmps)
  (h:BO S fr hp (EZ P S hp t (ρ m) (ρ k) (ρ x)) fr' hp' a):Ran P o act.eval w (Qb S.lo T C w act.tmps fr' hp' a):=by
 have hev:=hρ T C w act hF
 have key:(∃ q r,EZ P S hp t (ρ m) (ρ k) (ρ x)=.need q r)\/EZ P S hp t (ρ m) (ρ k) (ρ x)=.fail:=by
  unfold EZ
  repeat' split
  all_goals first|exact .inr rfl|exact .inl ⟨_,_,rfl⟩
 rcases key with ⟨q,r,key⟩|key
 ·rw [key] at h
  cases h with
  | need _ _ _ _ _ _ _ hq h =>
    obtain ⟨q',i,B,b,cp,n',es,ck,e,rfl,hrest⟩:=Y9 hS.eqs hH (hev m) (hev k) (hev x) key hq
    cases h with
    | need _ _ _ _ _ _ _ hq' h =>
      obtain ⟨hrun,hρi,hlt,hh,hB⟩:=hrest hq'
      cases h
      have hbl:b<w.heap.size:=(hH.fresh _ _ _ _ hρi).1
      obtain ⟨h1,h2,h3⟩:=hH.upd (w':={ w with heap:=w.heap.setIfInBounds b (.map (es.push e) (ck+1)) }) (B:=B) hρi (fun j hj=>by simp [Array.getElem?_setIfInBounds_ne (Ne.symm hj)]) (by simp) rfl rfl rfl
       (fun hx=>hB C _ (fun l vs ho hr=>hr.mono hx) (by simp [Array.getElem?_setIfInBounds_self,hbl])) hlt S.lo
      refine .inr (.inr ⟨_,?_,C,h1,.tup _ _ .nil,hF.mono h2,h3⟩)
      obtain ⟨dst,op,type,pos,after,guard⟩:=o
      simp only at ho
      subst ho
      simp [execOp,hrun]
 ·rw [key] at h;cases h
theorem BI {o:Oper} {m:Sem Value} {σ:Operand->Value} (hx:(execOp σ o).run P w=((m >>= fun v=>pure (.value v)):Sem Next).run P w) {K:Value->World->Prop}
  (h:∃ v w',m.run P w=.ok v w'/\K v w'):Ran P o σ w K:=by
 obtain ⟨v,w',hr,hk⟩:=h
 exact .inl ⟨v,w',by rw [hx];simp [hr],hk⟩
theorem dL (hS:SumsOK P S) (o:Oper) {t:TypeId} {x:Operand} {lo hi mx:Option Operand} (ho:o.op=.slice t x lo hi mx) {ρ:Operand->AV} {fr fr':List AV} {act:Act} {hp':A0} {a:AV} (hρ:MG fr ρ) (hH:HR C hp w) (hF:FR T C w fr act.tmps) (AQ:S.lo<=hp.length)
  (h:BO S fr hp (Hk P S (ρ) hp o.op) fr' hp' a):Ran P o act.eval w (Qb S.lo T C w act.tmps fr' hp' a):=by
 have hev:=hρ T C w act hF
 by_cases hpure:JJ (Hk P S (ρ) hp o.op)=true
 ·obtain ⟨new,rfl,rfl,hpo⟩:=h.pure hpure
  exact Pr hS o hρ hH hF AQ hpo
 ·obtain ⟨dst,op,type,pos,after,guard⟩:=o
  simp only at ho
  subst ho
  simp only [Hk] at h hpure
  refine BI (m:=Instr.sliceAt t (act.eval x) (lo.map act.eval) (hi.map act.eval) (mx.map act.eval)) rfl ?_
  unfold Y3 at h hpure
  split at h
  ·rename_i e hmx hu
   have hmx':mx=none:=by cases mx<;>simp_all
   subst hmx'
   simp only [Option.map_none,hu] at hpure
   split at h
   ·rename_i n sz el hxe
    simp only [hxe] at hpure
    split at h
    ·rename_i h1 h2
     simp only [h1,h2] at hpure
     exact absurd (NG fun _ _=>rfl) hpure
    ·cases h
   ·rename_i j hxe
    split at h
    ·rename_i e' sz n el hb
     split at h
     ·rename_i hsz hnz
      obtain rfl:sz=A9 P e:=Nat.eq_of_beq_eq_true hsz
      obtain ⟨ie,hie⟩:∃ ie,P.info? e=some ie:=by
       cases hz:A9 P e with
       | zero=>rw [hz] at hnz;cases hnz
       | succ n=>exact B0 hz
      cases h with
      | frz _ _ _ _ _ _ _ _ hl h =>
        obtain ⟨C1,ht,h1,h2⟩:=Pe hH hb hl
        have hF1:FR T C1 w (mapR.mapRL (EJ j (.slc n (A9 P e) el)) fr) act.tmps:=ht.frame (by trivial) hF
        have hx1:Rel C1 w (.slc n (A9 P e) el) (act.eval x):=ht.row _ (by rw [<- hxe];exact hev x)
        obtain ⟨new,rfl,rfl,hpo⟩:=h.pure (NG fun _ _=>rfl)
        have key:∀ y:Option Operand,(y.map (ρ)=none/\y.map act.eval=none)\/∃ b u,y.map (ρ)=some b/\y.map act.eval=some u/\Rel C w b u:=fun y=>by
         cases y with
         | none=>exact .inl ⟨rfl,rfl⟩
         | some y=>exact .inr ⟨_,_,rfl,rfl,hev y⟩
        have key1:∀ y:Option Operand,(∃ k n,y.map (ρ)=some (.li k n))\/(∃ k n,y.map (ρ)=some (.si k n))\/y.map (ρ)=none ->
          ((y.map (ρ)=none/\y.map act.eval=none)\/∃ b u,y.map (ρ)=some b/\y.map act.eval=some u/\Rel C1 w b u):=fun y hy=>by
         rcases key y with h|⟨b,u,h3,h4,h5⟩
         ·exact .inl h
         ·refine .inr ⟨b,u,h3,h4,?_⟩
          rcases hy with ⟨k,n,hy⟩|⟨k,n,hy⟩|hy
          ·rw [h3] at hy;injection hy with hy;subst hy;cases h5;exact .li _ _
          ·rw [h3] at hy;injection hy with hy;subst hy;cases h5;exact .si _ _
          ·rw [h3] at hy;cases hy
        have lits:∀ {lo hi:Option AV} {k:Nat->LN->AR} {a:AV} {new:A0},PO S (AM (E5 (EJ j (.slc n (A9 P e) el)) hp) j .dead) (HV n lo hi k) a new ->
          ((∃ k n,lo=some (.li k n))\/(∃ k n,lo=some (.si k n))\/lo=none)/\((∃ k n,hi=some (.li k n))\/(∃ k n,hi=some (.si k n))\/hi=none):=by
         intro lo hi k a new hq
         have kint:∀ {b:AV} {q:IntKind},AD b=some q->(∃ k n,some b=some (.li k n))\/(∃ k n,some b=some (.si k n))\/some b=none:=fun {b q} h=>by
          cases b<;>simp [AD] at h<;>simp
         unfold HV at hq
         split at hq
         ·exact ⟨.inr (.inr rfl),.inr (.inr rfl)⟩
         ·exact ⟨.inl ⟨_,_,rfl⟩,.inr (.inr rfl)⟩
         ·exact ⟨.inr (.inl ⟨_,_,rfl⟩),.inr (.inr rfl)⟩
         ·exact ⟨.inr (.inr rfl),.inl ⟨_,_,rfl⟩⟩
         ·exact ⟨.inr (.inr rfl),.inr (.inl ⟨_,_,rfl⟩)⟩
         ·split at hq
          ·rename_i h1 h2;exact ⟨kint h1,kint h2⟩
          ·exact hq.fail_inv.elim
         ·exact hq.fail_inv.elim
        obtain ⟨k1,k2⟩:=lits hpo
        obtain ⟨rfl,v,hr,hv⟩:=Qe (P:=P) (S:=S) hu rfl hie hx1 (key1 lo k1) (key1 hi k2) _ _ hpo
        refine ⟨v,w,hr,C1,by rw [List.append_nil];exact h1,hv,hF1,h2⟩
     ·cases h
    ·cases h
   ·cases h
  ·rename_i n e hmx hu
   have hmx':mx=none:=by cases mx<;>simp_all
   subst hmx'
   exfalso
   apply hpure
   simp only [Option.map_none,hu]
   repeat' split
   all_goals rfl
  ·cases h
def RowsIn (a b:A0):Prop:=∀ i e sz n el,A3 a i=.row e sz n el->A3 b i=.row e sz n el
theorem Qy {j:Nat} {s:AV} (t:Turn j s C w C' w'):∀ {ps:List (Nat × AV)} {vs:List (Nat × Value)},PRel C w ps vs->PRel C' w' (ps.map fun x=>(x.1,mapR (EJ j s) x.2)) vs
 | _,_,.nil=>.nil
 | _,_,.cons _ _ _ _ _ h h'=>.cons _ _ _ _ _ (t.rel h) (Qy t h')
theorem Nd (hpb:A0) {t:TypeId} {n d:Nat} {ps:List (Nat × AV)} (hno:rowIn.rowInL (ps.map (·.2))=none) :
  JJ (CW P hpb t n (d+1) ps)=true/\CW P hpb t n (d+1) ps=CW P hp t n (d+1) ps:=by
 unfold CW
 simp only [hno]
 refine ⟨?_,trivial⟩
 repeat' split
 all_goals rfl
theorem Q_ {t:TypeId} {n:Nat} {parts:Array (Nat × Value)} {tm:Array Value} {fr':List AV} {hp':A0} {a:AV} :
  ∀ (d:Nat) (ps:List (Nat × AV)) (hpb hp:A0) (fr:List AV) (C:Cx),HR C hp w->FR T C w fr tm->PRel C w ps parts.toList->RowsIn hpb hp->S.lo<=hp.length ->
    BO S fr hp (CW P hpb t n d ps) fr' hp' a->∃ v w',(Instr.buildSlice t n parts).run P w=.ok v w'/\Qb S.lo T C w tm fr' hp' a v w':=by
 intro d
 induction d with
 | zero=>intro ps hpb hp fr C hH hF hps hrows AQ h;cases h
 | succ d ih =>
   intro ps hpb hp fr C hH hF hps hrows AQ h
   cases hrow:rowIn.rowInL (ps.map (·.2)) with
   | none =>
     obtain ⟨h1,h2⟩:=Nd (P:=P) (hp:=hp) hpb (t:=t) (n:=n) (d:=d) hrow
     obtain ⟨new,rfl,rfl,hpo⟩:=h.pure h1
     rw [h2] at hpo
     obtain ⟨v,w',C',hr,h3,h4,h5⟩:=KQ (P:=P) (S:=S) (t:=t) (n:=n) (hp:=hp) (hH.ext new) hps d hrow _ _ hpo (hH.free new)
     exact ⟨v,w',hr,MV hH hF AQ ⟨C',h3,h4,h5⟩⟩
   | some j =>
     rw [CW] at h
     simp only [hrow] at h
     split at h
     ·rename_i s hs
      unfold OY at hs
      split at hs
      ·rename_i e sz m el hb
       injection hs with hs;subst hs
       cases h with
       | frz _ _ _ _ _ _ _ _ hl h =>
         obtain ⟨C1,ht,h1,h2⟩:=Pe hH (hrows _ _ _ _ _ hb) hl
         obtain ⟨v,w',hr,C2,h3,h4,h5,h6⟩:=ih _ _ _ _ C1 h1 (ht.frame (by trivial) hF) (Qy ht hps) (fun i e' sz' n' el' hi=>by
          have hj:j<hpb.length:=DL (by rw [hb];simp)
          rw [DI] at hi
          split at hi
          ·cases hi
          ·rename_i hij
           have hne:i≠j:=fun e=>hij ⟨e,hj⟩
           rw [BK hne,Gi,hrows _ _ _ _ _ hi];rfl) (by
            have:∀ (l:A0) (i:Nat) (b:Blk),(AM l i b).length=l.length:=fun l i b=>by rw [IU];simp
            rw [this,DG];exact AQ) h
         exact ⟨v,w',hr,C2,h3,h4,h5,h2.trans h6⟩
      ·cases hs
     ·cases h
end
end Abs
end Go.Proofs.YtccgngldoinokaaGreat

namespace Go.Proofs.YtccgngldoinokaaGreat
namespace Abs
open Go Go.RowKit
section
variable {P:Program} {S:Sums} {C C':Cx} {w w':World} {H hp:A0} {T:List Cnd}
theorem Since.tr {h lo:Nat} (s:Since h C w C' w') (hl:lo<=h):Tr lo C w C' w' :=
 ⟨s.os,s.tape,s.output,s.size,fun k hk hn _=>s.keep k hk fun i b c n _ hi=>hn i b c n hi,s.imm,fun b hb=>(s.imm' b hb).imp id fun h=>.inl (.inl h),fun i hi=>s.rho i (by omega),fun i b c n hi h'=>(by
  by_cases hh:i<h
  ·rw [s.rho i hh] at h';exact .inl ⟨i,c,n,hi,h'⟩
  ·exact .inr (.inl (s.own i b c n (by omega) h'))),fun b x hb=>.inr (.inl (s.sub b x hb))⟩
theorem Since.cext (hH:HR C hp w) (s:Since hp.length C w C' w'):Cext C w C' w' :=
 ⟨fun i p hp'=>by rw [s.rho i (hH.lt hp')];exact hp',s.imm,fun b hb=>s.keep b (hH.ilt b hb) fun i q c n _ hi e=>(hH.fresh _ _ _ _ hi).2 (e▸hb)⟩
theorem SinceJ.tr {j lo:Nat} (s:SinceJ j hp.length C w C' w') (hl:lo<=j):Tr lo C w C' w' :=
 have hj:=s.jlt
 ⟨s.os,s.tape,s.output,s.size,fun k hk hn _=>s.keep k hk hn,s.imm,fun b hb=>(by
  rcases s.imm' b hb with h|h|⟨c,n,h⟩
  ·exact .inl h
  ·exact .inr (.inl (.inl h))
  ·exact .inr (.inr ⟨j,c,n,hl,h⟩)),fun i hi=>s.rho i (by omega) (by omega),fun i b c n hi h'=>(by
  by_cases hij:i=j\/hp.length<=i
  ·rcases s.own i b c n hij h' with ⟨c',n',h⟩|h
   ·exact .inl ⟨j,c',n',hl,h⟩
   ·exact .inr (.inl h)
  ·rw [s.rho i (by omega) (by omega)] at h'
   exact .inl ⟨i,c,n,hi,h'⟩),fun b x hb=>(by
  rcases s.sub b x hb with h|⟨c,n,h⟩
  ·exact .inr (.inl h)
  ·exact .inr (.inr ⟨j,c,n,hl,h⟩))⟩
theorem SinceJ.turn {j:Nat} (hH:HR C hp w) (s:SinceJ j hp.length C w C' w'):Turn j .top C w ⟨fun i=>if i=j then C'.ρ j else C.ρ i,C'.I,C'.O⟩ w'/\Cext ⟨fun i=>if i=j then C'.ρ j else C.ρ i,C'.I,C'.O⟩ w' C' w':=by
 refine ⟨⟨fun i hi=>by simp [hi],s.imm,fun b hb=>s.keep b (hH.ilt b hb) fun i q c n hi e=>(hH.fresh _ _ _ _ hi).2 (e▸hb),fun v _=>.top v⟩,fun i p hp'=>?_,fun _ h=>h,fun _ _=>rfl⟩
 simp only at hp'
 split at hp'
 ·rename_i e;subst e;exact hp'
 ·rename_i e
  rw [s.rho i (hH.lt hp') e];exact hp'
theorem SinceJ.frame {j:Nat} (hH:HR C hp w) (s:SinceJ j hp.length C w C' w') {fr:List AV} {tm:Array Value} (hF:FR T C w fr tm):FR T C' w' (mapR.mapRL (EJ j .top) fr) tm :=
 ((s.turn hH).1.frame (by trivial) hF).mono (s.turn hH).2
theorem P0:∀ {l:A0} {i:Nat},Fw l=true->∀ e e' sz n fz ln el ho,A3 l i≠.rows e e' sz n fz ln el ho
 | [],i,_,_,_,_,_,_,_,_,_=>by simp [A3]
 | b::l,0,h,_,_,_,_,_,_,_,_=>by cases b<;>simp [Fw] at h<;>simp [A3]
 | b::l,i+1,h,_,_,_,_,_,_,_,_=>by
   have:Fw l=true:=by cases b<;>simp [Fw] at h<;>exact h
   simp only [A3]
   exact P0 this _ _ _ _ _ _ _ _
theorem HR.noO (hH:HR C hp w) (hn:Fw hp=true):HR ⟨C.ρ,C.I,fun _=>none⟩ hp w:=by
 have hx:Cext C w ⟨C.ρ,C.I,fun _=>none⟩ w:=⟨fun _ _ h=>h,fun _ h=>h,fun _ _=>rfl⟩
 refine ⟨fun i p hi=>?_,hH.inj,hH.fresh,hH.ilt,fun b x h=>by cases h⟩
 have hl:=hH.live i p hi
 have hno:=P0 (i:=i) hn
 revert hl hno
 generalize A3 hp i=b
 intro hl hno
 match p,b,hl with
 | .at q c m,.cells t l,h =>
   obtain ⟨vs,hr,hh⟩:=h
   exact ⟨vs,hr.mono hx,hh⟩
 | .at q c m,.row e sz k el,h =>
   obtain ⟨h1,h2,h3,cs,vs,hh,hs,hc⟩:=h
   exact ⟨h1,h2,h3,cs,vs,hh,hs,fun k hk=>⟨(hc k hk).1.mono hx,(hc k hk).2⟩⟩
 | .nil,.row e sz k el,h=>exact h
 | .at q c m,.mat t wd k f,h =>
   obtain ⟨h1,h2,h3,cs,hh,hs,hc⟩:=h
   exact ⟨h1,h2,h3,cs,hh,hs,fun k hk j hj=>by
    obtain ⟨ho,v,hv,hr⟩:=hc k hk j hj
    exact ⟨ho,v,hv,hr.mono hx⟩⟩
 | .at q c m,.tab k sz el,h =>
   obtain ⟨es,ck,vs,hh,hs,hc⟩:=h
   exact ⟨es,ck,vs,hh,hs,fun k hk=>⟨(hc k hk).1.mono hx,(hc k hk).2⟩⟩
 | .at q c m,.rows e e' sz k fz ln el ho,h=>exact (hno _ _ _ _ _ _ _ _ rfl).elim
theorem Tr.ofO {lo:Nat} (t:Tr lo ⟨C.ρ,C.I,fun _=>none⟩ w C' w'):Tr lo C w C' w' :=
 ⟨t.os,t.tape,t.output,t.size,fun k hk hn _=>t.keep k hk hn rfl,t.imm,fun b hb=>(by
  rcases t.imm' b hb with h|(h|⟨x,h⟩)|h
  ·exact .inl h
  ·exact .inr (.inl (.inl h))
  ·cases h
  ·exact .inr (.inr h)),t.rho,fun i b c n hi h=>(by
  rcases t.own i b c n hi h with h|h|⟨x,h⟩
  ·exact .inl h
  ·exact .inr (.inl h)
  ·cases h),fun b x h=>(by
  rcases t.sub b x h with ⟨y,h⟩|h|h
  ·cases h
  ·exact .inr (.inl h)
  ·exact .inr (.inr h))⟩
theorem ZB (hS:SumsOK P S) (o:Oper) {c:Call} {s x:Operand} {t:TypeId} (ho:o.op=.call c) (hc:c.callee=.builtin .append) (ha:c.args.toList=[s,x]) (hty:c.argTypes.toList=[t,t]) {ρ:Operand->AV} {fr fr':List AV} {act:Act} {hp':A0} {a:AV}
  (hρ:MG fr ρ) (hH:HR C hp w) (hF:FR T C w fr act.tmps) (AQ:S.lo<=hp.length)
  (h:BO S fr hp (F1 P S hp t (ρ s) (ρ x)) fr' hp' a) (hop:Hk P S (ρ) hp o.op=F1 P S hp t (ρ s) (ρ x)):Ran P o act.eval w (Qb S.lo T C w act.tmps fr' hp' a):=by
 have hev:=hρ T C w act hF
 by_cases hpure:JJ (F1 P S hp t (ρ s) (ρ x))=true
 ·obtain ⟨new,rfl,rfl,hpo⟩:=h.pure hpure
  exact Pr hS o hρ hH hF AQ (by rw [hop];exact hpo)
 ·clear hop
  obtain ⟨dst,op,type,pos,after,guard⟩:=o
  obtain ⟨cal,args,tys⟩:=c
  obtain ⟨args⟩:=args
  obtain ⟨tys⟩:=tys
  simp only at ho hc ha hty
  subst ho hc ha hty
  refine BI (m:=Builtin.append_ #[t,t] type #[act.eval s,act.eval x]) (by simp [execOp,resolve,invoke,builtin]) ?_
  unfold F1 at h hpure
  split at h
  ·rename_i e hu
   simp only [hu] at hpure
   split at h
   ·rename_i hn
    simp only [hn] at hpure
    exfalso
    revert hpure
    repeat' split
    all_goals (intro hpure;exact hpure rfl)
   ·rename_i hn
    simp only [hn] at hpure
    split at h
    ·cases h
    ·rename_i m sz elx hr
     simp only [hr] at hpure
     split at h
     ·rename_i hsz hnz
      simp only [hsz,hnz] at hpure
      obtain rfl:sz=A9 P e:=Nat.eq_of_beq_eq_true hsz
      have hpos:0<A9 P e:=by
       rcases Nat.eq_zero_or_pos (A9 P e) with h|h
       ·rw [h] at hnz;cases hnz
       ·exact h
      split at h
      ·rename_i hsn
       simp only [hsn] at hpure
       exfalso
       revert hpure
       repeat' split
       all_goals (intro hpure;exact hpure rfl)
      ·rename_i hsn
       split at h
       ·rename_i i hsi
        split at h
        ·rename_i e' sz' n el hb hlo'
         split at h
         ·rename_i hc
          simp only [Bool.and_eq_true,decide_eq_true_eq] at hc
          obtain ⟨⟨rfl,rfl⟩,hz⟩:=hc
          obtain ⟨z,hz⟩:=Option.isSome_iff_exists.1 hz
          cases h with
          | need _ _ _ _ _ _ _ hb' h =>
            cases h with
            | grow _ _ _ _ hl =>
              obtain ⟨u',w',C',hrun,ht,h1,h2,h3⟩:=NS (P:=P) (ty:=type) hH hu (by rw [<- hsi];exact hev s) hb (hev x) hr rfl hpos hz hb' hl
              exact ⟨u',w',hrun,C',h1,h2,ht.frame (by trivial) hF,h3⟩
         ·cases h
        ·cases h
       ·cases h
     ·cases h
  ·cases h
theorem Mb (f:Nat->Option AV):∀ (l m:List AV),mapR.mapRL f (Es l m)=Es (mapR.mapRL f l) (mapR.mapRL f m)
 | [],_=>rfl
 | a::l,m=>by simp [Es,mapR.mapRL,Mb f l m]
theorem WL (f:Nat->Option AV) (ρ:Operand->AV):∀ l:List Operand,mapR.mapRL f (QL ρ l)=QL (fun x=>mapR f (ρ x)) l
 | []=>rfl
 | a::l=>by simp [QL,mapR.mapRL,WL f ρ l]
theorem lW (hS:SumsOK P S) (o:Oper) {c:Call} {f:Operand} (ho:o.op=.call c) (hc:c.callee=.value f) {act:Act} {fr':List AV} {hp':A0} {a:AV} {g:FuncId} :
  ∀ (d:Nat) (ρ:Operand->AV) (fr:List AV) (hp:A0) (C:Cx) (first cap:List AV),(∀ x,Rel C w (ρ x) (act.eval x))->HR C hp w->FR T C w fr act.tmps->S.lo<=hp.length->ρ f=.fn (.func g) first cap ->
    BO S fr hp (callA S g d hp (Es first (Es (QL (ρ) c.args.toList) cap))) fr' hp' a->Ran P o act.eval w (Qb S.lo T C w act.tmps fr' hp' a):=by
 intro d
 induction d with
 | zero=>intro ρ fr hp C first cap hev hH hF AQ hfe h;rw [callA] at h;cases h
 | succ d ih =>
   intro ρ fr hp C first cap hev hH hF AQ hfe h
   have hop:Hk P S (ρ) hp o.op=(match ρ f with|.fn (.func g) first cap=>callA S g 20 hp (Es first (Es (QL (ρ) c.args.toList) cap))|_=>.fail):=by
    rw [ho];obtain ⟨cal,args,tys⟩:=c;simp only at hc;subst hc;rfl
   rw [callA] at h
   split at h
   ·rename_i hno
    cases h with
    | one _ _ _ _ _ new hpo =>
      refine (Mq hS o (fun x _=>hev x) (hH.ext new) (fun _i hi=>Ax _ _ _ hi) (a:=a) (new:=new) ?_ (hH.free new)).mono fun _v _w' h=>MV hH hF AQ h
      rw [hop,hfe]
      simp only
      rw [callA,hno]
      exact hpo
    | two _ _ _ _ s2 pre res hp2 h2 hs hl hpre hnr =>
      clear hop ih
      obtain ⟨dst,op,type,pos,after,guard⟩:=o
      obtain ⟨cal,args,tys⟩:=c
      simp only at ho hc
      subst ho hc
      obtain ⟨fn,hfn,hname,hbody⟩:=hS.bodyTwo _ _ h2
      have hfnc:=hS.two _ _ h2 _ _ _ _ _ _ hs hpre
      have hfv:=hev f
      rw [hfe] at hfv
      generalize hv:act.eval f=u at hfv
      cases hfv with
      | fn _ _ _ vs ws h h' =>
        have hargs:=HT (C:=C) (w:=w) (ρ:=ρ) (σ:=act.eval) (l:=args.toList) fun x _=>hev x
        have hall:RelL C w (Es first (Es (QL (ρ) args.toList) cap)) (vs++(args.toList.map act.eval++ws)):=by
         rw [F2,F2];exact h.append (hargs.append h')
        refine .inr (.inl ⟨g,⟨vs++(args.toList.map act.eval++ws)⟩,?_,?_⟩)
        ·have e1:(⟨vs⟩:Array Value)++args.map act.eval++⟨ws⟩=⟨vs++(args.toList.map act.eval++ws)⟩:=by
          apply Array.ext';simp
         have:=GR (P:=P) hfn hname hbody ⟨vs++(args.toList.map act.eval++ws)⟩ w
         simp only [execOp,resolve,Sem.run_bind]
         simp only [hv,Deferred.ofValue,Sem.run_pure,Result.andThen_ok,invoke,e1]
         exact this
        ·have hx0:Cext C w ⟨C.ρ,C.I,fun _=>none⟩ w:=⟨fun _ _ h=>h,fun _ h=>h,fun _ _=>rfl⟩
         refine ((show Fn P g _ _ _ _ from hfnc) ⟨C.ρ,C.I,fun _=>none⟩ w _ (fun _=>rfl) (hH.noO hnr) (hall.mono hx0)).mono fun e w' ⟨v,C1,he,h1,hr,hs1⟩=>⟨v,he,C1,h1,hr,(hF.mono hx0).mono (hs1.cext (hH.noO hnr)),(hs1.tr AQ).ofO⟩
    | mov _ _ _ _ s2 pre res hp2 mj h2 hs hl hpre hnr hmj =>
      clear hop ih
      obtain ⟨dst,op,type,pos,after,guard⟩:=o
      obtain ⟨cal,args,tys⟩:=c
      simp only at ho hc
      subst ho hc
      obtain ⟨fn,hfn,hname,hbody⟩:=hS.bodyTwo _ _ h2
      have hfnc:=hS.two _ _ h2 _ _ _ _ _ _ hs hpre
      have hfv:=hev f
      rw [hfe] at hfv
      generalize hv:act.eval f=u at hfv
      cases hfv with
      | fn _ _ _ vs ws h h' =>
        have hargs:=HT (C:=C) (w:=w) (ρ:=ρ) (σ:=act.eval) (l:=args.toList) fun x _=>hev x
        have hall:RelL C w (Es first (Es (QL (ρ) args.toList) cap)) (vs++(args.toList.map act.eval++ws)):=by
         rw [F2,F2];exact h.append (hargs.append h')
        refine .inr (.inl ⟨g,⟨vs++(args.toList.map act.eval++ws)⟩,?_,?_⟩)
        ·have e1:(⟨vs⟩:Array Value)++args.map act.eval++⟨ws⟩=⟨vs++(args.toList.map act.eval++ws)⟩:=by
          apply Array.ext';simp
         have:=GR (P:=P) hfn hname hbody ⟨vs++(args.toList.map act.eval++ws)⟩ w
         simp only [execOp,resolve,Sem.run_bind]
         simp only [hv,Deferred.ofValue,Sem.run_pure,Result.andThen_ok,invoke,e1]
         exact this
        ·have hx0:Cext C w ⟨C.ρ,C.I,fun _=>none⟩ w:=⟨fun _ _ h=>h,fun _ h=>h,fun _ _=>rfl⟩
         refine ((show FnJ P g _ _ _ _ mj from hfnc) ⟨C.ρ,C.I,fun _=>none⟩ w _ (fun _=>rfl) (hH.noO hnr) (hall.mono hx0)).mono fun e w' ⟨v,C1,he,h1,hr,hs1⟩=>⟨v,he,C1,h1,hr,hs1.frame (hH.noO hnr) (hF.mono hx0),(hs1.tr hmj).ofO⟩
   ·rename_i j s hfz
    have hb:∃ e sz n el,A3 hp j=.row e sz n el/\s=.slc n sz el:=by
     unfold cO at hfz
     split at hfz
     ·cases hfz
     ·split at hfz
      ·cases hfz
      ·rename_i s' hs'
       split at hfz
       ·cases hfz
       ·split at hfz
        ·cases hfz
        ·split at hfz
         ·cases hfz
         ·split at hfz
          ·cases hfz
          ·injection hfz with hfz;injection hfz with e1 e2;subst e1 e2
           unfold OY at hs'
           split at hs'
           ·rename_i e sz m el hb
            injection hs' with hs'
            exact ⟨e,sz,m,el,hb,hs'.symm⟩
           ·cases hs'
    obtain ⟨e,sz,n,el,hb,rfl⟩:=hb
    cases h with
    | frz _ _ _ _ _ _ _ _ hl h =>
      obtain ⟨C1,ht,h1,h2⟩:=Pe hH hb hl
      rw [Mb,Mb,WL] at h
      refine (ih (fun x=>mapR (EJ j (.slc n sz el)) (ρ x)) _ _ C1 _ _ (fun x=>ht.rel (hev x)) h1 (ht.frame (by trivial) hF) ?_ (by simp only [hfe,mapR]) h).mono fun v w' ⟨C2,h3,h4,h5,h6⟩=>⟨C2,h3,h4,h5,h2.trans h6⟩
      have:∀ (l:A0) (i:Nat) (b:Blk),(AM l i b).length=l.length:=fun l i b=>by rw [IU];simp
      rw [this,DG];exact AQ
theorem lX (hS:SumsOK P S) (o:Oper) {c:Call} {f:Operand} (ho:o.op=.call c) (hc:c.callee=.value f) {ρ:Operand->AV} {fr fr':List AV} {act:Act} {hp':A0} {a:AV}
  (hρ:MG fr ρ) (hH:HR C hp w) (hF:FR T C w fr act.tmps) (AQ:S.lo<=hp.length) (h:BO S fr hp (Hk P S (ρ) hp o.op) fr' hp' a):Ran P o act.eval w (Qb S.lo T C w act.tmps fr' hp' a):=by
 have hev:=hρ T C w act hF
 have hop:Hk P S (ρ) hp o.op=(match ρ f with|.fn (.func g) first cap=>callA S g 20 hp (Es first (Es (QL (ρ) c.args.toList) cap))|_=>.fail):=by
  rw [ho];obtain ⟨cal,args,tys⟩:=c;simp only at hc;subst hc;rfl
 rw [hop] at h
 split at h
 ·rename_i g first cap hfe
  exact lW hS o ho hc 20 ρ fr hp C first cap hev hH hF AQ hfe h
 ·cases h
theorem Jk (hS:SumsOK P S) (o:Oper) (ht:GA o.op=true) {ρ:Operand->AV} {fr fr':List AV} {act:Act} {hp':A0} {a:AV}
  (hρ:MG fr ρ) (hH:HR C hp w) (hF:FR T C w fr act.tmps) (AQ:S.lo<=hp.length) (h:BO S fr hp (Hk P S (ρ) hp o.op) fr' hp' a):Ran P o act.eval w (Qb S.lo T C w act.tmps fr' hp' a):=by
 have hev:=hρ T C w act hF
 cases hop:o.op with
 | store t p x=>rw [hop] at h;exact dH hS o hop hρ hH hF h
 | slice t x lo hi mx=>exact dL hS o hop hρ hH hF AQ h
 | mapUpdate t m k x=>rw [hop] at h;exact pQ hS o hop hρ hH hF h
 | buildSlice t n parts =>
   rw [hop] at h
   have hp':PRel C w (Kb (ρ) parts.toList) (parts.map fun (i,x)=>(i,act.eval x)).toList:=by
    rw [Array.toList_map]
    exact IY _ fun x _=>hev _
   refine BI (m:=Instr.buildSlice t n (parts.map fun (i,x)=>(i,act.eval x))) ?_ (Q_ 20 _ hp hp fr C hH hF hp' (fun _ _ _ _ _ h=>h) AQ h)
   obtain ⟨dst,op,type,pos,after,guard⟩:=o
   simp only at hop
   subst hop
   rfl
 | call c =>
   cases hc:c.callee with
   | value f=>exact lX hS o hop hc hρ hH hF AQ h
   | invoke r m=>rw [hop] at ht;simp [GA,hc] at ht
   | builtin b =>
     rw [hop] at ht
     cases b<;>simp [GA,hc] at ht
     have hop':Hk P S (ρ) hp o.op=(match c.args.toList,c.argTypes.toList with
      | [s,x],[t,t']=>(match Nat.beq t t' with|true=>F1 P S hp t (ρ s) (ρ x)|false=>.fail)
      | _,_=>.fail):=by
      rw [hop];obtain ⟨cal,args,tys⟩:=c;simp only at hc;subst hc;rfl
     rw [hop'] at h
     split at h
     ·rename_i s x t t' ha hty
      split at h
      ·rename_i htt
       obtain rfl:t=t':=Nat.eq_of_beq_eq_true htt
       exact ZB hS o hop hc ha hty hρ hH hF AQ h (by rw [hop',ha,hty];simp only [htt])
      ·cases h
     ·cases h
 | _=>rw [hop] at ht;cases ht
end
end Abs
end Go.Proofs.YtccgngldoinokaaGreat

namespace Go.Proofs.YtccgngldoinokaaGreat
namespace Abs
open Go Go.RowKit
def SubT (T T':List Cnd):Prop:=∀ (k:Nat) (x:Cnd),T[k]? = some x->T'[k]? = some x
theorem SubT.refl (T:List Cnd):SubT T T:=fun _ _ h=>h
theorem SubT.trans {T T' T'':List Cnd} (h:SubT T T') (h':SubT T' T''):SubT T T'':=fun k x e=>h' k x (h k x e)
def Ctx.on:Ctx->Bool
 | none=>true
 | some (_,x)=>x.c
def QH (T:List Cnd) (ctx:Ctx):Prop:=match ctx with|none=>True|some (k,x)=>T[k]? = some x/\AncOK T x.c x.anc
def PureStep (P:Program) (T:List Cnd) (o:Oper) (ctx:Ctx) (fr:List AV) (hp:A0) (b:AV) (new:A0):Prop :=
 ctx.on=true->∀ (T':List Cnd),SubT T T'->∀ (C:Cx) (w:World) (H:A0) (act:Act),HR C H w->Pre hp H->Free C H hp new->(∀ x∈o.op.operands,RelG T' C w (ev fr x) (act.eval x)) ->
  Ran P o act.eval w fun v w'=>∃ C',HR C' H w'/\Rel C' w' b v/\Grow hp.length new.length C w C' w'
section
variable {P:Program} {S:Sums} {C C':Cx} {w w':World} {H hp:A0} {T:List Cnd}
theorem AncOK.sub {T T':List Cnd} (hs:SubT T T') {c:Bool} {anc:List Nat} (h:AncOK T c anc):AncOK T' c anc:=fun k hk=>by
 obtain ⟨x,hx,hc⟩:=h k hk
 exact ⟨x,hs k x hx,hc⟩
theorem Ir {ctx:Ctx} (h:QH T ctx):AncOK T ctx.on ctx.anc:=by
 match ctx,h with
 | none,_=>intro k hk;simp [Ctx.anc,Eh] at hk
 | some (k,x),h=>exact h.2
theorem Gq {a:AV} {v:Value} (h:RelG T C w a v) {c:Bool} (hc:c=true) {anc:List Nat} (ha:AncOK T c anc):Rel C w (Dk anc a) v:=by
 cases a<;>try exact h.1
 case gd k b =>
  simp only [Dk]
  split
  ·rename_i hm
   obtain ⟨y,hy,hy'⟩:=ha k hm
   obtain ⟨x,hx,h1,_⟩:=h.2 k b rfl
   rw [hy] at hx;injection hx with hx;subst hx
   exact h1 (hy' hc)
  ·exact .top _
theorem Kh {R:AV->A0->Prop} {c:Bool}:∀ {l:List Cd} {k:VC},(needsC c l k).sat R->(c=true->∀ p∈l,p.ok)/\k.sat R
 | [],k,h=>⟨fun _ p hp=>by simp at hp,h⟩
 | p::l,k,h=>by
   obtain ⟨h1,h2⟩:=Kh h.2
   exact ⟨fun hc q hq=>by
    rcases List.mem_cons.1 hq with rfl|hq
    ·exact h.1 hc
    ·exact h1 hc q hq,h2⟩
theorem mn {R:AV->A0->Prop} {k:Nat} {c:Bool}:∀ {r:AR} {K:A0->AV->VC},(r.vcC S k c hp K).sat R->∃ a new,(c=true->PO S hp r a new)/\(K (hp++new) (.gd k a)).sat R:=by
 intro r
 induction r with
 | val a =>
   intro K h
   simp only [AR.vcC,AT] at h
   exact ⟨a,[],fun _=>.val a,by rwa [List.append_nil]⟩
 | need p r ih =>
   intro K h
   obtain ⟨a,new,h1,h2⟩:=ih h.2
   exact ⟨a,new,fun hc=>.need _ _ _ _ (h.1 hc) (h1 hc),h2⟩
 | br b t e iht ihe =>
   intro K h
   cases b with
   | true=>obtain ⟨a,new,h1,h2⟩:=iht (h.1 rfl);exact ⟨a,new,fun hc=>.brt _ _ _ _ (h1 hc),h2⟩
   | false=>obtain ⟨a,new,h1,h2⟩:=ihe (h.2 rfl);exact ⟨a,new,fun hc=>.brf _ _ _ _ (h1 hc),h2⟩
 | blk b mk =>
   intro K h
   simp only [AR.vcC,A8,GW] at h
   exact ⟨_,_,fun _=>.blk b mk,h⟩
 | call f args =>
   intro K h
   simp only [AR.vcC] at h
   split at h
   ·exact h.elim
   ·rename_i h2
    split at h
    ·rename_i s1 h1
     rw [AK,U6] at h
     split at h
     ·rename_i pre res new hs
      split at h
      ·rename_i hg
       obtain ⟨h3,h4⟩:=Kh h
       obtain ⟨h5,h6⟩:=Kh h4
       rw [A8,AT,GW] at h6
       exact ⟨_,_,fun hc=>.call f args s1 pre res new h2 h1 hs hg (h3 hc) (h5 hc),h6⟩
      ·exact h.elim
     ·exact h.elim
    ·exact h.elim
 | _=>intro K h;exact h.elim
theorem Aq:∀ (fr:List AV) (d:Nat) (a:AV) (k:List AV->VC),EF fr d a k=k (Ay fr d a)
 | [],_,_,_=>rfl
 | _::_,0,_,_=>rfl
 | x::l,d+1,a,k=>by rw [dP,Aq l];rfl
theorem FV (fr:List AV) (d:Option Nat) (a:AV) (k:List AV->VC):JE fr d a k=k (CT fr d a):=by
 cases d with
 | none=>rfl
 | some d=>simp only [JE,Dz,Aq,CT]
theorem LJ (hS:SumsOK P S) {o:Oper} {ctx:Ctx} {fr:List AV} {b:AV} {new:A0} (l:List Nat) (hc:QH T ctx) (hq:ctx.on=true->PO S hp (Hk P S (Ks (l.map fun t=>(t,Dk ctx.anc (A4 fr t)))) hp o.op) b new):PureStep P T o ctx fr hp b new :=
 fun hon T' hs C w H act hH hpre hf hops=>Mq hS o (fun x hx=>by
  rcases cS ctx.anc fr l x with h|h
  ·rw [h];exact Gq (hops x hx) hon ((Ir hc).sub hs)
  ·rw [h];exact .top _) hH hpre (hq hon) hf
theorem JF {o:Oper} {c a b:Operand} (ho:o.op=.pick c a b) {σ:Operand->Value} {t:Bool} (hc:σ c=.bool t):(execOp σ o).run P w=.ok (.value (if t then σ a else σ b)) w:=by
 obtain ⟨dst,op,type,pos,after,guard⟩:=o
 simp only at ho
 subst ho
 simp [execOp,hc,asBool]
theorem S9 {R:AV->A0->Prop} {ctx:Ctx} {cb w0:Bool} {g:Option Bool} {k:VC} (h:(PD ctx cb w0 g k).sat R):(∀ y,g=some y->ctx.on=true->cb=w0->y=true)/\k.sat R:=by
 unfold PD at h
 split at h
 ·exact ⟨fun y e=>by simp at e,h⟩
 ·rename_i y
  split at h
  ·exact ⟨fun y' e _=>by injection e with e;subst e;exact h.1,h.2⟩
  ·rename_i k' q1 q2 c q3
   exact ⟨fun y' e hc=>by injection e with e;subst e;exact h.1 hc,h.2⟩
theorem Sy {T':List Cnd} (hs:SubT T T') {ctx:Ctx} (hc:QH T ctx) (hon:ctx.on=true) {a x:AV} {g:Option Bool} {v:Value} (h:cg ctx.anc T a=some (x,g)) (hr:RelG T' C w a v) (hg:∀ y,g=some y->y=true):Rel C w x v:=by
 unfold cg at h
 split at h
 ·rename_i k b
  split at h
  ·rename_i hm
   injection h with h;injection h with h1 h2
   subst h1
   obtain ⟨y,hy,hy'⟩:=(Ir hc) k hm
   obtain ⟨x',hx,h3,_⟩:=hr.2 k b rfl
   rw [hs k y hy] at hx;injection hx with hx;subst hx
   exact h3 (hy' hon)
  ·split at h
   ·rename_i j wt c an hT
    injection h with h;injection h with h1 h2
    subst h1
    obtain ⟨x',hx,h3,_⟩:=hr.2 k b rfl
    rw [hs k _ hT] at hx;injection hx with hx;subst hx
    exact h3 (hg c h2.symm)
   ·cases h
 ·injection h with h;injection h with h1 h2
  subst h1
  exact hr.1
theorem MB (c a b:Bool):Z7 c a b=if c then a else b:=by unfold Z7;cases c<;>rfl
theorem lY (a b:Bool):bor a b=(a||b):=by unfold bor;rfl
theorem MD (a b:Bool):Jp a b=(a&&b):=by unfold Jp;rfl
theorem ce (a:Bool):MA a = !a:=by unfold MA;rfl
theorem j7 {R:AV->A0->Prop} {o:Oper} {c a b:Operand} (ho:o.op=.pick c a b) {ctx:Ctx} {fr:List AV} (hctx:QH T ctx) {k:AV->VC} (h:(Om ctx T (ev fr c) (ev fr a) (ev fr b) k).sat R) :
  ∃ x,PureStep P T o ctx fr hp x []/\(k (HK ctx x)).sat R:=by
 have hopc:c∈o.op.operands:=by rw [ho];simp [Op.operands]
 have hopa:a∈o.op.operands:=by rw [ho];simp [Op.operands]
 have hopb:b∈o.op.operands:=by rw [ho];simp [Op.operands]
 unfold Om at h
 split at h
 ·rename_i hc
  refine ⟨Dk ctx.anc (ev fr a),fun hon T' hs C w H act hH hpre hf hops=>?_,?_⟩
  ·have h1:=Gq (hops c hopc) hon ((Ir hctx).sub hs)
   rw [hc] at h1
   have hv:act.eval c=.bool true:=by generalize act.eval c=u at h1;cases h1;rfl
   refine .inl ⟨_,w,JF ho hv,C,hH,?_,.refl _ _ _⟩
   exact Gq (hops a hopa) hon ((Ir hctx).sub hs)
  ·split at h
   ·exact h.elim
   ·rwa [AT] at h
 ·rename_i hc
  refine ⟨Dk ctx.anc (ev fr b),fun hon T' hs C w H act hH hpre hf hops=>?_,?_⟩
  ·have h1:=Gq (hops c hopc) hon ((Ir hctx).sub hs)
   rw [hc] at h1
   have hv:act.eval c=.bool false:=by generalize act.eval c=u at h1;cases h1;rfl
   refine .inl ⟨_,w,JF ho hv,C,hH,?_,.refl _ _ _⟩
   exact Gq (hops b hopb) hon ((Ir hctx).sub hs)
  ·split at h
   ·exact h.elim
   ·rwa [AT] at h
 ·rename_i cb hc
  split at h
  ·rename_i xa ga xb gb ha hb
   obtain ⟨h1,h2⟩:=S9 h
   obtain ⟨h3,h4⟩:=S9 h2
   have key:∀ (p q r:Bool),(xa=.lb p\/xa=.sb p)->(xb=.lb q\/xb=.sb q)->r=(if cb then p else q)->(k (HK ctx (.sb r))).sat R->∃ x,PureStep P T o ctx fr hp x []/\(k (HK ctx x)).sat R:=by
    intro p q r hp hq hr hk
    refine ⟨.sb r,fun hon T' hs C w H act hH hpre hf hops=>?_,hk⟩
    have h5:=Gq (hops c hopc) hon ((Ir hctx).sub hs)
    rw [hc] at h5
    have hv:act.eval c=.bool cb:=by generalize act.eval c=u at h5;cases h5;rfl
    refine .inl ⟨_,w,JF ho hv,C,hH,?_,.refl _ _ _⟩
    subst hr
    cases cb with
    | true =>
      have h6:=Sy hs hctx hon ha (hops a hopa) (fun y hy=>h1 y hy hon rfl)
      rcases hp with rfl|rfl
      ·generalize act.eval a=u at h6;cases h6;exact .sb _
      ·generalize act.eval a=u at h6;cases h6;exact .sb _
    | false =>
      have h6:=Sy hs hctx hon hb (hops b hopb) (fun y hy=>h3 y hy hon rfl)
      rcases hq with rfl|rfl
      ·generalize act.eval b=u at h6;cases h6;exact .sb _
      ·generalize act.eval b=u at h6;cases h6;exact .sb _
   split at h4
   ·exact key _ _ _ (.inl rfl) (.inr rfl) (by rw [lY];cases cb<;>simp) h4
   ·exact key _ _ _ (.inr rfl) (.inl rfl) (by rw [MD];cases cb<;>simp) h4
   ·exact key _ _ _ (.inr rfl) (.inr rfl) (MB _ _ _) h4
   ·exact key _ _ _ (.inr rfl) (.inl rfl) (MB _ _ _) h4
   ·exact key _ _ _ (.inl rfl) (.inr rfl) (MB _ _ _) h4
   ·exact key _ _ _ (.inl rfl) (.inl rfl) (MB _ _ _) h4
   ·exact h4.elim
  ·exact h.elim
 ·exact h.elim
theorem Ht (hS:SumsOK P S) {R:AV->A0->Prop} {nb:Bool} {o:Oper} {ctx:Ctx} {fr:List AV} (hctx:QH T ctx) {K:List AV->A0->VC} (h:(GL P S nb ctx T o fr hp K).sat R) :
  (∃ b new,PureStep P T o ctx fr hp b new/\(K (CT fr o.dst (HK ctx b)) (hp++new)).sat R) \/
  (nb=true/\ctx=none/\GA o.op=true/\∃ ρ,MG fr ρ/\∃ fr' hp' a,BO S fr hp (Hk P S ρ hp o.op) fr' hp' a/\(K (CT fr' o.dst (DN a)) hp').sat R):=by
 unfold GL at h
 split at h
 ·rename_i c a b ho
  rw [Dz,Dz,Dz] at h
  obtain ⟨x,h1,h2⟩:=j7 (P:=P) (hp:=hp) ho hctx h
  rw [FV] at h2
  exact .inl ⟨x,[],h1,by rwa [List.append_nil]⟩
 ·split at h
  ·rw [Cy] at h
   rcases gQ h with ⟨a,new,h1,h2⟩|⟨hn,fr',hp',a,h1,h2⟩
   ·rw [FV] at h2
    exact .inl ⟨a,new,LJ hS _ hctx fun _=>h1,h2⟩
   ·rw [FV] at h2
    simp only [Bool.and_eq_true] at hn
    exact .inr ⟨hn.2,rfl,hn.1,_,OR fr _,fr',hp',a,h1,h2⟩
  ·rename_i k q1 q2 c anc
   rw [Cy] at h
   obtain ⟨a,new,h1,h2⟩:=mn h
   rw [FV] at h2
   exact .inl ⟨a,new,LJ hS _ hctx h1,h2⟩
end
end Abs
end Go.Proofs.YtccgngldoinokaaGreat

namespace Go.Proofs.YtccgngldoinokaaGreat
namespace Abs
open Go Go.RowKit
theorem Ag {f:Nat->Bool}:∀ {n:Nat},En f n=true->∀ i,i<n->f i=true
 | 0,_,i,hi=>by omega
 | n+1,h,i,hi=>by
   simp only [En] at h
   split at h
   ·rename_i hf
    rcases Nat.lt_or_ge i n with hlt|hge
    ·exact Ag h i hlt
    ·obtain rfl:i=n:=by omega
     exact hf
   ·cases h
theorem DR {all:List Oper} (h:Dd all=true) {j:Nat} {o:Oper} (hj:all[j]? = some o) :
  (∀ d,o.dst=some d->∀ i o',i≠j->all[i]? = some o'->o'.dst≠some d)/\(∀ g w,o.guard=some (g,w)->g<j):=by
 have hlt:j<all.length:=(List.getElem?_eq_some_iff.1 hj).1
 have h1:=Ag h j hlt
 simp only [hj,Bool.and_eq_true] at h1
 refine ⟨fun d hd i o' hne hi he=>?_,fun g w hg=>?_⟩
 ·have h2:=h1.1
  simp only [hd] at h2
  have h3:=Ag h2 i (List.getElem?_eq_some_iff.1 hi).1
  simp only [hi] at h3
  have:Nat.beq i j=false:=by
   rcases hb:Nat.beq i j with _|_
   ·rfl
   ·exact absurd (Nat.eq_of_beq_eq_true hb) hne
  simp [he,this] at h3
 ·have h2:=h1.2
  simp only [hg] at h2
  have:=Nat.le_of_ble_eq_true (show Nat.ble (g+1) j=true from h2)
  omega
def gW (T:List Cnd) (want:Bool):AV->Option Bool
 | .tup []=>some false
 | .lb b=>some (b == want)
 | .sb b=>some (b == want)
 | .gd p (.lb b)=>(match T[p]? with|some x=>some (x.c&&(b == want))|none=>none)
 | .gd p (.sb b)=>(match T[p]? with|some x=>some (x.c&&(b == want))|none=>none)
 | _=>none
def yv (v:Value):Option Bool:=match v with|.bool b=>some b|_=>none
def Eo (all:List Oper) (T:List Cnd) (fr:List AV) (o:Oper) (r:Bool):Prop :=
 match o.guard with
 | none=>r=true
 | some (j,want)=>∃ d,Af all j=some d/\gW T want (A4 fr d)=some r
theorem kg {T T':List Cnd} (hs:SubT T T') {want r:Bool} {a:AV} (h:gW T want a=some r):gW T' want a=some r:=by
 unfold gW at h ⊢
 split at h
 ·exact h
 ·exact h
 ·exact h
 ·split at h
  ·rename_i hx;rw [hs _ _ hx];exact h
  ·cases h
 ·split at h
  ·rename_i hx;rw [hs _ _ hx];exact h
  ·cases h
 ·cases h
theorem w6 {T:List Cnd} {C:Cx} {w:World} {want r:Bool} {a:AV} {v:Value} (h:gW T want a=some r) (hr:RelG T C w a v):(yv v == some want)=r:=by
 unfold gW at h
 split at h
 ·injection h with h;subst h
  have:=hr.1
  cases this with|tup _ vs h=>rfl
 ·injection h with h;subst h
  have:=hr.1
  cases this;simp [yv]
 ·injection h with h;subst h
  have:=hr.1
  cases this;simp [yv]
 ·rename_i p b
  obtain ⟨x,hx,h1,h2⟩:=hr.2 p _ rfl
  simp only [hx] at h
  injection h with h;subst h
  cases hc:x.c with
  | true=>have:=h1 hc;cases this;simp [yv]
  | false=>rw [h2 hc];simp [yv,undef]
 ·rename_i p b
  obtain ⟨x,hx,h1,h2⟩:=hr.2 p _ rfl
  simp only [hx] at h
  injection h with h;subst h
  cases hc:x.c with
  | true=>have:=h1 hc;cases this;simp [yv]
  | false=>rw [h2 hc];simp [yv,undef]
 ·cases h
theorem AY {all:List Oper} {j d:Nat} (h:Af all j=some d):∃ o,all[j]? = some o/\o.dst=some d:=by
 unfold Af at h
 split at h
 ·rename_i o ho;exact ⟨o,ho,h⟩
 ·cases h
theorem F3 {all:List Oper} {j d:Nat} (h:Af all j=some d) (tm:Array Value):yielded all.toArray tm j=yv (tm.getD d undef):=by
 obtain ⟨o,ho,hd⟩:=AY h
 unfold yielded
 simp only [List.getElem?_toArray,ho,Option.bind_some,hd]
 cases hv:tm[d]? with
 | none=>simp [Array.getD_eq_getD_getElem?,hv,yv,undef]
 | some v =>
   simp only [Array.getD_eq_getD_getElem?,hv,Option.getD_some,yv]
   cases v<;>rfl
def qE (all:List Oper) (o:Oper) (d:Nat):Prop:=∃ j want,o.guard=some (j,want)/\Af all j=some d
theorem Fg {all:List Oper} {T:List Cnd} {C:Cx} {w:World} {fr:List AV} {o:Oper} {r:Bool} {tm:Array Value} (h:Eo all T fr o r)
  (hr:∀ d,qE all o d->RelG T C w (A4 fr d) (tm.getD d undef)):Region.wanted o (yielded all.toArray tm)=r:=by
 unfold Eo at h
 unfold Region.wanted
 split at h
 ·rename_i hg;rw [hg];exact h.symm
 ·rename_i j want hg
  obtain ⟨d,h1,h2⟩:=h
  rw [hg]
  simp only [F3 h1]
  exact w6 h2 (hr d ⟨j,want,hg,h1⟩)
def TOK (all:List Oper) (T:List Cnd) (n:Nat) (fr:List AV):Prop :=
 ∀ (k:Nat) (x:Cnd),T[k]? = some x->x.j<n/\(∃ d,Af all x.j=some d/\gW T x.want (A4 fr d)=some x.c)/\AncOK T x.c x.anc
structure Info where
 ctx:Ctx
 sk:Bool
 b:AV
 new:A0
def Info.val (i:Info):AV:=match i.sk with|true=>.tup []|false=>HK i.ctx i.b
structure StepOK (P:Program) (all:List Oper) (T T1:List Cnd) (o:Oper) (fr:List AV) (hp:A0) (i:Info):Prop where
 sub:SubT T T1
 wants:Eo all T1 fr o (!i.sk&&i.ctx.on)
 step:i.sk=false->PureStep P T1 o i.ctx fr hp i.b i.new/\QH T1 i.ctx
 skip:i.sk=true->i.new=[]
section
variable {P:Program} {S:Sums} {C C':Cx} {w w':World} {H hp:A0} {T T1 T':List Cnd} {all:List Oper}
theorem Grow.stay {base n:Nat} (hn:∀ i,base<=i->i<base+n->C.ρ i=none):Grow base n C w C w :=
 ⟨rfl,rfl,rfl,Nat.le_refl _,fun _ _=>rfl,fun _ h=>h,fun _ h=>.inl h,fun _ _=>rfl,fun i b c m h1 h2 h=>(by rw [hn i h1 h2] at h;cases h),fun _=>rfl⟩
theorem Free.none {new:A0} (hf:Free C H hp new):∀ i,hp.length<=i->i<hp.length+new.length->C.ρ i=none:=fun i h1 h2=>by
 obtain ⟨t,rfl⟩:=Nat.exists_eq_add_of_le h1
 exact (hf t (by omega)).2
theorem G0 {o:Oper} {fr:List AV} {i:Info} (hst:StepOK P all T T1 o fr hp i) (hs:SubT T1 T') {act:Act} (hH:HR C H w) (hpre:Pre hp H) (hf:Free C H hp i.new)
  (hops:∀ x∈o.op.operands,RelG T' C w (ev fr x) (act.eval x)) (hg:∀ d,qE all o d->RelG T' C w (A4 fr d) (act.tmps.getD d undef)) :
  let Q:=fun v w'=>∃ C',HR C' H w'/\RelG T' C' w' i.val v/\Grow hp.length i.new.length C w C' w'
  (Region.wanted o (yielded all.toArray act.tmps)=true/\Ran P o act.eval w Q)\/(Region.wanted o (yielded all.toArray act.tmps)=false/\Q undef w):=by
 intro Q
 have hw:=hst.wants
 have hwant:Region.wanted o (yielded all.toArray act.tmps)=(!i.sk&&i.ctx.on):=Fg (T:=T') (C:=C) (w:=w) (fr:=fr) (by
  unfold Eo at hw ⊢
  split
  ·rename_i hg;rw [hg] at hw;exact hw
  ·rename_i j want hg
   rw [hg] at hw
   obtain ⟨d,h1,h2⟩:=hw
   exact ⟨d,h1,kg hs h2⟩) hg
 cases hsk:i.sk with
 | true =>
   rw [hsk] at hwant
   refine .inr ⟨hwant,C,hH,?_,.stay hf.none⟩
   simp only [Info.val,hsk]
   exact .plain (.tup _ _ .nil) trivial
 | false =>
   rw [hsk] at hwant
   obtain ⟨h1,h2⟩:=hst.step hsk
   cases hon:i.ctx.on with
   | true =>
     rw [hon] at hwant
     refine .inl ⟨hwant,(h1 hon T' hs C w H act hH hpre hf hops).mono fun v w' ⟨C',h3,h4,h5⟩=>⟨C',h3,?_,h5⟩⟩
     simp only [Info.val,hsk]
     match hc:i.ctx with
     | none=>exact .plain (Du h4) (BQ _)
     | some (k,x) =>
       rw [hc] at h2 hon
       exact ⟨.gd _ _ _,fun k' b' e=>by
        injection e with e1 e2;subst e1 e2
        exact ⟨x,hs _ _ h2.1,fun _=>h4,fun h=>by rw [show x.c=true from hon] at h;cases h⟩⟩
   | false =>
     rw [hon] at hwant
     refine .inr ⟨hwant,C,hH,?_,.stay hf.none⟩
     simp only [Info.val,hsk]
     match hc:i.ctx with
     | none=>rw [hc] at hon;cases hon
     | some (k,x) =>
       rw [hc] at h2 hon
       exact ⟨.gd _ _ _,fun k' b' e=>by
        injection e with e1 e2;subst e1 e2
        exact ⟨x,hs _ _ h2.1,⟨(fun h=>by rw [show x.c=false from hon] at h;cases h),fun _=>rfl⟩⟩⟩
theorem cq (T:List Cnd) (x:Cnd):ZI T x=T++[x]:=by
 induction T with
 | nil=>rfl
 | cons y l ih=>simp [ZI,ih]
theorem Lj:∀ (T:List Cnd) (k:Nat->VC),lenK T k=k T.length
 | [],_=>rfl
 | y::l,k=>by simp [lenK,Lj l]
theorem I9:∀ (T:List Cnd) (k:List Cnd->VC),forceT T k=k T
 | [],_=>rfl
 | ⟨_,_,_,_⟩::l,k=>by simp [forceT,I9 l]
theorem SubT.add (T:List Cnd) (x:Cnd):SubT T (T++[x]):=fun k y h=>by
 rw [List.getElem?_append_left (List.getElem?_eq_some_iff.1 h).1];exact h
theorem Pm {j:Nat} {want:Bool}:∀ {T:List Cnd} {n:Nat} {kx:Nat × Cnd},Sa j want T n=some kx->n<=kx.1/\T[kx.1-n]? = some kx.2/\kx.2.j=j/\kx.2.want=want
 | [],_,_,h=>by cases h
 | x::l,n,kx,h=>by
   simp only [Sa] at h
   split at h
   ·rename_i h1 h2
    injection h with h;subst h
    exact ⟨Nat.le_refl _,by simp,Nat.eq_of_beq_eq_true h1,by simpa using h2⟩
   ·obtain ⟨h1,h2,h3⟩:=Pm h
    refine ⟨by omega,?_,h3⟩
    rw [show kx.1-n=(kx.1-(n+1))+1 by omega,List.getElem?_cons_succ]
    exact h2
theorem M_ (want b:Bool) (k:Bool->VC):Ss want b k=k (b == want):=by
 cases want<;>simp [Ss,ce]
theorem TOK.set {n:Nat} {fr:List AV} (h:TOK all T n fr) (hu:Dd all=true) {o:Oper} (ho:all[n]? = some o) (a:AV):TOK all T (n+1) (CT fr o.dst a):=fun k x hx=>by
 obtain ⟨h1,⟨d,h2,h3⟩,h4⟩:=h k x hx
 refine ⟨by omega,⟨d,h2,?_⟩,h4⟩
 cases hd:o.dst with
 | none=>exact h3
 | some d' =>
   obtain ⟨o',ho',hd'⟩:=AY h2
   simp only [CT]
   rw [E9,if_neg]
   ·exact h3
   ·rintro ⟨rfl,_⟩
    exact (DR hu ho).1 d hd x.j o' (by omega) ho' hd'
theorem TOK.add {n:Nat} {fr:List AV} (h:TOK all T n fr) {x:Cnd} (hx:x.j<n/\(∃ d,Af all x.j=some d/\gW (T++[x]) x.want (A4 fr d)=some x.c)/\AncOK (T++[x]) x.c x.anc):TOK all (T++[x]) n fr:=fun k y hy=>by
 rcases Nat.lt_or_ge k T.length with hlt|hge
 ·rw [List.getElem?_append_left hlt] at hy
  obtain ⟨h1,⟨d,h2,h3⟩,h4⟩:=h k y hy
  exact ⟨h1,⟨d,h2,kg (.add T x) h3⟩,h4.sub (.add T x)⟩
 ·rw [List.getElem?_append_right hge] at hy
  have:k-T.length=0:=by
   rcases Nat.eq_zero_or_pos (k-T.length) with h|h
   ·exact h
   ·rw [List.getElem?_eq_none (by simp;omega)] at hy;cases hy
  rw [this] at hy
  simp at hy;subst hy;exact hx
theorem BO.gW {r:AR} {fr fr':List AV} {hp':A0} {a:AV} (h:BO S fr hp r fr' hp' a) {t:Nat} {want b:Bool} (hb:gW T want (A4 fr t)=some b):gW T want (A4 fr' t)=some b:=by
 have key:∀ (f:Nat->Option AV) (x:AV),Abs.gW T want x=some b->Abs.gW T want (mapR f x)=some b:=fun f x hx=>by
  unfold Abs.gW at hx
  split at hx
  ·exact hx
  ·exact hx
  ·exact hx
  ·exact hx
  ·exact hx
  ·cases hx
 induction h with
 | grow fr hp i b hl=>rw [F9];exact key _ _ hb
 | mov fr hp f args s2 pre res hp2 j h2 hs hl hpre hnr hj=>rw [F9];exact key _ _ hb
 | frz fr hp j a r fr' hp' x hl h ih=>exact ih (by rw [F9];exact key _ _ hb)
 | need fr hp p r fr' hp' a h h' ih=>exact ih hb
 | brt fr hp t e fr' hp' a h ih=>exact ih hb
 | brf fr hp t e fr' hp' a h ih=>exact ih hb
 | _=>exact hb
theorem TOK.bo {r:AR} {n:Nat} {fr fr':List AV} {hp':A0} {a:AV} (ht:TOK all T n fr) (h:BO S fr hp r fr' hp' a):TOK all T n fr':=fun k x hx=>by
 obtain ⟨h1,⟨d,h2,h3⟩,h4⟩:=ht k x hx
 exact ⟨h1,⟨d,h2,h.gW h3⟩,h4⟩
theorem ei {r:AR} {i:Nat} (h:Dx r=some i) {a:AV} {new:A0} (hq:PO S hp r a new):False:=by
 induction hq with
 | need p r a new h1 h2 ih=>exact ih h
 | _=>simp [Dx] at h
theorem en {r:AR} {i:Nat} (h:Dx r=some i) {fr fr':List AV} {hp':A0} {a:AV} (hq:BO S fr hp r fr' hp' a):S.lo<=i/\a=.row i/\fr'=mapR.mapRL (EJ i .top) fr/\∃ b,hp'=AM (E5 (EJ i .top) hp) i b:=by
 induction hq with
 | need fr hp p r fr' hp' a h1 h2 ih=>exact ih h
 | grow fr hp j b hl =>
   simp only [Dx] at h
   injection h with h;subst h
   exact ⟨hl,rfl,rfl,b,rfl⟩
 | _=>simp [Dx] at h
theorem eO {o:Oper} {fr:List AV} (h:Wa o fr=true):∃ c,o.op=.call c/\c.callee=.builtin .append:=by
 unfold Wa at h
 split at h
 ·rename_i c hc
  split at h
  ·rename_i h1 _;exact ⟨c,hc,h1⟩
  ·cases h
 ·cases h
def fY (P:Program) (all:List Oper) (dr:Bool) (n:Nat) (T:List Cnd) (fr:List AV):Prop:=Dj dr all n=true\/(dr=true/\T=[]/\rB P all n (A4 fr)=true)
theorem fQ {P:Program} {S:Sums} {dr:Bool} {n:Nat} {T:List Cnd} {o:Oper} {fr:List AV} (h:rA P S dr all n T o (A4 fr)=true):fY P all dr n T fr:=by
 unfold rA at h
 split at h
 ·rename_i hb;exact .inl hb
 ·split at h
  ·exact .inr ⟨rfl,rfl,h⟩
  ·cases h
theorem nP {sp:Bool} {d:Option Nat} {fr:List AV} {k:List AV->VC} (h:sp=false):Xz sp d fr k=k fr:=by subst h;rfl
theorem i_ {R:AV->A0->Prop} {sp:Bool} {d:Option Nat} {fr:List AV} {k:List AV->VC} (h:(Xz sp d fr k).sat R):(k fr).sat R\/∃ e c,d=some e/\A4 fr e=.sb c/\(k (Ay fr e (.lb c))).sat R:=by
 unfold Xz at h
 split at h
 ·exact .inl h
 ·split at h
  ·exact .inl h
  ·rename_i e
   split at h
   ·rename_i c hv
    refine .inr ⟨e,c,rfl,hv,?_⟩
    cases hc:c with
    | true=>have:=h.1 hc;rwa [Aq] at this
    | false=>have:=h.2 hc;rwa [Aq] at this
   ·exact .inl h
theorem PureStep.lit {P:Program} {T:List Cnd} {o:Oper} {ctx:Ctx} {fr:List AV} {hp:A0} {c:Bool} {new:A0} (h:PureStep P T o ctx fr hp (.sb c) new):PureStep P T o ctx fr hp (.lb c) new :=
 fun h1 T' h2 C w H act h3 h4 h5 h6=>(h h1 T' h2 C w H act h3 h4 h5 h6).mono fun v w' ⟨C',g1,g2,g3⟩=>⟨C',g1,by cases g2;exact .lb _,g3⟩
theorem dM (l:List AV) (n:Nat) (a b:AV):Ay (Ay l n a) n b=Ay l n b:=by rw [IT,IT,IT,List.set_set]
theorem er {l:List AV} {n:Nat} (h:l.length<=n):A4 l n=.tup []:=by
 rw [DX,List.getD_eq_getElem?_getD,List.getElem?_eq_none h];rfl
theorem JG (hS:SumsOK P S) {R:AV->A0->Prop} {dr:Bool} {n:Nat} {o:Oper} {rest:List Oper} {fr:List AV} {K:List AV->A0->VC} (hu:Dd all=true) (ho:all[n]? = some o) (ht:TOK all T n fr)
  (h:(AI P S dr all none n (o::rest) T fr hp K).sat R) :
  (∃ i T1,StepOK P all T T1 o fr hp i/\TOK all T1 (n+1) (CT fr o.dst i.val)/\(AI P S dr all none (n+1) rest T1 (CT fr o.dst i.val) (hp++i.new) K).sat R) \/
  (fY P all dr n T fr/\GA o.op=true/\Eo all T fr o true/\∃ ρ,MG fr ρ/\∃ fr' hp' a,BO S fr hp (Hk P S ρ hp o.op) fr' hp' a/\TOK all T (n+1) (CT fr' o.dst (DN a)) /\
   (AI P S dr all none (n+1) rest T (CT fr' o.dst (DN a)) hp' K).sat R) \/
  (dr=true/\T=[]/\o.guard=none/\MC all n=true/\n+1<EK all n/\(∃ c,o.op=.call c/\c.callee=.builtin .append)/\∃ ρ,ρ=Ks ((CR (Cc o.op)).map fun t=>(t,Dk [] (A4 fr t)))/\∃ i,Dx (Hk P S ρ hp o.op)=some i/\∃ fr' hp' a,BO S fr hp (Hk P S ρ hp o.op) fr' hp' a /\
   (AI P S dr all (some (i,EK all n)) (n+1) rest [] (CT fr' o.dst (DN a)) hp' K).sat R):=by
 have key:∀ (ctx:Ctx) (T1:List Cnd),SubT T T1->QH T1 ctx->TOK all T1 n fr->Eo all T1 fr o ctx.on->(ctx=none->T1=T) ->
   (GL P S (Dj dr all n) ctx T1 o fr hp fun fr' hp'=>AI P S dr all none (n+1) rest T1 fr' hp' K).sat R ->
   (∃ i T1,StepOK P all T T1 o fr hp i/\TOK all T1 (n+1) (CT fr o.dst i.val)/\(AI P S dr all none (n+1) rest T1 (CT fr o.dst i.val) (hp++i.new) K).sat R) \/
   (fY P all dr n T fr/\GA o.op=true/\Eo all T fr o true/\∃ ρ,MG fr ρ/\∃ fr' hp' a,BO S fr hp (Hk P S ρ hp o.op) fr' hp' a/\TOK all T (n+1) (CT fr' o.dst (DN a)) /\
    (AI P S dr all none (n+1) rest T (CT fr' o.dst (DN a)) hp' K).sat R):=by
  intro ctx T1 hsub hctx ht1 hw hT hh
  rcases Ht hS hctx hh with ⟨b,new,h1,h2⟩|⟨hn,hc,htu,ρ,hρ,fr',hp',a,h1,h2⟩
  ·exact .inl ⟨⟨ctx,false,b,new⟩,T1,⟨hsub,by simpa using hw,fun _=>⟨h1,hctx⟩,fun h=>by cases h⟩,ht1.set hu ho _,h2⟩
  ·subst hc
   obtain rfl:=hT rfl
   exact .inr ⟨.inl hn,htu,hw,ρ,hρ,fr',hp',a,h1,(ht1.bo h1).set hu ho _,h2⟩
 have skip:Eo all T fr o false->(JE fr o.dst (.tup []) fun fr'=>AI P S dr all none (n+1) rest T fr' hp K).sat R ->
   (∃ i T1,StepOK P all T T1 o fr hp i/\TOK all T1 (n+1) (CT fr o.dst i.val)/\(AI P S dr all none (n+1) rest T1 (CT fr o.dst i.val) (hp++i.new) K).sat R) \/
   (fY P all dr n T fr/\GA o.op=true/\Eo all T fr o true/\∃ ρ,MG fr ρ/\∃ fr' hp' a,BO S fr hp (Hk P S ρ hp o.op) fr' hp' a/\TOK all T (n+1) (CT fr' o.dst (DN a)) /\
    (AI P S dr all none (n+1) rest T (CT fr' o.dst (DN a)) hp' K).sat R):=by
  intro hw hh
  rw [FV] at hh
  exact .inl ⟨⟨none,true,.top,[]⟩,T,⟨.refl T,hw,(fun h=>by cases h),fun _=>rfl⟩,ht.set hu ho _,by simpa [Info.val] using hh⟩
 have two:∀ {A B C':Prop},A\/B->A\/B\/C':=fun h=>h.imp id .inl
 simp only [AI] at h
 split at h
 ·rename_i hg
  split at h
  ·rename_i hT0 hlate
   split at h
   ·rename_i hbar
    exact two (key none [] (.refl []) trivial ht (by unfold Eo;rw [hg];rfl) (fun _=>rfl) (by rw [hbar];exact h))
   ·split at h
    ·rename_i hbef hlt
     unfold Ni at h
     rw [Cy] at h
     split at h
     ·rename_i i hgr
      rcases gQ h with ⟨a,new,h1,h2⟩|⟨_,fr',hp',a,h1,h2⟩
      ·exact (ei hgr h1).elim
      ·rw [FV] at h2
       refine .inr (.inr ⟨rfl,rfl,hg,hbef,by have:=Nat.le_of_ble_eq_true (show Nat.ble (n+1+1) (EK all n)=true from hlt);omega,eO hlate,_,rfl,i,hgr,fr',hp',a,h1,h2⟩)
     ·exact h.elim
    ·exact h.elim
  ·rcases Ht hS (ctx:=none) trivial h with ⟨b,new,h1,h2⟩|⟨hn,hc,htu,ρ,hρ,fr',hp',a,h1,h2⟩
   ·rcases i_ h2 with h3|⟨d,c,hd,hv,h3⟩
    ·exact .inl ⟨⟨none,false,b,new⟩,_,⟨.refl _,by unfold Eo;rw [hg];rfl,fun _=>⟨h1,trivial⟩,fun h=>by cases h⟩,ht.set hu ho _,h3⟩
    ·rw [hd] at hv h3
     simp only [CT] at hv h3
     rw [E9] at hv
     split at hv
     ·have hb:b=.sb c:=by
       change DN b=.sb c at hv
       cases b<;>first|(simp only [DN] at hv;exact hv)|(simp [DN] at hv)
      subst hb
      rw [dM] at h3
      refine .inl ⟨⟨none,false,.lb c,new⟩,_,⟨.refl _,by unfold Eo;rw [hg];rfl,fun _=>⟨h1.lit,trivial⟩,fun h=>by cases h⟩,ht.set hu ho _,?_⟩
      simp only [hd,CT]
      exact h3
     ·rename_i hnd
      exact .inl ⟨⟨none,false,b,new⟩,_,⟨.refl _,by unfold Eo;rw [hg];rfl,fun _=>⟨h1,trivial⟩,fun h=>by cases h⟩,ht.set hu ho _,by
       have hlen:¬ d<fr.length:=fun h=>hnd ⟨rfl,h⟩
       rw [er (by omega)] at hv
       cases hv⟩
   ·rw [nP (by unfold nQ;rw [htu])] at h2
    exact .inr (.inl ⟨fQ hn,htu,by unfold Eo;rw [hg],ρ,hρ,fr',hp',a,h1,(ht.bo h1).set hu ho _,h2⟩)
 ·rename_i j want hg
  refine two ?_
  have hjn:j<n:=(DR hu ho).2 j want hg
  have mkW:∀ {T1:List Cnd} {d:Nat} {r:Bool},Af all j=some d->gW T1 want (A4 fr d)=some r->Eo all T1 fr o r:=fun h1 h2=>by
   unfold Eo;rw [hg];exact ⟨_,h1,h2⟩
  split at h
  ·rename_i kx hf
   obtain ⟨k,x⟩:=kx
   obtain ⟨_,h1,h2,h3⟩:=Pm hf
   simp only [Nat.sub_zero] at h1 h2 h3
   obtain ⟨_,⟨d,h4,h5⟩,h6⟩:=ht k x h1
   rw [h2] at h4
   rw [h3] at h5
   exact key (some (k,x)) T (.refl T) ⟨h1,h6⟩ ht (mkW h4 h5) (fun h=>by cases h) h
  ·split at h
   ·exact h.elim
   ·rename_i d hd
    split at h
    ·rename_i hv
     exact skip (mkW hd (by rw [hv];rfl)) h
    ·rename_i b hv
     split at h
     ·rename_i hb
      exact key none T (.refl T) trivial ht (mkW hd (by rw [hv];simp [gW,hb,Ctx.on])) (fun _=>rfl) h
     ·rename_i hb
      exact skip (mkW hd (by rw [hv];simp [gW,hb])) h
    ·rename_i b hv
     rw [M_,Lj,I9,cq] at h
     have hT1:(T++[(⟨j,want,b == want,[T.length]⟩:Cnd)])[T.length]? = some ⟨j,want,b == want,[T.length]⟩:=by simp
     have hanc:AncOK (T++[(⟨j,want,b == want,[T.length]⟩:Cnd)]) (b == want) [T.length]:=fun k hk=>by
      simp only [Eh] at hk
      split at hk
      ·rename_i e
       obtain rfl:T.length=k:=Nat.eq_of_beq_eq_true e
       exact ⟨_,hT1,fun h=>h⟩
      ·cases hk
     exact key (some (T.length,⟨j,want,b == want,[T.length]⟩)) (T++[⟨j,want,b == want,[T.length]⟩]) (.add _ _) ⟨hT1,hanc⟩
      (ht.add ⟨hjn,⟨d,hd,by rw [hv];rfl⟩,hanc⟩) (mkW hd (by rw [hv];rfl)) (fun h=>by cases h) h
    ·rename_i p b hv
     split at h
     ·rename_i x hb hx
      have hw:Eo all T fr o x.c:=mkW hd (by rw [hv];simp [gW,hx,hb])
      exact key (some (p,x)) T (.refl T) ⟨hx,(ht p x hx).2.2⟩ ht hw (fun h=>by cases h) h
     ·rename_i x hb hx
      exact skip (mkW hd (by rw [hv];simp [gW,hx,hb])) h
     ·exact h.elim
    ·rename_i p b hv
     split at h
     ·exact h.elim
     ·rename_i q1 q2 cx anc hx
      rw [M_,Lj,I9,cq] at h
      have hT1:(T++[(⟨j,want,Jp cx (b == want),T.length::anc⟩:Cnd)])[T.length]? = some ⟨j,want,Jp cx (b == want),T.length::anc⟩:=by simp
      have hanc:AncOK (T++[(⟨j,want,Jp cx (b == want),T.length::anc⟩:Cnd)]) (Jp cx (b == want)) (T.length::anc):=fun k hk=>by
       simp only [Eh] at hk
       split at hk
       ·rename_i e
        obtain rfl:T.length=k:=Nat.eq_of_beq_eq_true e
        exact ⟨_,hT1,fun h=>h⟩
       ·obtain ⟨y,hy,hc⟩:=(ht p _ hx).2.2 k hk
        refine ⟨y,SubT.add _ _ _ _ hy,fun h=>hc ?_⟩
        rw [MD] at h
        exact (Bool.and_eq_true _ _▸h).1
      have hgw:gW (T++[(⟨j,want,Jp cx (b == want),T.length::anc⟩:Cnd)]) want (A4 fr d)=some (Jp cx (b == want)):=by
       rw [hv];simp only [gW,SubT.add T _ _ _ hx,MD]
      exact key (some (T.length,⟨j,want,Jp cx (b == want),T.length::anc⟩)) (T++[⟨j,want,Jp cx (b == want),T.length::anc⟩]) (.add _ _) ⟨hT1,hanc⟩
       (ht.add ⟨hjn,⟨d,hd,hgw⟩,hanc⟩) (mkW hd hgw) (fun h=>by cases h) h
    ·exact h.elim
end
end Abs
end Go.Proofs.YtccgngldoinokaaGreat

namespace Go.Proofs.YtccgngldoinokaaGreat
namespace Abs
open Go Go.RowKit
theorem Nt:∀ (l:List Nat) (n:Nat),Wp l n=l.getD n 0
 | [],_=>rfl
 | _::_,0=>rfl
 | _::l,n+1=>by simp [Wp,Nt l n]
theorem rR (l:List Nat) (x:Nat):rS l x=l++[x]:=by
 induction l with
 | nil=>rfl
 | cons y l ih=>simp [rS,ih]
theorem PL:∀ (l:List Oper) (ms:List Nat),(∃ r,Cq l ms=ms++r/\r.length=l.length) /\
  ∀ p o,l[p]? = some o->Wp (Cq l ms) (ms.length+p)=Hd ((Cq l ms).take (ms.length+p)) o.after.toList
 | [],ms=>⟨⟨[],by simp [Cq]⟩,fun p o h=>by simp at h⟩
 | o::l,ms=>by
   have ih:=PL l (ms++[Hd ms o.after.toList])
   simp only [Cq,rR]
   obtain ⟨⟨r,hr,hl⟩,h2⟩:=ih
   refine ⟨⟨Hd ms o.after.toList::r,by rw [hr];simp,by simp [hl]⟩,fun p o' hp=>?_⟩
   cases p with
   | zero =>
     simp at hp;subst hp
     rw [hr,Nt]
     simp
   | succ p =>
     simp at hp
     have:=h2 p o' hp
     rw [List.length_append,List.length_singleton] at this
     rw [show ms.length+(p+1)=ms.length+1+p by omega]
     exact this
theorem JU {ms:List Nat} {j:Nat}:∀ {l:List Edge},(Hd ms l).testBit j=true->∃ e∈l,Region.binds .any e=true/\(e.on=j\/(Wp ms e.on).testBit j=true)
 | [],h=>by simp [Hd] at h
 | e::l,h=>by
   simp only [Hd] at h
   split at h
   ·rename_i hb
    have h':((Nat.shiftLeft 1 e.on) ||| (Wp ms e.on) ||| (Hd ms l)).testBit j=true:=h
    rw [Nat.testBit_or,Nat.testBit_or,Bool.or_eq_true,Bool.or_eq_true] at h'
    rcases h' with (h1|h1)|h1
    ·refine ⟨e,by simp,hb,.inl ?_⟩
     have h2:(1 <<< e.on).testBit j=true:=h1
     rw [Nat.one_shiftLeft,Nat.testBit_two_pow] at h2
     simpa using h2
    ·exact ⟨e,by simp,hb,.inr h1⟩
    ·obtain ⟨e',he,h2⟩:=JU h1
     exact ⟨e',by simp [he],h2⟩
   ·obtain ⟨e',he,h2⟩:=JU h
    exact ⟨e',by simp [he],h2⟩
def Fc (all:List Oper) (D:Nat->Prop):Prop:=∀ (i:Nat) (o:Oper),all[i]? = some o->D i->∀ e∈o.after.toList,Region.binds .any e=true->D e.on
def GH (all:List Oper):Prop:=∀ (i:Nat) (o:Oper),all[i]? = some o->∀ e∈o.after.toList,Region.binds .any e=true->e.on<i
theorem ED {all:List Oper} (h:Z_ all=true):GH all:=fun i o ho e he hb=>by
 have h1:=Ag h i (List.getElem?_eq_some_iff.1 ho).1
 simp only [ho] at h1
 have h2:=List.all_eq_true.1 h1 e he
 simp only [hb,Bool.not_true,Bool.false_or] at h2
 have:=Nat.le_of_ble_eq_true (show Nat.ble (e.on+1) i=true from h2)
 omega
theorem Au {all:List Oper} (hback:GH all) {D:Nat->Prop} (hD:Fc all D) {j:Nat}:∀ (i:Nat) (o:Oper),all[i]? = some o->(∀ e∈o.after.toList,Region.binds .any e=true->D e.on)->Er (Cq all []) j i=true->D j:=by
 intro i
 induction i using Nat.strongRecOn with
 | _ i ih =>
   intro o ho hpre h
   obtain ⟨⟨r,hr,hl⟩,h2⟩:=PL all []
   have h3:=h2 i o ho
   simp only [List.length_nil,Nat.zero_add] at h3
   unfold Er at h
   rw [h3] at h
   obtain ⟨e,he,hb,h4|h4⟩:=JU h
   ·exact h4▸hpre e he hb
   ·have hlt:e.on<i:=hback i o ho e he hb
    have hia:i<all.length:=(List.getElem?_eq_some_iff.1 ho).1
    have h5:Er (Cq all []) j e.on=true:=by
     unfold Er
     rw [Nt,List.getD_eq_getElem?_getD,List.getElem?_take_of_lt hlt,<- List.getD_eq_getElem?_getD,<- Nt] at h4
     exact h4
    have ho':all[e.on]? = some (all[e.on]'(by omega)):=List.getElem?_eq_getElem _
    exact ih e.on hlt _ ho' (fun e' he' hb'=>hD _ _ ho' (hpre e he hb) e' he' hb') h5
theorem LR {all:List Oper} (hback:GH all) {D:Nat->Prop} (hD:Fc all D) {j i:Nat} (hi:i<all.length) (h:D i) (ho:Er (Cq all []) j i=true):D j :=
 Au hback hD i _ (List.getElem?_eq_getElem hi) (hD i _ (List.getElem?_eq_getElem hi) h) ho
theorem H3 {i j:Nat} (h:i≠j):Nat.beq i j=false:=by
 rcases hb:Nat.beq i j with _|_
 ·rfl
 ·exact absurd (Nat.eq_of_beq_eq_true hb) h
theorem IK {i j:Nat} (h:i<j):Nat.blt i j=true:=by
 have:Nat.ble (i+1) j=true:=Nat.ble_eq_true_of_le h
 exact this
theorem St {i j:Nat} (h:¬ i<j):Nat.blt i j=false:=by
 rcases hb:Nat.blt i j with _|_
 ·rfl
 ·exact absurd (Nat.le_of_ble_eq_true (show Nat.ble (i+1) j=true from hb)) h
theorem IL {all:List Oper} {i:Nat} (h:Dj true all i=true) {j:Nat} (hj:j<all.length):(j<i->Er (Cq all []) j i=true)/\(i<j->Er (Cq all []) i j=true):=by
 have h1:=Ag (f:=fun j=>match Nat.blt j i with|true=>Er (Cq all []) j i|false=>(match Nat.beq j i with|true=>true|false=>Er (Cq all []) i j)) h j hj
 constructor
 ·intro hlt;rw [IK hlt] at h1;exact h1
 ·intro hlt;rw [St (by omega),H3 (by omega)] at h1;exact h1
theorem Gr {all:List Oper} (h:KO all=true) {j:Nat} {o:Oper} {d:Nat} (hj:all[j]? = some o) (hd:o.dst=some d) {i:Nat} {o':Oper} (hi:all[i]? = some o') (hl:d∈DO all o') :
  (j<i->Er (Cq all []) j i=true)/\(i<j->Er (Cq all []) i j=true):=by
 have h1:=Ag h j (List.getElem?_eq_some_iff.1 hj).1
 simp only [hj,hd,Bool.and_eq_true] at h1
 have h2:=Ag h1.2 i (List.getElem?_eq_some_iff.1 hi).1
 simp only [hi] at h2
 have hc:(DO all o').contains d=true:=by simpa using hl
 simp only [hc] at h2
 constructor
 ·intro hlt;rw [IK hlt] at h2;exact h2
 ·intro hlt;rw [St (by omega),H3 (by omega)] at h2;exact h2
theorem G5 {all:List Oper} {o:Oper} {t:Nat} (h:(.tmp t:Operand)∈o.op.operands):t∈DO all o:=by
 unfold DO
 refine List.mem_append_left _ (List.mem_filterMap.2 ⟨.tmp t,by simpa using h,rfl⟩)
theorem JW {all:List Oper} {o:Oper} {d:Nat} (h:qE all o d):d∈DO all o:=by
 obtain ⟨j,want,hg,hd⟩:=h
 unfold DO
 refine List.mem_append_right _ ?_
 rw [hg]
 unfold Af at hd
 split at hd
 ·rename_i o' ho';simp [ho',hd]
 ·cases hd
end Abs
end Go.Proofs.YtccgngldoinokaaGreat

namespace Go.Proofs.YtccgngldoinokaaGreat
namespace Abs
open Go Go.RowKit
section
variable {P:Program} {S:Sums} {C C':Cx} {w w':World} {H hp:A0} {T T1 T':List Cnd} {all:List Oper}
theorem RelG.sub (hs:SubT T T') {a:AV} {v:Value} (h:RelG T C w a v):RelG T' C w a v :=
 ⟨h.1,fun k b e=>by
  obtain ⟨x,h1,h2⟩:=h.2 k b e
  exact ⟨x,hs k x h1,h2⟩⟩
theorem FR.sub (hs:SubT T T') {fr:List AV} {tm:Array Value} (h:FR T C w fr tm):FR T' C w fr tm:=⟨h.len,fun t=>(h.get t).sub hs⟩
theorem EL {fr:List AV} {act:Act} (x:Operand) (h:∀ t,x=.tmp t->RelG T C w (A4 fr t) (act.tmps.getD t undef)):RelG T C w (ev fr x) (act.eval x):=by
 cases x with
 | tmp t=>exact h t rfl
 | const v =>
   cases v<;>try exact .plain (.v _) trivial
   ·exact .plain (.lb _) trivial
   ·exact .plain (.li _ _) trivial
   ·exact .plain (.fn _ _ _ _ _ (IW _) (IW _)) trivial
   ·exact .plain (.agg _ _ (IW _)) trivial
   ·exact .plain (.tup _ _ (IW _)) trivial
 | global g=>exact .plain (.v _) trivial
 | func f=>exact .plain (.fn _ _ _ _ _ .nil .nil) trivial
theorem Ah (l:A0) (i:Nat) (b:Blk):(AM l i b).length=l.length:=by rw [IU];simp
theorem BO.len {r:AR} {fr fr':List AV} {hp':A0} {a:AV} (h:BO S fr hp r fr' hp' a):hp.length<=hp'.length:=by
 induction h with
 | need fr hp p r fr' hp' a h h' ih=>exact ih
 | brt fr hp t e fr' hp' a h ih=>exact ih
 | brf fr hp t e fr' hp' a h ih=>exact ih
 | blk=>simp
 | upd=>rw [Ah];exact Nat.le_refl _
 | grow=>rw [Ah,DG];exact Nat.le_refl _
 | frz fr hp j a r fr' hp' x hl h ih=>rw [Ah,DG] at ih;exact ih
 | two fr hp f args s2 pre res hp2 h2 hs hl hpre=>exact hl
 | mov fr hp f args s2 pre res hp2 j h2 hs hl hpre=>exact hl
 | one=>simp
 | val=>exact Nat.le_refl _
theorem PY:∀ (l:List AV) (t:Nat),A4 (E7 l) t=DN (A4 l t)
 | [],_=>rfl
 | _::_,0=>rfl
 | _::l,t+1=>PY l t
theorem SK:∀ l:List AV,(E7 l).length=l.length
 | []=>rfl
 | _::l=>by simp [E7,SK l]
theorem EC:∀ (l:List AV) (k:List AV->VC),Kv l k=k (E7 l)
 | [],k=>rfl
 | a::l,k=>by
   have ih:=fun k'=>EC l k'
   cases a<;>exact ih _
theorem FR.clean {fr:List AV} {tm:Array Value} (h:FR T C w fr tm):FR [] C w (E7 fr) tm :=
 ⟨by rw [SK,h.len],fun t=>by rw [PY];exact .plain (Du (h.get t).1) (BQ _)⟩
theorem put_defers (a:Act) (d:Option Tmp) (v:Value):(a.put d v).defers=a.defers:=by cases d<;>rfl
def Goal (_P:Program) (S:Sums) (R:AV->A0->Prop) (K:List AV->A0->VC) (Q:Exit->Act->World->Prop) (C:Cx) (w:World) (ds:Act->Prop):Prop :=
 ∀ (fr':List AV) (hp':A0) (C':Cx) (w':World) (act':Act),(K fr' hp').sat R->S.lo<=hp'.length->HR C' hp' w'->FR [] C' w' fr' act'.tmps->Tr S.lo C w C' w'->ds act'->Q .normal act' w'
def Ep (all:List Oper) (ds:Act->Prop):Prop:=∀ o∈all,∀ (a:Act) (v:Value),ds a->ds (a.put o.dst v)
theorem Goal.step {R:AV->A0->Prop} {K:List AV->A0->VC} {Q:Exit->Act->World->Prop} {ds:Act->Prop} (g:Goal P S R K Q C w ds) (t:Tr S.lo C w C' w'):Goal P S R K Q C' w' ds :=
 fun fr' hp' C'' w'' act' h1 h2 h3 h4 h5 h6=>g fr' hp' C'' w'' act' h1 h2 h3 h4 (t.trans h5) h6
theorem cA (hS:SumsOK P S) (hu:Dd all=true) {R:AV->A0->Prop} {K:List AV->A0->VC} {Q:Exit->Act->World->Prop} {ds:Act->Prop} (hput:Ep all ds) {ro:Option Nat} {rm:Nat} :
  ∀ (rest:List Oper) (n:Nat) (T:List Cnd) (fr:List AV) (hp:A0) (C:Cx) (w:World) (act:Act),all.drop n=rest->TOK all T n fr->S.lo<=hp.length->HR C hp w->FR T C w fr act.tmps ->
    (AI P S false all none n rest T fr hp K).sat R->ds act->Goal P S R K Q C w ds->wpOpsIn (Fa ro) rm P all.toArray Q (List.range' n rest.length) act w:=by
 intro rest
 induction rest with
 | nil =>
   intro n T fr hp C w act hd ht AQ hH hF h hds hgoal
   simp only [AI,EC] at h
   exact hgoal _ _ C w act h AQ hH hF.clean (.refl _ _ _) hds
 | cons o rest ih =>
   intro n T fr hp C w act hd ht AQ hH hF h hds hgoal
   have hlt:n<all.length:=by
    rcases Nat.lt_or_ge n all.length with h|h
    ·exact h
    ·rw [List.drop_eq_nil_of_le h] at hd;cases hd
   have ho:all[n]? = some o:=by
    have:=List.getElem?_drop (xs:=all) (i:=n) (j:=0)
    rw [hd] at this;simpa using this.symm
   have hd':all.drop (n+1)=rest:=by
    rw [<- List.drop_drop,hd];rfl
   have hao:all.toArray[n]? = some o:=by simpa using ho
   have hwp:∀ {T:List Cnd} {fr:List AV} {hp:A0} {C':Cx} {w':World} {act':Act},TOK all T (n+1) fr->S.lo<=hp.length->HR C' hp w'->FR T C' w' fr act'.tmps->(AI P S false all none (n+1) rest T fr hp K).sat R ->
     ds act'->Tr S.lo C w C' w'->wpOpsIn (Fa ro) rm P all.toArray Q (List.range' (n+1) rest.length) act' w':=fun h1 h2 h3 h4 h5 h6 h7=>ih (n+1) _ _ _ _ _ _ hd' h1 h2 h3 h4 h5 h6 (hgoal.step h7)
   rw [List.length_cons,List.range'_succ]
   simp only [wpOpsIn,hao]
   rcases JG hS hu ho ht h with ⟨i,T1,hst,ht1,hh⟩|⟨_,htu,hw,ρ,hρ,fr',hp',a,hbo,ht1,hh⟩|⟨hdr,_⟩
   ·have hF1:=hF.sub hst.sub
    have hfree:=hH.free i.new
    rcases G0 hst (.refl _) (act:=act) (hH.ext i.new) (fun i hi=>Ax _ _ _ hi) hfree (fun x _=>EL x fun t _=>hF1.get t) (fun d _=>hF1.get d) with ⟨hw,hr⟩|⟨hw,hr⟩
    ·rw [hw]
     simp only [if_true]
     refine Ran.wpIn (hr.mono fun v w' ⟨C',h1,h2,h3⟩=>?_)
     have hx:=h3.cext hfree.none hH.ilt
     exact hwp ht1 (by simp;omega) h1 ((hF1.mono hx).put h2 _) hh (hput o (List.mem_of_getElem? ho) _ _ hds) (h3.tr AQ)
    ·rw [hw]
     simp only [Bool.false_eq_true,if_false]
     obtain ⟨C',h1,h2,h3⟩:=hr
     have hx:=h3.cext hfree.none hH.ilt
     refine ⟨fun _ _=>trivial,?_⟩
     exact hwp ht1 (by simp;omega) h1 ((hF1.mono hx).put h2 _) hh (hput o (List.mem_of_getElem? ho) _ _ hds) (h3.tr AQ)
   ·have hwant:Region.wanted o (yielded all.toArray act.tmps)=true:=Fg hw fun d _=>hF.get d
    rw [hwant]
    simp only [if_true]
    refine Ran.wpIn ((Jk hS o htu hρ hH hF AQ hbo).mono fun v w' ⟨C',h1,h2,h3,h4⟩=>?_)
    exact hwp ht1 (Nat.le_trans AQ hbo.len) h1 (h3.put (.plain (Du h2) (BQ _)) _) hh (hput o (List.mem_of_getElem? ho) _ _ hds) h4
   ·cases hdr
theorem VR (hS:SumsOK P S) {ro:Option Nat} {rm:Nat} {id:Nat} {ops:Array Oper} (hu:Dd ops.toList=true) {R:AV->A0->Prop} {K:List AV->A0->VC} {Q:Exit->Act->World->Prop} {fr:List AV} {act:Act}
  (AQ:S.lo<=hp.length) (hH:HR C hp w) (hF:FR [] C w fr act.tmps) (h:(AI P S false ops.toList none 0 ops.toList [] fr hp K).sat R) {ds:Act->Prop} (hput:Ep ops.toList ds) (hds:ds act) (hgoal:Goal P S R K Q C w ds):(Code.region id ops false).wpIn (Fa ro) rm P Q act w:=by
 apply wpIn_region
 have:=cA hS hu hput (ro:=ro) (rm:=rm) ops.toList 0 [] fr hp C w act (by simp) (fun k x hx=>by simp at hx) AQ hH hF h hds hgoal
 rw [List.range_eq_range']
 simpa using this
end
end Abs
end Go.Proofs.YtccgngldoinokaaGreat

namespace Go.Proofs.YtccgngldoinokaaGreat
namespace Abs
open Go Go.RowKit
instance:Inhabited Info:=⟨⟨none,true,.top,[]⟩⟩
def E_ (all:List Oper) (s:Nat) (fr0:List AV) (L:List Info):Nat->List AV
 | 0=>fr0
 | q+1=>CT (E_ all s fr0 L q) (Af all (s+q)) ((L.getD q default).val)
def hps (hp0:A0) (L:List Info):Nat->A0
 | 0=>hp0
 | q+1=>hps hp0 L q++(L.getD q default).new
structure Seg (P:Program) (all:List Oper) (s:Nat) (T0:List Cnd) (fr0:List AV) (hp0:A0) (L:List Info) (T':List Cnd):Prop where
 len:s+L.length<=all.length
 sub:SubT T0 T'
 step:∀ q,q<L.length->∃ o Tq Tq1,all[s+q]? = some o/\StepOK P all Tq Tq1 o (E_ all s fr0 L q) (hps hp0 L q) (L.getD q default)/\SubT Tq1 T'
def N2 (P:Program) (S:Sums) (all:List Oper) (R:AV->A0->Prop) (K:List AV->A0->VC) (s:Nat) (fr0:List AV) (hp0:A0) (L:List Info) (T':List Cnd):Prop :=
 (s+L.length=all.length/\(K (E7 (E_ all s fr0 L L.length)) (hps hp0 L L.length)).sat R) \/
 (∃ o,all[s+L.length]? = some o/\fY P all true (s+L.length) T' (E_ all s fr0 L L.length)/\GA o.op=true/\Eo all T' (E_ all s fr0 L L.length) o true /\
  ∃ ρ,MG (E_ all s fr0 L L.length) ρ/\∃ fr' hp' a,BO S (E_ all s fr0 L L.length) (hps hp0 L L.length) (Hk P S ρ (hps hp0 L L.length) o.op) fr' hp' a/\TOK all T' (s+L.length+1) (CT fr' o.dst (DN a)) /\
    (AI P S true all none (s+L.length+1) (all.drop (s+L.length+1)) T' (CT fr' o.dst (DN a)) hp' K).sat R) \/
 (∃ o,all[s+L.length]? = some o/\T'=[]/\o.guard=none/\MC all (s+L.length)=true/\s+L.length+1<EK all (s+L.length)/\(∃ c,o.op=.call c/\c.callee=.builtin .append) /\
  ∃ ρ,ρ=Ks ((CR (Cc o.op)).map fun t=>(t,Dk [] (A4 (E_ all s fr0 L L.length) t)))/\∃ i,Dx (Hk P S ρ (hps hp0 L L.length) o.op)=some i/\∃ fr' hp' a,BO S (E_ all s fr0 L L.length) (hps hp0 L L.length) (Hk P S ρ (hps hp0 L L.length) o.op) fr' hp' a /\
    (AI P S true all (some (i,EK all (s+L.length))) (s+L.length+1) (all.drop (s+L.length+1)) [] (CT fr' o.dst (DN a)) hp' K).sat R)
theorem DT (L:List Info) (i:Info):(L++[i]).getD L.length default=i:=by simp
theorem DY {L:List Info} {i:Info} {q:Nat} (h:q<L.length):(L++[i]).getD q default=L.getD q default:=by
 rw [List.getD_eq_getElem?_getD,List.getD_eq_getElem?_getD,List.getElem?_append_left h]
theorem DZ {all:List Oper} {s:Nat} {fr0:List AV} {L:List Info} {i:Info}:∀ {q:Nat},q<=L.length->E_ all s fr0 (L++[i]) q=E_ all s fr0 L q
 | 0,_=>rfl
 | q+1,h=>by simp only [E_];rw [DZ (by omega),DY (by omega)]
theorem E8 {hp0:A0} {L:List Info} {i:Info}:∀ {q:Nat},q<=L.length->hps hp0 (L++[i]) q=hps hp0 L q
 | 0,_=>rfl
 | q+1,h=>by simp only [hps];rw [E8 (by omega),DY (by omega)]
theorem Aj (hp0:A0) (L:List Info):∀ q,∃ r,hps hp0 L q=hp0++r
 | 0=>⟨[],by simp [hps]⟩
 | q+1=>by obtain ⟨r,hr⟩:=Aj hp0 L q;exact ⟨r++(L.getD q default).new,by simp [hps,hr]⟩
theorem Ja (hp0:A0) (L:List Info) {p q:Nat} (h:p<=q):∃ r,hps hp0 L q=hps hp0 L p++r:=by
 induction q with
 | zero=>obtain rfl:p=0:=by omega
         exact ⟨[],by simp⟩
 | succ q ih =>
   rcases Nat.lt_or_ge p (q+1) with hlt|hge
   ·obtain ⟨r,hr⟩:=ih (by omega)
    exact ⟨r++(L.getD q default).new,by simp [hps,hr]⟩
   ·obtain rfl:p=q+1:=by omega
    exact ⟨[],by simp⟩
theorem Li (fr:List AV) (d:Option Nat) (a:AV):(CT fr d a).length=fr.length:=by cases d<;>simp [CT,Ea]
theorem K5 (all:List Oper) (s:Nat) (fr0:List AV) (L:List Info):∀ q,(E_ all s fr0 L q).length=fr0.length
 | 0=>rfl
 | q+1=>by simp only [E_];rw [Li,K5 all s fr0 L q]
section
variable {P:Program} {S:Sums} {C C':Cx} {w w':World} {H hp:A0} {T T1 T':List Cnd} {all:List Oper}
theorem El {i:Nat} {o:Oper} (h:all[i]? = some o):Af all i=o.dst:=by unfold Af;rw [h]
theorem VD (hS:SumsOK P S) (hu:Dd all=true) {R:AV->A0->Prop} {K:List AV->A0->VC} {s:Nat} {T0:List Cnd} {fr0:List AV} {hp0:A0} :
  ∀ (rest:List Oper) (L:List Info) (T:List Cnd),Seg P all s T0 fr0 hp0 L T->all.drop (s+L.length)=rest->TOK all T (s+L.length) (E_ all s fr0 L L.length) ->
    (AI P S true all none (s+L.length) rest T (E_ all s fr0 L L.length) (hps hp0 L L.length) K).sat R->∃ L' T',Seg P all s T0 fr0 hp0 L' T'/\N2 P S all R K s fr0 hp0 L' T'/\∃ r,L'=L++r:=by
 intro rest
 induction rest with
 | nil =>
   intro L T hs hd ht h
   refine ⟨L,T,hs,.inl ⟨?_,by simpa only [AI,EC] using h⟩,[],by simp⟩
   have:=List.drop_eq_nil_iff.1 hd
   have:=hs.len
   omega
 | cons o rest ih =>
   intro L T hs hd ht h
   have hlt:s+L.length<all.length:=by
    rcases Nat.lt_or_ge (s+L.length) all.length with h|h
    ·exact h
    ·rw [List.drop_eq_nil_of_le h] at hd;cases hd
   have ho:all[s+L.length]? = some o:=by
    have:=List.getElem?_drop (xs:=all) (i:=s+L.length) (j:=0)
    rw [hd] at this;simpa using this.symm
   have hd':all.drop (s+L.length+1)=rest:=by
    rw [<- List.drop_drop,hd];rfl
   rcases JG hS hu ho ht h with ⟨i,T1,hst,ht1,hh⟩|⟨hb,htu,hw,ρ,hρ,fr',hp',a,hbo,ht1,hh⟩|⟨_,hT0,hgn,hbef,hlt',happ,ρ,hρ,i,hgr,fr',hp',a,hbo,hh⟩
   ·have e1:E_ all s fr0 (L++[i]) (L++[i]).length=CT (E_ all s fr0 L L.length) o.dst i.val:=by
     rw [List.length_append,List.length_singleton]
     simp only [E_]
     rw [DZ (Nat.le_refl _),DT,El ho]
    have e2:hps hp0 (L++[i]) (L++[i]).length=hps hp0 L L.length++i.new:=by
     rw [List.length_append,List.length_singleton]
     simp only [hps]
     rw [E8 (Nat.le_refl _),DT]
    have e3:s+(L++[i]).length=s+L.length+1:=by simp;omega
    have hsg:Seg P all s T0 fr0 hp0 (L++[i]) T1:=by
     refine ⟨by rw [e3];omega,hs.sub.trans hst.sub,fun q hq=>?_⟩
     rw [List.length_append,List.length_singleton] at hq
     rcases Nat.lt_or_ge q L.length with hql|hql
     ·obtain ⟨o',Tq,Tq1,h1,h2,h3⟩:=hs.step q hql
      refine ⟨o',Tq,Tq1,h1,?_,h3.trans hst.sub⟩
      rw [DZ (by omega),E8 (by omega),DY hql]
      exact h2
     ·obtain rfl:q=L.length:=by omega
      refine ⟨o,T,T1,ho,?_,.refl _⟩
      rw [DZ (Nat.le_refl _),E8 (Nat.le_refl _),DT]
      exact hst
    obtain ⟨L',T',g1,g2,r,hr⟩:=ih (L++[i]) T1 hsg (by rw [e3];exact hd') (by rw [e3,e1];exact ht1) (by rw [e3,e1,e2];exact hh)
    exact ⟨L',T',g1,g2,[i]++r,by rw [hr];simp⟩
   ·refine ⟨L,T,hs,.inr (.inl ⟨o,ho,hb,htu,hw,ρ,hρ,fr',hp',a,hbo,ht1,?_⟩),[],by simp⟩
    rw [hd'];exact hh
   ·refine ⟨L,T,hs,.inr (.inr ⟨o,ho,hT0,hgn,hbef,hlt',happ,ρ,hρ,i,hgr,fr',hp',a,hbo,?_⟩),[],by simp⟩
    rw [hd'];exact hh
theorem LG (hS:SumsOK P S) (hu:Dd all=true) {R:AV->A0->Prop} {K:List AV->A0->VC} {s:Nat} {T0:List Cnd} {fr0:List AV} {hp0:A0} (rest:List Oper) (L:List Info) (T:List Cnd) (h1:Seg P all s T0 fr0 hp0 L T) (h2:all.drop (s+L.length)=rest)
  (h3:TOK all T (s+L.length) (E_ all s fr0 L L.length)) (h4:(AI P S true all none (s+L.length) rest T (E_ all s fr0 L L.length) (hps hp0 L L.length) K).sat R):∃ L' T',Seg P all s T0 fr0 hp0 L' T'/\N2 P S all R K s fr0 hp0 L' T':=by
 obtain ⟨L',T',g1,g2,_⟩:=VD hS hu rest L T h1 h2 h3 h4
 exact ⟨L',T',g1,g2⟩
def m9 (all:List Oper) (i u s:Nat) (fr0:List AV) (L:List Info):Prop :=
 u<=s+L.length/\∀ q,q<L.length->s+q<u->(∀ o,all[s+q]? = some o->o.guard=none/\∀ t∈DO all o,hasO i (A4 (E_ all s fr0 L q) t)=false) /\
 (∀ t,Af all (s+q)=some t->t<fr0.length->hasO i ((L.getD q default).val)=false)/\Jb i ((L.getD q default).new)=false
theorem NP {i:Nat} {fr:List AV}:∀ {l:List Nat},Ku i fr l=true->∀ t∈l,hasO i (A4 fr t)=false
 | [],_,t,ht=>by cases ht
 | x::l,h,t,ht=>by
   simp only [Ku,Bool.and_eq_true,Bool.not_eq_true'] at h
   rcases List.mem_cons.1 ht with rfl|ht
   ·exact h.1
   ·exact NP h.2 t ht
theorem XB:∀ (l:A0) (n:Nat),Sl l n=l.drop n
 | [],0=>rfl
 | _::_,0=>rfl
 | [],n+1=>by simp [Sl]
 | _::l,n+1=>by simp [Sl,XB l n]
theorem iS (hS:SumsOK P S) (hu:Dd all=true) {R:AV->A0->Prop} {K:List AV->A0->VC} {s:Nat} {fr0:List AV} {hp0:A0} {i u:Nat} :
  ∀ (rest:List Oper) (L:List Info),Seg P all s [] fr0 hp0 L []->all.drop (s+L.length)=rest->s+L.length<=u ->
    (∀ q,q<L.length->s+q<u->(∀ o,all[s+q]? = some o->o.guard=none/\∀ t∈DO all o,hasO i (A4 (E_ all s fr0 L q) t)=false)/\(∀ t,Af all (s+q)=some t->t<fr0.length->hasO i ((L.getD q default).val)=false)/\Jb i ((L.getD q default).new)=false) ->
    (AI P S true all (some (i,u)) (s+L.length) rest [] (E_ all s fr0 L L.length) (hps hp0 L L.length) K).sat R ->
    ∃ L' T',Seg P all s [] fr0 hp0 L' T'/\N2 P S all R K s fr0 hp0 L' T'/\m9 all i u s fr0 L':=by
 intro rest
 induction rest with
 | nil =>
   intro L hs hd hle hcl h
   simp only [AI] at h
   split at h
   ·rename_i hble
    have hu':=Nat.le_of_ble_eq_true hble
    refine ⟨L,[],hs,.inl ⟨?_,by simpa only [EC] using h⟩,hu',hcl⟩
    have:=List.drop_eq_nil_iff.1 hd
    have:=hs.len
    omega
   ·exact h.elim
 | cons o rest ih =>
   intro L hs hd hle hcl h
   have hlt:s+L.length<all.length:=by
    rcases Nat.lt_or_ge (s+L.length) all.length with h|h
    ·exact h
    ·rw [List.drop_eq_nil_of_le h] at hd;cases hd
   have ho:all[s+L.length]? = some o:=by
    have:=List.getElem?_drop (xs:=all) (i:=s+L.length) (j:=0)
    rw [hd] at this;simpa using this.symm
   have hd':all.drop (s+L.length+1)=rest:=by
    rw [<- List.drop_drop,hd];rfl
   simp only [AI] at h
   split at h
   ·exact h.elim
   rename_i hblt
   have hnu:s+L.length<u:=by
    have:=Nat.le_of_ble_eq_true (show Nat.ble (s+L.length+1) u=true from hblt);omega
   split at h
   rotate_left
   ·exact h.elim
   rename_i hgn _ hclT
   rcases Ht hS (T:=[]) (ctx:=none) trivial h with ⟨b,new,h1,h2⟩|⟨hn,_⟩
   rotate_left
   ·cases hn
   split at h2
   rotate_left
   ·exact h2.elim
   rename_i hclD
   unfold Mw at hclD
   simp only [Bool.and_eq_true,Bool.not_eq_true'] at hclD
   rw [XB,List.drop_left] at hclD
   obtain ⟨inf,hinf⟩:∃ inf:Info,inf=⟨none,false,b,new⟩:=⟨_,rfl⟩
   have hval:inf.val=HK none b:=by rw [hinf];rfl
   have hnew:inf.new=new:=by rw [hinf]
   have hst:StepOK P all [] [] o (E_ all s fr0 L L.length) (hps hp0 L L.length) inf:=by
    rw [hinf]
    exact ⟨.refl _,by unfold Eo;rw [hgn];rfl,fun _=>⟨h1,trivial⟩,fun h=>by cases h⟩
   have e1:E_ all s fr0 (L++[inf]) (L++[inf]).length=CT (E_ all s fr0 L L.length) o.dst inf.val:=by
    rw [List.length_append,List.length_singleton]
    simp only [E_]
    rw [DZ (Nat.le_refl _),DT,El ho]
   have e2:hps hp0 (L++[inf]) (L++[inf]).length=hps hp0 L L.length++inf.new:=by
    rw [List.length_append,List.length_singleton]
    simp only [hps]
    rw [E8 (Nat.le_refl _),DT]
   have e3:s+(L++[inf]).length=s+L.length+1:=by simp;omega
   have hseg:Seg P all s [] fr0 hp0 (L++[inf]) []:=by
    refine ⟨by rw [e3];omega,.refl _,fun q hq=>?_⟩
    rw [List.length_append,List.length_singleton] at hq
    rcases Nat.lt_or_ge q L.length with hql|hql
    ·obtain ⟨o',Tq,Tq1,g1,g2,g3⟩:=hs.step q hql
     refine ⟨o',Tq,Tq1,g1,?_,g3⟩
     rw [DZ (by omega),E8 (by omega),DY hql]
     exact g2
    ·obtain rfl:q=L.length:=by omega
     refine ⟨o,[],[],ho,?_,.refl _⟩
     rw [DZ (Nat.le_refl _),E8 (Nat.le_refl _),DT]
     exact hst
   have hcl':∀ q,q<(L++[inf]).length->s+q<u->(∀ o,all[s+q]? = some o->o.guard=none/\∀ t∈DO all o,hasO i (A4 (E_ all s fr0 (L++[inf]) q) t)=false) /\
     (∀ t,Af all (s+q)=some t->t<fr0.length->hasO i (((L++[inf]).getD q default).val)=false)/\Jb i (((L++[inf]).getD q default).new)=false:=by
    intro q hq hqu
    rw [List.length_append,List.length_singleton] at hq
    rcases Nat.lt_or_ge q L.length with hql|hql
    ·rw [DZ (by omega),DY hql]
     exact hcl q hql hqu
    ·obtain rfl:q=L.length:=by omega
     rw [DZ (Nat.le_refl _),DT]
     refine ⟨fun o' ho'=>?_,fun t ht htl=>?_,by rw [hnew];exact hclD.2⟩
     ·rw [ho] at ho';injection ho' with ho';subst ho'
      exact ⟨hgn,NP hclT⟩
     ·rw [El ho] at ht
      have h3:=hclD.1
      rw [ht] at h3
      simp only [CT,E9] at h3
      rw [if_pos ⟨trivial,by rw [K5];exact htl⟩] at h3
      rw [hval]
      simpa using h3
   rw [<- hval,<- e1,<- hnew,<- e2,<- e3] at h2
   split at h2
   ·rename_i hbeq
    have hue:s+L.length+1=u:=by rw [<- e3];exact Nat.eq_of_beq_eq_true hbeq
    obtain ⟨L',T',g1,g2,r,hr⟩:=VD hS hu rest (L++[inf]) [] hseg (by rw [e3];exact hd') (fun k x hx=>by simp at hx) h2
    subst hr
    have hlen:L.length+1<=((L++[inf])++r).length:=by simp
    refine ⟨_,T',g1,g2,by omega,fun q hq hqu=>?_⟩
    have hq1:q<(L++[inf]).length:=by simp;omega
    have e4:((L++[inf])++r).getD q default=(L++[inf]).getD q default:=by
     rw [List.getD_eq_getElem?_getD,List.getD_eq_getElem?_getD,List.getElem?_append_left hq1]
    have e5:∀ p,p<=(L++[inf]).length->E_ all s fr0 ((L++[inf])++r) p=E_ all s fr0 (L++[inf]) p:=by
     intro p
     induction p with
     | zero=>intro _;rfl
     | succ p ihp =>
       intro hp
       simp only [E_]
       rw [ihp (by omega),List.getD_eq_getElem?_getD,List.getD_eq_getElem?_getD,List.getElem?_append_left (by omega)]
    rw [e4,e5 q (by omega)]
    exact hcl' q hq1 hqu
   ·exact ih (L++[inf]) hseg (by rw [e3];exact hd') (by rw [e3];omega) hcl' h2
def J3 (f:Nat->Bool):Nat->Nat
 | 0=>0
 | n+1=>(if f n then 0 else 1)+J3 f n
theorem TD {f g:Nat->Bool} {i:Nat} (hi:f i=false) (hg:∀ k,g k=(f k||decide (k=i))):∀ {n:Nat},i<n->J3 g n+1=J3 f n
 | n+1,h=>by
   simp only [J3,hg n]
   rcases Nat.lt_or_ge i n with hlt|hge
   ·have:=TD hi hg hlt
    have hne:n≠i:=by omega
    simp only [hne,decide_false,Bool.or_false]
    omega
   ·obtain rfl:i=n:=by omega
    have:∀ m,m<=i->J3 g m=J3 f m:=fun m=>by
     induction m with
     | zero=>intro _;rfl
     | succ m ih =>
       intro hm
       simp only [J3,hg m]
       have hne:m≠i:=by omega
       simp only [hne,decide_false,Bool.or_false]
       rw [ih (by omega)]
    rw [this i (Nat.le_refl _),hi]
    simp
    omega
theorem Hl {f:Nat->Bool}:∀ {n:Nat},J3 f n=0->∀ i,i<n->f i=true
 | n+1,h,i,hi=>by
   simp only [J3] at h
   rcases Nat.lt_or_ge i n with hlt|hge
   ·exact Hl (by omega) i hlt
   ·obtain rfl:i=n:=by omega
    cases hf:f i with
    | true=>rfl
    | false=>rw [hf] at h;simp at h
abbrev Ac (D:Array Bool) (i:Nat):Prop:=D.getD i false=true
theorem EA {D:Array Bool} {i:Nat} (h:i∈Region.ready .any all.toArray D):∃ o,all[i]? = some o/\D.getD i true=false/\∀ e∈o.after.toList,Region.binds .any e=true->Ac D e.on:=by
 unfold Region.ready at h
 rw [List.mem_filter] at h
 obtain ⟨h1,h2⟩:=h
 simp only [List.mem_range,List.size_toArray] at h1
 have ho:all[i]? = some (all[i]'h1):=List.getElem?_eq_getElem _
 simp only [Bool.and_eq_true,Bool.not_eq_true'] at h2
 refine ⟨_,ho,h2.1,fun e he hb=>?_⟩
 have h3:=h2.2
 simp only [List.getElem?_toArray,ho,Option.map_some,Option.getD_some] at h3
 rw [<- Array.all_toList] at h3
 have h4:=List.all_eq_true.1 h3 e he
 simp only [hb,Bool.not_true,Bool.false_or] at h4
 exact h4
theorem mem_ready {D:Array Bool} {i:Nat} {o:Oper} (ho:all[i]? = some o) (hn:D.getD i true=false) (hp:∀ e∈o.after.toList,Region.binds .any e=true->Ac D e.on):i∈Region.ready .any all.toArray D:=by
 unfold Region.ready
 rw [List.mem_filter]
 refine ⟨by simpa using (List.getElem?_eq_some_iff.1 ho).1,?_⟩
 simp only [Bool.and_eq_true,Bool.not_eq_true',List.getElem?_toArray,ho,Option.map_some,Option.getD_some]
 refine ⟨hn,?_⟩
 rw [<- Array.all_toList]
 refine List.all_eq_true.2 fun e he=>?_
 cases hb:Region.binds .any e with
 | false=>simp
 | true=>simp only [Bool.not_true,Bool.false_or];exact hp e he hb
theorem CY {D:Array Bool} {i:Nat} (h:i<D.size):D.getD i true=D.getD i false:=by
 simp [Array.getD_eq_getD_getElem?,h]
theorem Ef (hback:GH all) {D:Array Bool} (hsz:D.size=all.length) (h:Region.ready .any all.toArray D=[]):∀ i,i<all.length->Ac D i:=by
 intro i
 induction i using Nat.strongRecOn with
 | _ i ih =>
   intro hi
   cases hd:D.getD i false with
   | true=>exact hd
   | false =>
     have ho:all[i]? = some (all[i]'hi):=List.getElem?_eq_getElem _
     have:=mem_ready ho (by rw [CY (by omega)];exact hd) fun e he hb=>ih e.on (hback i _ ho e he hb) (by have:=hback i _ ho e he hb;omega)
     rw [h] at this;cases this
theorem Dn (act:Act) (d:Option Tmp) (v:Value) (t:Nat):(act.put d v).tmps.getD t undef=if d=some t/\t<act.tmps.size then v else act.tmps.getD t undef:=by
 cases d with
 | none=>simp [Act.put]
 | some d =>
   simp only [Act.put,Array.getD_eq_getD_getElem?,Array.getElem?_setIfInBounds]
   by_cases hd:d=t
   ·subst hd
    by_cases hlt:d<act.tmps.size<;>simp [hlt]
   ·simp [hd]
theorem Ei {D:Array Bool} {i k:Nat} (hi:i<D.size):(D.setIfInBounds i true).getD k false=(D.getD k false||decide (k=i)):=by
 simp only [Array.getD_eq_getD_getElem?,Array.getElem?_setIfInBounds]
 by_cases h:i=k
 ·subst h;simp [hi]
 ·simp [h,Ne.symm h]
end
end Abs
end Go.Proofs.YtccgngldoinokaaGreat

namespace Go.Proofs.YtccgngldoinokaaGreat
namespace Abs
open Go Go.RowKit
def HI (dd:Nat->Option Nat) (fr0:List AV) (L:List Info):Nat->List AV
 | 0=>fr0
 | q+1=>CT (HI dd fr0 L q) (dd q) ((L.getD q default).val)
theorem Ls (dd:Nat->Option Nat) (fr0:List AV) (L:List Info):∀ q,(HI dd fr0 L q).length=fr0.length
 | 0=>rfl
 | q+1=>by simp only [HI];rw [Li,Ls dd fr0 L q]
theorem I8 {fr:List AV} {d:Option Nat} {a:AV} {t:Nat}:A4 (CT fr d a) t=if d=some t/\t<fr.length then a else A4 fr t:=by
 cases d with
 | none=>simp [CT]
 | some d =>
   simp only [CT,E9]
   by_cases h:t=d
   ·subst h;simp
   ·simp [h,Ne.symm h]
theorem X3 (dd:Nat->Option Nat) (fr0:List AV) (L:List Info) (t:Nat):∀ q,
  (∃ p,p<q/\dd p=some t/\t<fr0.length/\A4 (HI dd fr0 L q) t=(L.getD p default).val) \/
  (((∀ p,p<q->dd p≠some t)\/fr0.length<=t)/\A4 (HI dd fr0 L q) t=A4 fr0 t)
 | 0=>.inr ⟨.inl fun p h=>by omega,rfl⟩
 | q+1=>by
   simp only [HI]
   rw [I8,Ls]
   by_cases hd:dd q=some t/\t<fr0.length
   ·rw [if_pos hd]
    exact .inl ⟨q,by omega,hd.1,hd.2,rfl⟩
   ·rw [if_neg hd]
    rcases X3 dd fr0 L t q with ⟨p,h1,h2,h3,h4⟩|⟨h1,h2⟩
    ·exact .inl ⟨p,by omega,h2,h3,h4⟩
    ·refine .inr ⟨?_,h2⟩
     rcases h1 with h1|h1
     ·by_cases hlt:t<fr0.length
      ·refine .inl fun p hp=>?_
       rcases Nat.lt_or_ge p q with hpq|hpq
       ·exact h1 p hpq
       ·obtain rfl:p=q:=by omega
        exact fun e=>hd ⟨e,hlt⟩
      ·exact .inr (by omega)
     ·exact .inr h1
theorem Kp (all:List Oper) (s:Nat) (fr0:List AV) (L:List Info):∀ q,E_ all s fr0 L q=HI (fun q=>Af all (s+q)) fr0 L q
 | 0=>rfl
 | q+1=>by simp only [E_,HI];rw [Kp all s fr0 L q]
theorem Pb {dd dd':Nat->Option Nat} {fr0:List AV} {L L':List Info}:∀ {q:Nat},(∀ p,p<q->dd p=dd' p/\L.getD p default=L'.getD p default)->HI dd fr0 L q=HI dd' fr0 L' q
 | 0,_=>rfl
 | q+1,h=>by simp only [HI];rw [Pb fun p hp=>h p (by omega),(h q (by omega)).1,(h q (by omega)).2]
theorem I4 {hp0:A0} {L L':List Info}:∀ {q:Nat},(∀ p,p<q->L.getD p default=L'.getD p default)->hps hp0 L q=hps hp0 L' q
 | 0,_=>rfl
 | q+1,h=>by simp only [hps];rw [I4 fun p hp=>h p (by omega),h q (by omega)]
theorem F_ {L M:List Info} {q:Nat} (h:q<L.length):(L++M).getD q default=L.getD q default:=by
 rw [List.getD_eq_getElem?_getD,List.getD_eq_getElem?_getD,List.getElem?_append_left h]
theorem H8 {L M:List Info} {q:Nat}:(L++M).getD (L.length+q) default=M.getD q default:=by
 rw [List.getD_eq_getElem?_getD,List.getD_eq_getElem?_getD,List.getElem?_append_right (by omega)];simp
theorem eu {L:List Info} {m q:Nat} (h:q<m):(L.take m).getD q default=L.getD q default:=by
 rw [List.getD_eq_getElem?_getD,List.getD_eq_getElem?_getD,List.getElem?_take_of_lt h]
theorem Nr (hp0:A0) (L M:List Info):∀ q,hps hp0 (L++M) (L.length+q)=hps (hps hp0 L L.length) M q
 | 0=>I4 fun p hp=>F_ hp
 | q+1=>by
   show hps hp0 (L++M) (L.length+q+1)=_
   simp only [hps]
   rw [Nr hp0 L M q,H8]
section
variable {P:Program} {S:Sums} {C C':Cx} {w w':World} {H hp:A0} {T T1 T':List Cnd} {all:List Oper}
structure Core (dd:Nat->Option Nat) (dn:Nat->Prop) (fr0:List AV) (hp0:A0) (L:List Info) (T':List Cnd) (C:Cx) (w:World) (act:Act):Prop where
 hr:HR C (hps hp0 L L.length) w
 free:∀ q,q<L.length->¬ dn q->∀ t,t<(L.getD q default).new.length->C.ρ ((hps hp0 L q).length+t)=none
 v1:∀ q,q<L.length->dn q->∀ t,dd q=some t->t<fr0.length->RelG T' C w (L.getD q default).val (act.tmps.getD t undef)
 v2:∀ t,((∀ q,q<L.length->dn q->dd q≠some t)\/fr0.length<=t)->RelG T' C w (A4 fr0 t) (act.tmps.getD t undef)
 tsz:fr0.length=act.tmps.size
section
variable {dd:Nat->Option Nat} {dn dn':Nat->Prop} {fr0:List AV} {hp0:A0} {L:List Info} {act:Act}
theorem Core.look (hi:Core dd dn fr0 hp0 L T' C w act) {q:Nat} (hq:q<=L.length) {t:Nat} (h1:∀ p,p<q->dd p=some t->dn p)
  (h2:(∀ p,q<=p->p<L.length->dn p->dd p≠some t)\/fr0.length<=t):RelG T' C w (A4 (HI dd fr0 L q) t) (act.tmps.getD t undef):=by
 rcases X3 dd fr0 L t q with ⟨p,g1,g2,g3,g4⟩|⟨g1,g2⟩
 ·rw [g4];exact hi.v1 p (by omega) (h1 p g1 g2) t g2 g3
 ·rw [g2]
  refine hi.v2 t ?_
  rcases g1 with g1|g1
  ·rcases h2 with h2|h2
   ·refine .inl fun p hp hl=>?_
    rcases Nat.lt_or_ge p q with h|h
    ·exact g1 p h
    ·exact h2 p h hp hl
   ·exact .inr h2
  ·exact .inr g1
theorem cD {q:Nat} (hq:q<L.length):∃ r,hps hp0 L L.length=hps hp0 L q++((L.getD q default).new++r):=by
 obtain ⟨r0,hr0⟩:=Ja hp0 L (p:=q+1) (q:=L.length) (by omega)
 exact ⟨r0,by rw [hr0];simp [hps]⟩
theorem Nq {q:Nat} (hq:q<L.length):Pre (hps hp0 L q) (hps hp0 L L.length):=fun k hk=>by
 obtain ⟨r,hr⟩:=cD (hp0:=hp0) hq
 rw [hr,Ax _ _ _ hk]
theorem Ym {q:Nat} (hq:q<L.length) {t:Nat} (ht:t<(L.getD q default).new.length):A3 (hps hp0 L L.length) ((hps hp0 L q).length+t)=A3 (L.getD q default).new t:=by
 obtain ⟨r,hr⟩:=cD (hp0:=hp0) hq
 rw [hr,KS,Ax _ _ _ ht]
theorem Core.ff (hi:Core dd dn fr0 hp0 L T' C w act) {q:Nat} (hq:q<L.length) (hn:¬ dn q):Free C (hps hp0 L L.length) (hps hp0 L q) (L.getD q default).new:=fun t ht =>
 ⟨Ym hq ht,hi.free q hq hn t ht⟩
theorem Core.next (hi:Core dd dn fr0 hp0 L T' C w act) {q:Nat} (hq:q<L.length) (hn:¬ dn q) (hd:∀ p,p<L.length->(dn' p↔dn p\/p=q))
  (huq:∀ p,p<L.length->p≠q->∀ t,dd q=some t->dd p≠some t) {v:Value}
  (h1:HR C' (hps hp0 L L.length) w') (h2:RelG T' C' w' (L.getD q default).val v) (h3:Grow (hps hp0 L q).length (L.getD q default).new.length C w C' w'):Core dd dn' fr0 hp0 L T' C' w' (act.put (dd q) v):=by
 have hx:=h3.cext (hi.ff hq hn).none hi.hr.ilt
 refine ⟨h1,fun q' hq' hn' t ht=>?_,fun q' hq' hl t hdt hlt'=>?_,fun t ht=>?_,?_⟩
 ·have hn2:¬ dn q'/\q'≠q:=⟨fun h=>hn' ((hd _ hq').2 (.inl h)),fun h=>hn' ((hd _ hq').2 (.inr h))⟩
  have hold:=hi.free q' hq' hn2.1 t ht
  rw [h3.rho _ ?_]
  ·exact hold
  ·rcases Nat.lt_or_ge q' q with hlt|hge
   ·obtain ⟨r,hr⟩:=Ja hp0 L (p:=q'+1) (q:=q) hlt
    left
    rw [hr];simp only [hps,List.length_append];omega
   ·obtain ⟨r,hr⟩:=Ja hp0 L (p:=q+1) (q:=q') (by omega)
    right
    rw [hr];simp only [hps,List.length_append];omega
 ·rw [Dn]
  rcases (hd _ hq').1 hl with h|h
  ·have hne:q'≠q:=fun e=>hn (e▸h)
   rw [if_neg]
   ·exact (hi.v1 q' hq' h t hdt hlt').mono hx
   ·rintro ⟨hd',_⟩
    exact huq q' hq' hne t hd' hdt
  ·subst h
   rw [if_pos ⟨hdt,by rw [<- hi.tsz];exact hlt'⟩]
   exact h2
 ·rw [Dn,if_neg]
  ·refine (hi.v2 t (ht.imp (fun h p hp hl=>h p hp ((hd _ hp).2 (.inl hl))) id)).mono hx
  ·rintro ⟨hd',hlt'⟩
   rcases ht with ht|ht
   ·exact ht q hq ((hd _ hq).2 (.inr rfl)) hd'
   ·rw [<- hi.tsz] at hlt';omega
 ·rw [hi.tsz];cases dd q<;>simp [Act.put]
theorem Core.frame (hi:Core dd dn fr0 hp0 L T' C w act) (hall:∀ q,q<L.length->dn q):FR T' C w (HI dd fr0 L L.length) act.tmps :=
 ⟨by rw [Ls];exact hi.tsz,fun t=>hi.look (Nat.le_refl _) (fun p hp _=>hall p hp) (.inl fun p h1 h2=>by omega)⟩
end
mutual
theorem Ik {i:Nat} {x:AV}:∀ {a:AV},hasO i a=false->mapR (EJ i x) a=a
 | .own j _,h=>by simp only [hasO] at h;simp only [mapR];rw [GG (fun e=>by subst e;simp at h)]
 | .elt j _ _ _,h=>by simp only [hasO] at h;simp only [mapR];rw [GG (fun e=>by subst e;simp at h)]
 | .row j,h=>by simp only [hasO] at h;simp only [mapR];rw [GG (fun e=>by subst e;simp at h)]
 | .lsl j _ _,h=>by simp only [hasO] at h;simp only [mapR];rw [GG (fun e=>by subst e;simp at h)]
 | .agg l,h=>by simp only [hasO] at h;simp only [mapR];rw [FH h]
 | .tup l,h=>by simp only [hasO] at h;simp only [mapR];rw [FH h]
 | .fn f a b,h=>by simp only [hasO,Bool.or_eq_false_iff] at h;simp only [mapR];rw [FH h.1,FH h.2]
 | .gd k a,h=>by simp only [hasO] at h;simp only [mapR];rw [Ik h]
 | .top,_=>rfl
 | .li _ _,_=>rfl
 | .si _ _,_=>rfl
 | .lb _,_=>rfl
 | .sb _,_=>rfl
 | .v _,_=>rfl
 | .slc _ _ _,_=>rfl
 | .xp _,_=>rfl
 | .pa _ _ _,_=>rfl
 | .mp j,h=>by simp only [hasO] at h;simp only [mapR];rw [GG (fun e=>by subst e;simp at h)]
theorem FH {i:Nat} {x:AV}:∀ {l:List AV},hasO.hasOL i l=false->mapR.mapRL (EJ i x) l=l
 | [],_=>rfl
 | a::l,h=>by
   simp only [hasO.hasOL,Bool.or_eq_false_iff] at h
   simp only [mapR.mapRL]
   rw [Ik h.1,FH h.2]
end
theorem Ya {i:Nat} {x:AV}:∀ {b:Blk},cF i b=false->WO (EJ i x) b=b
 | .cells t l,h=>by simp only [cF] at h;simp only [WO];rw [FH h]
 | .row _ _ _ _,_=>rfl
 | .mat _ _ _ _,_=>rfl
 | .tab _ _ _,_=>rfl
 | .rows _ _ _ _ _ _ _ none,_=>rfl
 | .rows _ _ _ _ _ _ _ (some (_,none)),_=>rfl
 | .rows _ _ _ _ _ _ _ (some (_,some j)),h=>by simp only [cF] at h;simp only [WO,mM];rw [GG (fun e=>by subst e;simp at h)]
 | .dead,_=>rfl
theorem Km {i:Nat} {x:AV}:∀ {l:A0},Jb i l=false->E5 (EJ i x) l=l
 | [],_=>rfl
 | b::l,h=>by
   simp only [Jb,Bool.or_eq_false_iff] at h
   simp only [E5]
   rw [Ya h.1,Km h.2]
theorem WM (f:Nat->Option AV):∀ (l m:A0),E5 f (l++m)=E5 f l++E5 f m
 | [],_=>rfl
 | b::l,m=>by simp [E5,WM f l m]
theorem OQ {b:Blk}:∀ {l m:A0} {i:Nat},i<l.length->AM (l++m) i b=AM l i b++m
 | _::l,m,0,_=>rfl
 | x::l,m,i+1,h=>by
   simp only [List.cons_append,AM]
   rw [OQ (by simpa using h)]
theorem Wg {i:Nat} {b:Blk} {h:A0} (hi:i<h.length) {M:List Info}:∀ {q:Nat},(∀ p,p<q->Jb i ((M.getD p default).new)=false)->hps (AM (E5 (EJ i .top) h) i b) M q=AM (E5 (EJ i .top) (hps h M q)) i b
 | 0,_=>rfl
 | q+1,hc=>by
   obtain ⟨r,hr⟩:=Aj h M q
   simp only [hps]
   rw [Wg hi fun p hp=>hc p (by omega),WM,Km (hc q (by omega)),OQ]
   rw [DG,hr];simp;omega
theorem RelG.turn {j:Nat} {a:AV} (t:Turn j a C w C' w') (ha:EW a) {x:AV} {v:Value} (h:RelG T C w x v):RelG T C' w' (mapR (EJ j a) x) v :=
 ⟨t.rel h.1,fun k b e=>by
  obtain ⟨b',h1,h2⟩:=bG ha e
  obtain ⟨x,hx,h3,h4⟩:=h.2 k b' h1
  exact ⟨x,hx,fun hc=>h2▸t.rel (h3 hc),h4⟩⟩
def Cx.less (C:Cx) (i:Nat):Cx:=⟨fun j=>if j=i then none else C.ρ j,C.I,C.O⟩
theorem Turn.less (C:Cx) (w:World) (i:Nat):Turn i .top C w (C.less i) w :=
 ⟨fun j hj=>by simp [Cx.less,hj],fun _ h=>h,fun _ _=>rfl,fun v _=>.top v⟩
theorem Ys {i:Nat} {bb:Blk} {o:Oper} {frq:List AV} {hpq:A0} {inf:Info} (hst:StepOK P all T T1 o frq hpq inf) (hsub:SubT T1 T') {act:Act} (hH:HR C H w) (hi:i<hpq.length) (hiH:i<H.length)
  (hpre:Pre hpq (AM (E5 (EJ i .top) H) i bb)) (hn:∀ t,t<inf.new.length->C.ρ (hpq.length+t)=none) (hnew:∀ t,t<inf.new.length->A3 H (hpq.length+t)=A3 inf.new t) (hcl:Jb i inf.new=false)
  (hops:∀ x∈o.op.operands,RelG T' (C.less i) w (ev frq x) (act.eval x)) (hg:∀ d,qE all o d->RelG T' (C.less i) w (A4 frq d) (act.tmps.getD d undef)) :
  let Q:=fun v w'=>∃ C',HR C' H w'/\RelG T' C' w' inf.val v/\Grow hpq.length inf.new.length C w C' w'
  (Region.wanted o (yielded all.toArray act.tmps)=true/\Ran P o act.eval w Q)\/(Region.wanted o (yielded all.toArray act.tmps)=false/\Q undef w):=by
 intro Q
 have hH2:HR (C.less i) (AM (E5 (EJ i .top) H) i bb) w:=(Turn.less C w i).hr hH hiH (fun _ _ _ _ _ _=>rfl) (Nat.le_refl _) (fun p h=>by simp [Cx.less] at h) (fun b c n h=>by simp [Cx.less] at h)
  (fun b hb=>⟨hH.ilt b hb,fun j c n _ hj=>(hH.fresh _ _ _ _ hj).2 hb⟩) (fun _=>rfl) (fun b x hb=>⟨rfl,(hH.sub b x hb).2.1,fun b' c n h=>by simp [Cx.less] at h⟩)
 have hnewB:∀ t,t<inf.new.length->A3 (AM (E5 (EJ i .top) H) i bb) (hpq.length+t)=A3 inf.new t:=fun t ht=>by
  rw [BK (by omega),Gi,hnew t ht,<- Gi,Km hcl]
 have hfree:Free (C.less i) (AM (E5 (EJ i .top) H) i bb) hpq inf.new:=fun t ht=>by
  refine ⟨hnewB t ht,?_⟩
  simp only [Cx.less]
  rw [if_neg (by omega)]
  exact hn t ht
 have conv:∀ v w',(∃ C3,HR C3 (AM (E5 (EJ i .top) H) i bb) w'/\RelG T' C3 w' inf.val v/\Grow hpq.length inf.new.length (C.less i) w C3 w')->Q v w':=by
  rintro v w' ⟨C3,h1,h2,h3⟩
  have h3i:C3.ρ i=none:=by rw [h3.rho i (.inl hi)];simp [Cx.less]
  have hold:∀ j,(j<hpq.length\/hpq.length+inf.new.length<=j)->(if j=i then C.ρ i else C3.ρ j)=C.ρ j:=fun j hj=>by
   by_cases hji:j=i
   ·rw [if_pos hji,hji]
   ·rw [if_neg hji,h3.rho j hj];simp [Cx.less,hji]
  have hx34:Cext C3 w' ⟨fun j=>if j=i then C.ρ i else C3.ρ j,C3.I,C3.O⟩ w':=⟨fun j p hp=>by
   show (if j=i then C.ρ i else C3.ρ j)=some p
   by_cases hji:j=i
   ·rw [hji,h3i] at hp;cases hp
   ·rw [if_neg hji];exact hp,fun _ h=>h,fun _ _=>rfl⟩
  have hgr:Grow hpq.length inf.new.length C w ⟨fun j=>if j=i then C.ρ i else C3.ρ j,C3.I,C3.O⟩ w':=⟨h3.os,h3.tape,h3.output,h3.size,h3.keep,h3.imm,h3.imm',hold,fun j b c m g1 g2 g3=>by
   have g3':(if j=i then C.ρ i else C3.ρ j)=some (.at b c m):=g3
   rw [if_neg (by omega)] at g3'
   exact h3.own j b c m g1 g2 g3',h3.sub⟩
  have hxx:Cext C w ⟨fun j=>if j=i then C.ρ i else C3.ρ j,C3.I,C3.O⟩ w':=hgr.cext (fun j g1 g2=>by
   obtain ⟨t,rfl⟩:=Nat.exists_eq_add_of_le g1
   exact hn t (by omega)) hH.ilt
  have hskp:KE C w ⟨fun j=>if j=i then C.ρ i else C3.ρ j,C3.I,C3.O⟩ w':=fun b x hb=>⟨(h3.sub b).trans hb,h3.keep b (hH.sub b x hb).1⟩
  have cls:∀ j p,(if j=i then C.ρ i else C3.ρ j)=some p->(C.ρ j=some p)\/(hpq.length<=j/\j<hpq.length+inf.new.length/\j≠i/\C3.ρ j=some p):=fun j p hp=>by
   by_cases hr:j<hpq.length\/hpq.length+inf.new.length<=j
   ·rw [hold j hr] at hp;exact .inl hp
   ·rw [if_neg (by omega)] at hp
    exact .inr ⟨by omega,by omega,by omega,hp⟩
  refine ⟨⟨fun j=>if j=i then C.ρ i else C3.ρ j,C3.I,C3.O⟩,⟨fun j p hp=>?_,fun j j' b c n b' c' n' hj hj' hne=>?_,fun j b c n hj=>?_,h1.ilt,fun b x hb=>?_⟩,h2.mono hx34,hgr⟩
  ·rcases cls j p hp with ho|⟨g1,g2,g3,g4⟩
   ·refine (hH.live j p ho).mono hxx (fun q c m hq=>?_) hskp
    subst hq
    exact h3.keep q (hH.fresh _ _ _ _ ho).1
   ·obtain ⟨t,rfl⟩:=Nat.exists_eq_add_of_le g1
    rw [hnew t (by omega),<- hnewB t (by omega)]
    exact (h1.live _ p g4).mono hx34 (fun q c m _=>rfl) fun b x hb=>⟨hb,rfl⟩
  ·rcases cls j _ hj with ho|⟨g1,g2,g3,g4⟩
   ·rcases cls j' _ hj' with ho'|⟨g1',g2',g3',g4'⟩
    ·exact hH.inj _ _ _ _ _ _ _ _ ho ho' hne
    ·have:=h3.own j' b' c' n' g1' g2' g4'
     have:=(hH.fresh _ _ _ _ ho).1
     omega
   ·rcases cls j' _ hj' with ho'|⟨g1',g2',g3',g4'⟩
    ·have:=h3.own j b c n g1 g2 g4
     have:=(hH.fresh _ _ _ _ ho').1
     omega
    ·exact h1.inj _ _ _ _ _ _ _ _ g4 g4' hne
  ·rcases cls j _ hj with ho|⟨g1,g2,g3,g4⟩
   ·have hf:=hH.fresh _ _ _ _ ho
    refine ⟨Nat.lt_of_lt_of_le hf.1 h3.size,fun hb=>?_⟩
    rcases h3.imm' b hb with h|h
    ·exact hf.2 h
    ·omega
   ·exact h1.fresh _ _ _ _ g4
  ·obtain ⟨s1,s2,s3,s4⟩:=h1.sub b x hb
   refine ⟨s1,s2,fun j b' c n hj=>?_,s4⟩
   rcases cls j _ hj with ho|⟨g1,g2,g3,g4⟩
   ·exact (hH.sub b x (by rw [<- hb];exact (h3.sub b).symm)).2.2.1 j b' c n ho
   ·exact s3 j b' c n g4
 rcases G0 hst hsub hH2 hpre hfree hops hg with ⟨hw,hr⟩|⟨hw,hr⟩
 ·exact .inl ⟨hw,hr.mono conv⟩
 ·exact .inr ⟨hw,conv _ _ hr⟩
theorem da (hpre:Pre hp H) {x:AV} {r:LN × Nat × (Nat->List AV)} (h:NF hp x=some r):NF H x=some r:=by
 unfold NF at h ⊢
 split at h
 ·rename_i j
  split at h
  ·rename_i e sz n el hb
   rw [hpre j (DL (by rw [hb];simp)),hb]
   exact h
  ·cases h
 ·exact h
 ·cases h
theorem eM (o:Oper) {c:Call} (ho:o.op=.call c) (hc:c.callee=.builtin .append) {ρ:Operand->AV} {σ:Operand->Value} (hev:∀ x,Rel C w (ρ x) (σ x)) (hH:HR C H w) (hpre:Pre hp H) {i:Nat}
  (hg:Dx (Hk P S ρ hp o.op)=some i) {fr fr':List AV} {hp':A0} {a:AV} (hbo:BO S fr hp (Hk P S ρ hp o.op) fr' hp' a) :
  Ran P o σ w fun v w'=>∃ C',Turn i .top C w C' w'/\HR C' (AM (E5 (EJ i .top) H) i (A3 hp' i)) w'/\Rel C' w' (.row i) v/\Tr S.lo C w C' w':=by
 have hop':Hk P S (ρ) hp o.op=(match c.args.toList,c.argTypes.toList with
  | [s,x],[t,t']=>(match Nat.beq t t' with|true=>F1 P S hp t (ρ s) (ρ x)|false=>.fail)
  | _,_=>.fail):=by
  rw [ho];obtain ⟨cal,args,tys⟩:=c;simp only at hc;subst hc;rfl
 rw [hop'] at hbo hg
 split at hbo
 ·rename_i s x t t' ha hty
  rw [ha,hty] at hg
  split at hbo
  ·rename_i htt
   simp only [htt] at hg
   obtain rfl:t=t':=Nat.eq_of_beq_eq_true htt
   obtain ⟨dst,op,type,pos,after,guard⟩:=o
   obtain ⟨cal,args,tys⟩:=c
   obtain ⟨args⟩:=args
   obtain ⟨tys⟩:=tys
   simp only at ho hc ha hty
   subst ho hc ha hty
   refine BI (m:=Builtin.append_ #[t,t] type #[σ s,σ x]) (by simp [execOp,resolve,invoke,builtin]) ?_
   unfold F1 at hbo hg
   split at hbo
   ·rename_i e hu
    simp only [hu] at hg
    split at hbo
    ·rename_i hn
     simp only [hn] at hg
     exfalso
     revert hg
     repeat' split
     all_goals simp [Dx]
    ·rename_i hn
     simp only [hn] at hg
     split at hbo
     ·cases hbo
     ·rename_i m sz elx hr
      simp only [hr] at hg
      split at hbo
      ·rename_i hsz hnz
       simp only [hsz,hnz] at hg
       obtain rfl:sz=A9 P e:=Nat.eq_of_beq_eq_true hsz
       have hpos:0<A9 P e:=by
        rcases Nat.eq_zero_or_pos (A9 P e) with h|h
        ·rw [h] at hnz;cases hnz
        ·exact h
       split at hbo
       ·rename_i hsn
        simp only [hsn] at hg
        exfalso
        revert hg
        repeat' split
        all_goals simp [Dx]
       ·rename_i hsn
        simp only [hsn] at hg
        split at hbo
        ·rename_i i0 hsi
         simp only [hsi] at hg
         split at hbo
         ·rename_i e' sz' n el hb hlo'
          simp only [hb,hlo'] at hg
          split at hbo
          ·rename_i hcc
           simp only [hcc,Dx] at hg
           injection hg with hg
           subst hg
           simp only [Bool.and_eq_true,decide_eq_true_eq] at hcc
           obtain ⟨⟨rfl,rfl⟩,hz⟩:=hcc
           obtain ⟨z,hz⟩:=Option.isSome_iff_exists.1 hz
           have hlt:i0<hp.length:=DL (by rw [hb];simp)
           cases hbo with
           | need _ _ _ _ _ _ _ hb' h =>
             cases h with
             | grow _ _ _ _ hl =>
               obtain ⟨u',w',C',hrun,ht,h1,h2,h3⟩:=NS (P:=P) (ty:=type) hH hu (by rw [<- hsi];exact hev s) (by rw [hpre _ hlt];exact hb) (hev x) (da hpre hr) rfl hpos hz hb' hl
               refine ⟨u',w',hrun,C',ht,?_,h2,h3⟩
               rw [DI,if_pos ⟨rfl,by rw [DG];exact hlt⟩]
               exact h1
          ·cases hbo
         ·cases hbo
        ·cases hbo
      ·cases hbo
   ·cases hbo
  ·cases hbo
 ·cases hbo
theorem ej {o:Oper} {c:Call} (ho:o.op=.call c) (hc:c.callee=.builtin .append) {ρ:Operand->AV} {i:Nat} (hg:Dx (Hk P S ρ hp o.op)=some i):i<hp.length:=by
 have hop':Hk P S (ρ) hp o.op=(match c.args.toList,c.argTypes.toList with
  | [s,x],[t,t']=>(match Nat.beq t t' with|true=>F1 P S hp t (ρ s) (ρ x)|false=>.fail)
  | _,_=>.fail):=by
  rw [ho];obtain ⟨cal,args,tys⟩:=c;simp only at hc;subst hc;rfl
 rw [hop'] at hg
 unfold F1 at hg
 repeat' split at hg
 all_goals first
  | (simp [Dx] at hg;done)
  | (simp only [Dx] at hg;injection hg with hg;subst hg;exact DL (by intro h;simp_all))
theorem SG (anc:List Nat) (fr:List AV) (t:Nat):∀ l:List Nat,JX (l.map fun t=>(t,Dk anc (A4 fr t))) t=if t∈l then Dk anc (A4 fr t) else .top
 | []=>by simp [eG]
 | x::l=>by
   rw [List.map_cons,PR,SG anc fr t l]
   by_cases h:x=t
   ·subst h;simp
   ·have:Nat.beq x t=false:=by
     rcases hb:Nat.beq x t with _|_
     ·rfl
     ·exact absurd (Nat.eq_of_beq_eq_true hb) h
    simp [this,Ne.symm h]
theorem Ly {fr:List AV} {l:List Nat} {act:Act} (h:∀ t∈l,RelG T C w (A4 fr t) (act.tmps.getD t undef)) (x:Operand):Rel C w (Ks (l.map fun t=>(t,Dk [] (A4 fr t))) x) (act.eval x):=by
 cases x with
 | tmp t =>
   show Rel C w (JX _ t) (act.tmps.getD t undef)
   rw [SG]
   split
   ·rename_i ht
    exact Gq (h t ht) (c:=true) rfl (fun k hk=>by simp [Eh] at hk)
   ·exact .top _
 | const v=>exact (EL (T:=[]) (fr:=[]) (.const v) (fun t e=>by cases e)).1
 | global v=>exact (EL (T:=[]) (fr:=[]) (.global v) (fun t e=>by cases e)).1
 | func v=>exact (EL (T:=[]) (fr:=[]) (.func v) (fun t e=>by cases e)).1
end
end Abs
end Go.Proofs.YtccgngldoinokaaGreat

namespace Go.Proofs.YtccgngldoinokaaGreat
namespace Abs
open Go Go.RowKit
section
variable {P:Program} {S:Sums} {C C':Cx} {w w':World} {H hp:A0} {T T1 T':List Cnd} {all:List Oper} {I:Act->World->Prop}
def CQ (I:Act->World->Prop) (F:Fence) (n:Nat) (P:Program) (ops:Array Oper) (Q:Exit->Act->World->Prop):Nat->Array Bool->Act->World->Prop
 | 0,D,a,w=>Region.ready .any ops D=[]/\Q .normal a w
 | f+1,D,a,w=>(Region.ready .any ops D=[]->Q .normal a w)/\∀ i∈Region.ready .any ops D,wpOpIn F n P ops Q i (fun a' w'=>I a' w'/\CQ I F n P ops Q f (D.setIfInBounds i true) a' w') a w
theorem Ff {F:Fence} {n:Nat} {ops:Array Oper} {Q:Exit->Act->World->Prop}:∀ (fuel:Nat) (D:Array Bool) (a:Act) (w:World),CQ I F n P ops Q fuel D a w->wpAnyIn F n P .any ops Q fuel D a w
 | 0,_,_,_,h=>h
 | f+1,D,a,w,h=>⟨h.1,fun i hi=>wpOpIn_mono (fun a' w' h'=>Ff f _ a' w' h'.2) (h.2 i hi)⟩
theorem N_ {ro:Option Nat} {ρ ρ':Operand->Value} (o:Oper) (hs:∀ cs b,o.op≠.select cs b) (h:∀ x∈o.op.operands,ρ x=ρ' x):Oper.semAt ro ρ o=Oper.semAt ro ρ' o:=by
 have e:=execOp_congr o hs h
 cases ro with
 | none=>exact e
 | some l =>
   by_cases hd:∃ c,o.op=.defer c
   ·obtain ⟨c,hc⟩:=hd
    have e2:=resolve_congr (ρ:=ρ) (ρ':=ρ') c o.type (fun x hx=>h x (by rw [hc];simpa [Op.operands] using hx))
    unfold Oper.semAt
    simp only [hc,e2]
   ·rw [Oper.semAt_eq _ _ _ fun c hc=>hd ⟨c,hc⟩,Oper.semAt_eq _ _ _ fun c hc=>hd ⟨c,hc⟩,e]
theorem FE {I I':Act->World->Prop} {F:Fence} {n:Nat} {ops:Array Oper} {Q:Exit->Act->World->Prop} (hI:∀ a w,I a w->I' a w):∀ (fuel:Nat) (D:Array Bool) (a:Act) (w:World),CQ I F n P ops Q fuel D a w->CQ I' F n P ops Q fuel D a w
 | 0,_,_,_,h=>h
 | f+1,D,a,w,h=>⟨h.1,fun i hi=>wpOpIn_mono (fun a' w' h'=>⟨hI _ _ h'.1,FE hI f _ a' w' h'.2⟩) (h.2 i hi)⟩
def Imm (C:Cx) (w0 w:World):Prop:=∀ b,C.I b->w.heap[b]? = w0.heap[b]?
theorem Imm.tr {lo:Nat} (hH:HR C hp w) (t:Tr lo C w C' w'):Imm C w w':=fun b hb=>t.keep b (hH.ilt b hb) (fun i c d n hc e=>(hH.fresh i c d n hc).2 (e▸hb)) (by
 cases hc:C.O b with
 | none=>rfl
 | some x=>exact ((hH.sub b x hc).2.1 hb).elim)
structure Fix (P:Program) (J:World->Prop) (ops:Array Oper) (o:Oper) (a:Act) (v:Value):Prop where
 dfr:∀ c,o.op≠.defer c
 sel:∀ cs b,o.op≠.select cs b
 wt:Region.wanted o (yielded ops a.tmps)=true
 run:∀ w,J w->(execOp a.eval o).run P w=.ok (.value v) w
def SameAt (ops:Array Oper) (o:Oper) (a0 a:Act):Prop:=∀ t∈o.looksAt ops,a.tmps.getD t undef=a0.tmps.getD t undef
theorem SameAt.eval {ops:Array Oper} {o:Oper} {a0 a:Act} (h:SameAt ops o a0 a):∀ x∈o.op.operands,a.eval x=a0.eval x:=fun x hx=>by
 cases x with
 | tmp t=>exact h t (by unfold Oper.looksAt;exact List.mem_append_left _ (List.mem_filterMap.2 ⟨.tmp t,by simpa using hx,rfl⟩))
 | const v=>rfl
 | global g=>rfl
 | func f=>rfl
theorem SameAt.wanted {o:Oper} {a0 a:Act} (h:SameAt all.toArray o a0 a):Region.wanted o (yielded all.toArray a.tmps)=Region.wanted o (yielded all.toArray a0.tmps):=by
 unfold Region.wanted
 cases hg:o.guard with
 | none=>rfl
 | some gw =>
   obtain ⟨g,b⟩:=gw
   simp only
   cases hd:Af all g with
   | none =>
     have hn:∀ tm,yielded all.toArray tm g=none:=fun tm=>by
      unfold yielded
      unfold Af at hd
      simp only [List.getElem?_toArray]
      cases ho:all[g]? with
      | none=>simp
      | some o'=>rw [ho] at hd;simp only at hd;simp [hd]
     rw [hn,hn]
   | some d =>
     rw [F3 hd,F3 hd,h d]
     unfold Oper.looksAt
     refine List.mem_append_right _ ?_
     rw [hg]
     obtain ⟨o',ho',hd'⟩:=AY hd
     simp [ho',hd']
theorem SameAt.keep {ops:Array Oper} {o oj:Oper} {a0 a:Act} (h:SameAt ops o a0 a) (h3:∀ d,oj.dst=some d->d ∉ o.looksAt ops) (u:Value):SameAt ops o a0 (a.put oj.dst u):=fun t ht=>by
 rw [Dn,if_neg]
 ·exact h t ht
 ·rintro ⟨e,_⟩;exact h3 t e ht
variable {F:Fence} {n:Nat} {Q:Exit->Act->World->Prop} {J:World->Prop}
theorem jA {ops:Array Oper} {j:Nat} {oi oj:Oper} {a0:Act} (hj:ops[j]? = some oj) (hap:oi.apart ops oj=true) (hsj:∀ cs b,oj.op≠.select cs b) (hQ:∀ c a w,¬ Q (.panic c) a w)
  {K:Act->World->Prop} {a:Act} {w:World} {v:Value} (hE:SameAt ops oi a0 a) (h:wpOpIn F n P ops Q j K (a.put oi.dst v) w) :
  wpOpIn F n P ops Q j (fun a' w'=>SameAt ops oi a0 a'/\K (a'.put oi.dst v) w') a w:=by
 obtain ⟨h1,h2,h3⟩:=Oper.apart_spec hap
 have keep:∀ (a:Act),SameAt ops oi a0 a->∀ u,SameAt ops oi a0 (a.put oj.dst u):=fun a ha u=>ha.keep h3 u
 have hev:∀ y∈oj.op.operands,(a.put oi.dst v).eval y=a.eval y:=fun y hy=>Act.eval_put fun d hd hxd=>h1 d hd (by
  subst hxd
  exact List.mem_append_left _ (List.mem_filterMap.2 ⟨.tmp d,by simpa using hy,rfl⟩))
 unfold wpOpIn at *
 simp only [hj] at *
 rw [wanted_put oj a oi.dst v h1,about_congr oj w hev] at h
 split
 ·rename_i hw
  simp only [hw,if_true] at h
  unfold Oper.wpIn at *
  rw [about_congr oj w hev,N_ oj hsj hev] at h
  refine ⟨h.1,?_⟩
  replace h:=h.2
  generalize (oj.semAt F.round a.eval).run P w=r at *
  cases r with
  | ok y w' =>
    cases y<;>simp only [Oper.uponIn] at h ⊢
    case value u=>exact ⟨keep a hE u,by rw [<- Act.put_comm a v u h2];exact h⟩
    case skip=>exact ⟨keep a hE _,by rw [<- Act.put_comm a v undef h2];exact h⟩
    case defer d =>
     refine ⟨keep { a with defers:=d::a.defers } hE _,?_⟩
     rw [<- Act.put_comm _ v undef h2,<- Act.put_defers]
     exact h
    case enter f args =>
     refine ⟨h.1,CallsIn.mono h.2 fun e w'' he=>?_⟩
     cases e with
     | returned u=>exact ⟨keep a hE u,by rw [<- Act.put_comm a v u h2];exact he⟩
     | panicked c=>exact absurd he (hQ _ _ _)
     | outgrown=>exact he
    case row row args=>exact ⟨h.1,RowsIn.mono h.2 fun u w'' he=>⟨keep a hE u,by rw [<- Act.put_comm a v u h2];exact he⟩⟩
    case round l f tmps assign body =>
     refine ⟨h.1,RoundIn.mono h.2 fun e w'' he=>?_⟩
     cases e with
     | returned u=>exact ⟨keep a hE u,by rw [<- Act.put_comm a v u h2];exact he⟩
     | panicked c=>exact absurd he (hQ _ _ _)
     | outgrown=>exact he
  | halt x w' =>
    cases x<;>simp only [Oper.uponIn] at h ⊢
    case panic u=>exact absurd h (hQ _ _ _)
 ·rename_i hw
  simp only [hw] at h
  exact ⟨h.1,keep a hE _,by rw [<- Act.put_comm a v undef h2];exact h.2⟩
theorem O3 {i:Nat} {oi:Oper} {a0:Act} {v:Value} (hi:all.toArray[i]? = some oi) (hf:Fix P J all.toArray oi a0 v) {K:Act->World->Prop} {a:Act} {w:World} (hF:∀ f,F.fn f) (hE:SameAt all.toArray oi a0 a) (hJ:J w) (h:K (a.put oi.dst v) w) :
  wpOpIn F n P all.toArray Q i K a w:=by
 unfold wpOpIn
 simp only [hi]
 rw [hE.wanted,hf.wt]
 simp only [if_true]
 refine ⟨fun f _=>hF f,?_⟩
 rw [Oper.semAt_eq _ _ _ hf.dfr,execOp_congr oi hf.sel hE.eval,hf.run w hJ]
 exact h
theorem VF {I:Act->World->Prop} {i:Nat} {oi:Oper} {a0:Act} {v:Value} (hi:all.toArray[i]? = some oi) (hf:Fix P J all.toArray oi a0 v) (hF:∀ f,F.fn f) (hsel:∀ (j:Nat) (o:Oper) cs b,all.toArray[j]? = some o->o.op≠.select cs b) (hQ:∀ c a w,¬ Q (.panic c) a w) (hI:∀ a w,I (a.put oi.dst v) w->I a w) :
  ∀ (fuel:Nat) (listed:Array Bool) (a:Act) (w:World),
    (∀ j oj,all.toArray[j]? = some oj->j≠i->listed.getD j true=false->(∀ e∈oj.after,Region.binds .any e=true->e.on≠i)->oi.apart all.toArray oj=true) ->
    i∈Region.ready .any all.toArray listed->SameAt all.toArray oi a0 a->I (a.put oi.dst v) w->J w ->
    CQ (fun a w=>I a w/\J w) F n P all.toArray Q fuel (listed.setIfInBounds i true) (a.put oi.dst v) w->CQ I F n P all.toArray Q (fuel+1) listed a w:=by
 intro fuel
 induction fuel with
 | zero =>
   intro listed a w _ hr hE hIp hJ H
   refine ⟨fun h=>(by rw [h] at hr;cases hr),fun j hj=>?_⟩
   by_cases hji:j=i
   ·subst hji;exact O3 hi hf hF hE hJ ⟨hIp,FE (fun _ _ h=>h.1) _ _ _ _ H⟩
   ·have:=ready_mono hj hji
    rw [H.1] at this
    cases this
 | succ fuel ih =>
   intro listed a w hfree hr hE hIp hJ H
   refine ⟨fun h=>(by rw [h] at hr;cases hr),fun j hj=>?_⟩
   by_cases hji:j=i
   ·subst hji;exact O3 hi hf hF hE hJ ⟨hIp,FE (fun _ _ h=>h.1) _ _ _ _ H⟩
   ·have h1:=H.2 j (ready_mono hj hji)
    obtain ⟨hjun,oj,hoj,hall⟩:=Go.mem_ready.1 hj
    have hnot:∀ e∈oj.after,Region.binds .any e=true->e.on≠i:=fun e he hb heq=>by
     have h1:=hall e he hb
     have h0:=(Go.mem_ready.1 hr).1
     rw [heq] at h1
     rcases Nat.lt_or_ge i listed.size with h'|h'
     ·simp [h'] at h0 h1;rw [h0] at h1;cases h1
     ·simp [Array.getElem?_eq_none h'] at h1
    have h2:=jA (a0:=a0) (v:=v) hoj (hfree j oj hoj hji hjun hnot) (fun cs b=>hsel j oj cs b hoj) hQ hE h1
    have hfree':∀ k ok,all.toArray[k]? = some ok->k≠i->(listed.setIfInBounds j true).getD k true=false ->
      (∀ e∈ok.after,Region.binds .any e=true->e.on≠i)->oi.apart all.toArray ok=true:=fun k ok hk hki hun hno=>by
     refine hfree k ok hk hki ?_ hno
     by_cases hjk:j=k
     ·subst hjk;exact hjun
     ·rw [getD_set_ne true hjk] at hun;exact hun
    refine wpOpIn_mono (fun a' w' h3=>⟨hI _ _ h3.2.1.1,ih (listed.setIfInBounds j true) a' w' hfree' (ready_mono hr (Ne.symm hji)) h3.1 h3.2.1.1 h3.2.1.2 ?_⟩) h2
    rw [Array.setIfInBounds_comm _ _ hji]
    exact h3.2.2
mutual
theorem cW:∀ {a:AV} {v v':Value},detA a=true->Rel C w a v->Rel C' w' a v'->v=v'
 | .lb _,v,v',_,h,h'=>by cases h;cases h';rfl
 | .sb _,v,v',_,h,h'=>by cases h;cases h';rfl
 | .si _ _,v,v',_,h,h'=>by cases h;cases h';rfl
 | .li _ _,v,v',_,h,h'=>by cases h;cases h';rfl
 | .agg l,v,v',hd,h,h'=>by
   unfold detA at hd
   cases h with|agg _ vs hv =>
   cases h' with|agg _ vs' hv' =>
   rw [Py hd hv hv']
 | .tup l,v,v',hd,h,h'=>by
   unfold detA at hd
   cases h with|tup _ vs hv =>
   cases h' with|tup _ vs' hv' =>
   rw [Py hd hv hv']
 | .top,_,_,hd,_,_=>by simp [detA] at hd
 | .own _ _,_,_,hd,_,_=>by simp [detA] at hd
 | .elt _ _ _ _,_,_,hd,_,_=>by simp [detA] at hd
 | .row _,_,_,hd,_,_=>by simp [detA] at hd
 | .lsl _ _ _,_,_,hd,_,_=>by simp [detA] at hd
 | .slc _ _ _,_,_,hd,_,_=>by simp [detA] at hd
 | .xp _,_,_,hd,_,_=>by simp [detA] at hd
 | .v _,_,_,hd,_,_=>by simp [detA] at hd
 | .fn _ _ _,_,_,hd,_,_=>by simp [detA] at hd
 | .gd _ _,_,_,hd,_,_=>by simp [detA] at hd
theorem Py:∀ {l:List AV} {vs vs':List Value},detA.detL l=true->RelL C w l vs->RelL C' w' l vs'->vs=vs'
 | [],_,_,_,h,h'=>by cases h;cases h';rfl
 | a::l,_,_,hd,h,h'=>by
   unfold detA.detL at hd
   split at hd
   ·rename_i ha
    cases h with|cons _ _ v vs h1 h2 =>
    cases h' with|cons _ _ v' vs' h1' h2' =>
    rw [cW ha h1 h1',Py hd h2 h2']
   ·cases hd
end
mutual
theorem Rel.det {w:World}:∀ {a:AV} {v:Value},Rel C' w a v->detA a=true->Rel C w a v
 | .lb _,v,h,_=>by cases h;exact .lb _
 | .sb _,v,h,_=>by cases h;exact .sb _
 | .si _ _,v,h,_=>by cases h;exact .si _ _
 | .li _ _,v,h,_=>by cases h;exact .li _ _
 | .agg l,v,h,hd=>by
   unfold detA at hd
   cases h with|agg _ vs hv=>exact .agg _ _ (RelL.det hv hd)
 | .tup l,v,h,hd=>by
   unfold detA at hd
   cases h with|tup _ vs hv=>exact .tup _ _ (RelL.det hv hd)
 | .top,_,_,hd=>by simp [detA] at hd
 | .own _ _,_,_,hd=>by simp [detA] at hd
 | .elt _ _ _ _,_,_,hd=>by simp [detA] at hd
 | .row _,_,_,hd=>by simp [detA] at hd
 | .lsl _ _ _,_,_,hd=>by simp [detA] at hd
 | .slc _ _ _,_,_,hd=>by simp [detA] at hd
 | .xp _,_,_,hd=>by simp [detA] at hd
 | .v _,_,_,hd=>by simp [detA] at hd
 | .fn _ _ _,_,_,hd=>by simp [detA] at hd
 | .gd _ _,_,_,hd=>by simp [detA] at hd
theorem RelL.det {w:World}:∀ {l:List AV} {vs:List Value},RelL C' w l vs->detA.detL l=true->RelL C w l vs
 | [],_,h,_=>by cases h;exact .nil
 | a::l,_,h,hd=>by
   unfold detA.detL at hd
   split at hd
   ·rename_i ha
    cases h with|cons _ _ v vs h1 h2=>exact .cons _ _ _ _ (Rel.det h1 ha) (RelL.det h2 hd)
   ·cases hd
end
theorem vp {i:AV} {v:Value} {n:LN} {k:Nat->AR} {ps:List Cd} {a:AV} (hk:∀ j,(∃ b,k j=.val b)\/k j=.fail) (hi:Rel C w i v) (h:L5 (idx i n k)=some (ps,a)) (hps:∀ p∈ps,p.ok):∃ q j,v=.int q ((j:Nat):Int)/\j<n.val/\k j=.val a:=by
 unfold idx at h
 split at h
 ·rename_i q x
  split at h
  ·rename_i hx
   have hx:0<=x:=by simpa using hx
   cases hi
   split at h
   ·rename_i m
    split at h
    ·rename_i hm
     have hm:x.toNat<m:=by simpa using hm
     refine ⟨q,x.toNat,by rw [Int.toNat_of_nonneg hx],hm,?_⟩
     rcases hk x.toNat with ⟨b,hb⟩|hb
     ·rw [hb] at h ⊢;simp only [L5,Option.some.injEq,Prod.mk.injEq] at h;rw [h.2]
     ·rw [hb] at h;simp [L5] at h
    ·simp [L5] at h
   ·rename_i m
    rcases hk x.toNat with ⟨b,hb⟩|hb
    ·rw [hb] at h
     simp only [L5,Option.some.injEq,Prod.mk.injEq] at h
     obtain ⟨rfl,rfl⟩:=h
     have:=hps _ (List.mem_singleton.2 rfl)
     exact ⟨q,x.toNat,by rw [Int.toNat_of_nonneg hx],this,hb⟩
    ·rw [hb] at h;simp [L5] at h
  ·simp [L5] at h
 ·rename_i q x
  cases hi
  rcases hk (Iz x) with ⟨b,hb⟩|hb
  ·rw [hb] at h
   simp only [L5,Option.some.injEq,Prod.mk.injEq] at h
   obtain ⟨rfl,rfl⟩:=h
   have hp:=hps _ (List.mem_singleton.2 rfl)
   have hp:0<=x/\x<(n.val:Int):=hp
   have hn:Iz x=x.toNat:=by unfold Iz;rfl
   exact ⟨q,Iz x,by rw [hn,Int.toNat_of_nonneg hp.1],by rw [hn];omega,hb⟩
  ·rw [hb] at h;simp [L5] at h
 ·simp [L5] at h
theorem YY {mx:Bool} {a b:AV} {u v:Value} {ps:List Cd} {r:AV} (ha:Rel C w a u) (hb:Rel C w b v) (h:L5 (F6 mx a [b])=some (ps,r)) :
  ∃ z,Rel C w r z/\∀ w',([v].foldlM (if mx then Builtin.max2 else Builtin.min2) u:Sem Value).run P w'=.ok z w':=by
 unfold F6 at h
 cases hk:AD a with
 | none=>rw [hk] at h;simp [L5] at h
 | some k =>
 cases hk':AD b with
 | none=>rw [hk,hk'] at h;simp [L5] at h
 | some k' =>
   have e1:=AJ ha hk
   have e2:=AJ hb hk'
   subst e1 e2
   rw [hk,hk'] at h
   simp only at h
   cases mx with
   | true =>
     have key:∀ w,(Builtin.max2 (.int k (AA a)) (.int k' (AA b))).run P w=.ok (.int k (if AA b > AA a then AA b else AA a)) w:=fun w=>by simp [Builtin.max2]
     refine ⟨.int k (if AA b > AA a then AA b else AA a),?_,fun w'=>by simp [Sem.run_bind,key]⟩
     split at h
     ·simp only [F6,L5,Option.some.injEq,Prod.mk.injEq] at h
      rw [<- h.2];exact .li _ _
     ·simp only [F6,L5,Option.some.injEq,Prod.mk.injEq] at h
      rw [<- h.2];unfold k9;exact .si _ _
   | false =>
     have key:∀ w,(Builtin.min2 (.int k (AA a)) (.int k' (AA b))).run P w=.ok (.int k (if AA b<AA a then AA b else AA a)) w:=fun w=>by simp [Builtin.min2]
     refine ⟨.int k (if AA b<AA a then AA b else AA a),?_,fun w'=>by simp [Sem.run_bind,key]⟩
     split at h
     ·simp only [F6,L5,Option.some.injEq,Prod.mk.injEq] at h
      rw [<- h.2];exact .li _ _
     ·simp only [F6,L5,Option.some.injEq,Prod.mk.injEq] at h
      rw [<- h.2];unfold k8;exact .si _ _
theorem sd {ρ:Operand->AV} {σ:Operand->Value} {dst:Option Tmp} {c:Call} {type:TypeId} {pos:String} {after:Array Edge} {guard:Option (Nat × Bool)} {ps:List Cd} {a:AV} {x y:Operand} {bi:Builtin} (hs:∀ x,Rel C w (ρ x) (σ x)) (hc:c.callee=.builtin bi) (ha:c.args.toList=[x,y]) (mx:Bool)
  (hb:(mx=false/\bi=.min)\/(mx=true/\bi=.max)) (h:L5 (F6 mx (ρ x) [ρ y])=some (ps,a)) :
  ∃ v,Rel C w a v/\(∀ c',(⟨dst,.call c,type,pos,after,guard⟩:Oper).op≠.defer c')/\(∀ cs b,(⟨dst,.call c,type,pos,after,guard⟩:Oper).op≠.select cs b)/\∀ w',Imm C w w'->(execOp σ (⟨dst,.call c,type,pos,after,guard⟩:Oper)).run P w'=.ok (.value v) w':=by
 obtain ⟨z,h1,h2⟩:=YY (P:=P) (hs x) (hs y) h
 refine ⟨z,h1,by simp,by simp,fun w' _=>?_⟩
 obtain ⟨cal,args,tys⟩:=c
 simp only at hc ha
 subst hc
 have e1:args.map σ=⟨[σ x,σ y]⟩:=by apply Array.ext';simp [ha]
 have h3:=h2 w'
 rcases hb with ⟨rfl,rfl⟩|⟨rfl,rfl⟩
 ·simp only [Bool.false_eq_true,if_false] at h3
  simp [execOp,resolve,invoke,builtin,e1,Builtin.min_] at h3 ⊢
  simp [h3]
 ·simp only [if_true] at h3
  simp [execOp,resolve,invoke,builtin,e1,Builtin.max_] at h3 ⊢
  simp [h3]
theorem Lt {ρ:Operand->AV} {σ:Operand->Value} {o:Oper} {ps:List Cd} {a:AV} (hilt:∀ b,C.I b->b<w.heap.size) (hs:∀ x,Rel C w (ρ x) (σ x)) (hcn:∀ v,σ (.const v)=v) (h:Lu P ρ o.op=some (ps,a)) (hps:∀ p∈ps,p.ok) :
  ∃ v,Rel C w a v/\(∀ c,o.op≠.defer c)/\(∀ cs b,o.op≠.select cs b)/\∀ w',Imm C w w'->(execOp σ o).run P w'=.ok (.value v) w':=by
 obtain ⟨dst,op,type,pos,after,guard⟩:=o
 simp only at h
 unfold Lu at h
 split at h
 ·rename_i x
  simp only [Option.some.injEq,Prod.mk.injEq] at h
  obtain ⟨rfl,rfl⟩:=h
  exact ⟨σ x,hs x,by simp,by simp,fun w' _=>by simp [execOp]⟩
 ·rename_i x
  simp only [Option.some.injEq,Prod.mk.injEq] at h
  obtain ⟨rfl,rfl⟩:=h
  exact ⟨σ x,hs x,by simp,by simp,fun w' _=>by simp [execOp]⟩
 ·rename_i t x i
  split at h
  ·rename_i n sz el hx
   have h1:=hs x
   rw [hx] at h1
   unfold H6 at h
   split at h
   ·rename_i m e hu
    exfalso
    split at h
    ·simp [L5] at h
    ·split at h
     ·rename_i hq;simp [xH] at hq
     split at h
     ·split at h<;>first|(simp [L5] at h;done)|skip
      all_goals (rename_i h5 h6;simp at h6)
     ·split at h<;>first|(simp [L5] at h;done)|skip
      all_goals (rename_i h5 h6;simp at h6)
     ·simp [L5] at h
   ·rename_i e hu
    split at h
    ·simp [L5] at h
    ·rename_i s hse
     simp only at h
     split at h
     ·rename_i hq
      obtain rfl:sz=s+1:=Nat.eq_of_beq_eq_true hq
      obtain ⟨q,j,hv,hj,hb⟩:=vp (fun j=>.inl ⟨_,rfl⟩) (hs i) h hps
      simp only [AR.val.injEq] at hb
      subst hb
      obtain ⟨ie,hie⟩:=B0 hse
      generalize hu0:σ x=u0 at h1
      cases h1 with|slc _ _ _ A cap vs hcap hA hr hl hn =>
      obtain ⟨ad,rfl,hI,hc⟩:=hA (by omega)
      have key:∀ w',(Instr.indexAt t (.slice (some ad) n.val cap) (.int q (j:Int))).run P w'=.ok (.pointer (some (ad.add (j*(s+1))))) w':=fun w'=>by
       have hsz':=BP hie w'
       rw [hse] at hsz'
       have h1:(0:Int)<=(j:Int)/\(j:Int)<(n.val:Int):=by omega
       simp [Instr.indexAt,run_underlying hu,asIntOf,hsz',hj]
      refine ⟨.pointer (some (ad.add (j*(s+1)))),?_,by simp,by simp,fun w' _=>?_⟩
      ·refine .xp _ _ (vs j) (hr j hj) (fun _=>by rw [BH];exact hI) (fun k hk=>?_) (Ca (hn j hj))
       rw [HW]
       exact hc j hj k (by rw [<- hl j hj,<- (hr j hj).len];exact hk)
      ·simp [execOp,hu0,hv,key]
     ·simp [L5] at h
   ·simp [L5] at h
  ·simp at h
 ·rename_i t x f
  split at h
  ·rename_i l hx
   split at h
   ·rename_i b hfa
    simp only [Option.some.injEq,Prod.mk.injEq] at h
    obtain ⟨rfl,rfl⟩:=h
    have h1:=hs x
    rw [hx] at h1
    unfold Fs at hfa
    split at hfa
    ·cases hfa
    ·rename_i fd hf
     obtain ⟨fs,hu,hg⟩:=Jj hf
     split at hfa
     ·cases hfa
     ·rename_i n hz
      obtain ⟨i,hi⟩:=B0 hz
      have key:∀ (ad:Addr) w',(Instr.fieldAt t (.pointer (some ad)) f).run P w'=.ok (.pointer (some (ad.add fd.offset))) w':=fun ad w'=>by
       simp [Instr.fieldAt,run_underlying hu,hg,Instr.sureAddr,fieldPlace,BP hi,hz]
      simp only [AR.val.injEq] at hfa
      subst hfa
      generalize hu0:σ x=u0 at h1
      cases h1 with|xp _ ad vs hr hI hc hn =>
      refine ⟨.pointer (some (ad.add fd.offset)),?_,by simp,by simp,fun w' _=>by simp [execOp,hu0,key]⟩
      rw [Aa]
      refine .xp _ _ (vs.drop fd.offset) (hr.drop _) (fun hne=>?_) (fun j hj=>?_) (LQ _ hn)
      ·rw [BH];exact hI (fun h0=>hne (by rw [h0];simp))
      ·simp at hj
       rw [HW,hc _ (by omega),List.getElem?_drop]
   ·simp at h
  ·simp at h
 ·rename_i x
  split at h
  ·rename_i hp
   simp only [Option.some.injEq,Prod.mk.injEq] at h
   obtain ⟨rfl,rfl⟩:=h
   obtain ⟨ad,hv⟩:=Gg (hs x) hp
   refine ⟨σ x,hs x,by simp,by simp,fun w' _=>?_⟩
   simp [execOp,hv]
  ·simp at h
 ·rename_i c
  split at h
  ·rename_i x y hc ha
   exact sd (dst:=dst) (pos:=pos) (after:=after) (guard:=guard) hs hc ha false (.inl ⟨rfl,rfl⟩) h
  ·rename_i x y hc ha
   exact sd (dst:=dst) (pos:=pos) (after:=after) (guard:=guard) hs hc ha true (.inr ⟨rfl,rfl⟩) h
  ·simp at h
 ·rename_i t x
  split at h
  ·rename_i l hx
   split at h
   ·rename_i b FO
    simp only [Option.some.injEq,Prod.mk.injEq] at h
    obtain ⟨rfl,rfl⟩:=h
    have h1:=hs x
    rw [hx] at h1
    generalize hu0:σ x=u0 at h1
    cases h1 with|xp _ ad vs hr hI hc hn =>
    obtain ⟨v,hv,hrun⟩:=TU (P:=P) (ad:=ad) hr FO
    refine ⟨v,hv,by simp,by simp,fun w' hw=>?_⟩
    have:=hrun w' fun j hj=>by
     have hl:l≠[]:=by rintro rfl;simp at hj
     rw [<- hc j hj]
     exact G8 (by simpa [BH] using hw _ (hI hl))
    have h2:(Instr.loadAt t (.pointer (some ad))).run P w'=.ok v w':=by simpa [Instr.loadAt,Instr.sureAddr] using this
    simp [execOp,hu0,h2]
   ·simp at h
  ·simp at h
 ·rename_i op t x y
  split at h
  ·rename_i h1 h2
   simp only [Option.some.injEq,Prod.mk.injEq] at h
   obtain ⟨rfl,rfl⟩:=h
   obtain ⟨ad,hv⟩:=Gg (hs x) h2
   refine ⟨.bool false,.lb _,by simp,by simp,fun w' _=>?_⟩
   have:=(FF (P:=P) (w:=w') h1 (some ad) none (.inr rfl)).1
   have hc:σ (.const (.pointer none))=.pointer none:=hcn _
   simp [execOp,hv,hc,eqGuard_at_pointer,this]
  ·rename_i h1 h2
   simp only [Option.some.injEq,Prod.mk.injEq] at h
   obtain ⟨rfl,rfl⟩:=h
   obtain ⟨ad,hv⟩:=Gg (hs x) h2
   refine ⟨.bool true,.lb _,by simp,by simp,fun w' _=>?_⟩
   have:=(FF (P:=P) (w:=w') h1 (some ad) none (.inr rfl)).2
   have hc:σ (.const (.pointer none))=.pointer none:=hcn _
   simp [execOp,hv,hc,eqGuard_at_pointer,this]
  ·simp at h
 ·rename_i op t x y yt hne
  split at h
  ·rename_i k k' hk hk'
   split at h
   ·rename_i ps' b hb
    split at h
    ·rename_i hd
     simp only [Option.some.injEq,Prod.mk.injEq] at h
     obtain ⟨rfl,rfl⟩:=h
     have hpo:PO ⟨[],[],0,[],[],[]⟩ [] (lZ P ⟨[],[],0,[],[],[]⟩ op t (ρ x) (ρ y)) b []:=by
      unfold L5 at hb
      split at hb
      ·rename_i a' e
       simp only [Option.some.injEq,Prod.mk.injEq] at hb
       obtain ⟨rfl,rfl⟩:=hb
       rw [e];exact .val _
      ·rename_i p a' e
       simp only [Option.some.injEq,Prod.mk.injEq] at hb
       obtain ⟨rfl,rfl⟩:=hb
       rw [e];exact .need _ _ _ _ (hps p (by simp)) (.val _)
      ·cases hb
     have e1:=AJ (hs x) hk
     have e2:=AJ (hs y) hk'
     have at':∀ {w':World} {z:Operand} {q:IntKind},AD (ρ z)=some q->Rel (⟨fun _=>none,C.I,fun _=>none⟩:Cx) w' (ρ z) (σ z):=fun {w' z q} hz=>by
      have hz':=hs z
      generalize ρ z=a at hz hz' ⊢
      generalize σ z=u at hz' ⊢
      unfold AD at hz
      split at hz
      ·cases hz';exact .li _ _
      ·cases hz';exact .si _ _
      ·cases hz
     have run1:∀ w',∃ u,(do eqGuard op t x y (σ x) (σ y);binOp op t (σ x) (σ y):Sem Value).run P w'=.ok u w'/\Rel (⟨fun _=>none,C.I,fun _=>none⟩:Cx) w' b u:=fun w'=>by
      have:=gO (P:=P) (S:=⟨[],[],0,[],[],[]⟩) (C:=⟨fun _=>none,C.I,fun _=>none⟩) (w:=w') (hp:=[]) (op:=op) (t:=t) (x:=x) (y:=y) (fun t ks h=>by simp [AL] at h) (at' hk) (at' hk')
      obtain ⟨_,u,h1,h2⟩:=this b [] hpo
      exact ⟨u,h1,h2⟩
     obtain ⟨u,hu,hr⟩:=run1 w
     refine ⟨u,hr.det hd,by simp,by simp,fun w' _=>?_⟩
     obtain ⟨u',hu',hr'⟩:=run1 w'
     rw [cW hd hr' hr] at hu'
     simp only [execOp]
     have hu2:=hu'
     simp only [Sem.run_bind] at hu2 ⊢
     generalize (eqGuard op t x y (σ x) (σ y)).run P w'=r at hu2 ⊢
     cases r with
     | ok a w2 =>
       simp only [Result.andThen_ok] at hu2 ⊢
       simp [hu2]
     | halt e w2=>simp at hu2
    ·simp at h
   ·simp at h
  ·simp at h
 ·rename_i c x y
  split at h
  ·rename_i hc
   simp only [Option.some.injEq,Prod.mk.injEq] at h
   obtain ⟨rfl,rfl⟩:=h
   have hv:=hs c
   rw [hc] at hv
   have hv:σ c=.bool true:=by generalize σ c=u at hv;cases hv;rfl
   exact ⟨σ x,hs x,by simp,by simp,fun w' _=>by have:=JF (P:=P) (w:=w') (o:=⟨dst,.pick c x y,type,pos,after,guard⟩) rfl hv;simpa using this⟩
  ·rename_i hc
   simp only [Option.some.injEq,Prod.mk.injEq] at h
   obtain ⟨rfl,rfl⟩:=h
   have hv:=hs c
   rw [hc] at hv
   have hv:σ c=.bool false:=by generalize σ c=u at hv;cases hv;rfl
   exact ⟨σ y,hs y,by simp,by simp,fun w' _=>by have:=JF (P:=P) (w:=w') (o:=⟨dst,.pick c x y,type,pos,after,guard⟩) rfl hv;simpa using this⟩
  ·simp at h
 ·simp at h
end
end Abs
end Go.Proofs.YtccgngldoinokaaGreat
