/- A part of the proof: no statement of its own. -/
import Derived.Test.YtccgngldoinokaaGreatQG154b249a
import Derived.Deep.LoopGhost
import Derived.KernelRfl
import Derived.ChangeKeysEq
import Derived.ProofKit
import Derived.OpenShut
import Derived.Deep.Slices
set_option linter.unusedSimpArgs false
set_option linter.unusedVariables false
namespace Go.Proofs.YtccgngldoinokaaGreat
namespace Abs
open Go Go.RowKit
section
variable {P:Program} {S:Sums} {C C':Cx} {w w':World} {H hp:A0} {T T1 T':List Cnd} {all:List Oper} {I:Act->World->Prop}
theorem kY {j:Nat} {t:TypeId} {l:List AV} (hH:HR C hp w) (hb:A3 hp j=.cells t l) (hn:ownIn.ownInL l=false) {x:AV} {v:Value} (h:Rel C w x v):Rel (F8 C j) w (giA j l x) v:=by
 have hI:∀ b,C.I b->(F8 C j).I b:=fun b h=>.inl h
 have hbk:∀ b,C.I b->w.heap[b]? = w.heap[b]?:=fun _ _=>rfl
 refine Rel.rec (C:=C) (w:=w) (motive_1:=fun x v _=>Rel (F8 C j) w (giA j l x) v) (motive_2:=fun m vs _=>RelL (F8 C j) w (giA.giL j l m) vs)
  ?_ ?_ ?_ ?_ ?_ ?_ ?_ ?_ ?_ ?_ ?_ ?_ ?_ ?_ ?_ ?_ ?_ ?_ ?_ ?_ ?_ h
 ·exact fun v=>.top v
 ·exact fun k a v=>.gd k _ v
 ·exact fun k n=>.li k n
 ·exact fun k n=>.si k n
 ·exact fun b=>.lb b
 ·exact fun b=>.sb b
 ·exact fun x=>.v x
 ·exact fun l vs _ h=>.agg _ vs h
 ·exact fun l vs _ h=>.tup _ vs h
 ·intro i off b c n h
  simp only [giA]
  by_cases hi:i=j
  ·subst hi
   rw [show Nat.beq i i=true by simp]
   have hl:=hH.live _ _ h
   rw [hb] at hl
   obtain ⟨vs,hr,hh⟩:=hl
   simp only
   rw [Aa]
   refine .xp _ _ (vs.drop off) ((hr.still hI hbk hn).drop _) (fun _=>.inr ⟨c,n,h⟩) (fun q hq=>?_) (LQ _ hn)
   rw [Dt]
   simp [World.cell?,hh]
  ·rw [GF hi];exact .own i off b c n (by rw [Dq hi];exact h)
 ·intro i sz k off b c n h hk
  simp only [giA]
  by_cases hi:i=j
  ·subst hi;rw [show Nat.beq i i=true by simp];exact .top _
  ·rw [GF hi];exact .elt i sz k off b c n (by rw [Dq hi];exact h) hk
 ·intro i b c n h
  simp only [giA]
  by_cases hi:i=j
  ·subst hi;rw [show Nat.beq i i=true by simp];exact .top _
  ·rw [GF hi];exact .row i b c n (by rw [Dq hi];exact h)
 ·intro i n sz b c m h
  simp only [giA]
  by_cases hi:i=j
  ·subst hi;rw [show Nat.beq i i=true by simp];exact .top _
  ·rw [GF hi];exact .lsl i n sz b c m (by rw [Dq hi];exact h)
 ·intro i h
  simp only [giA]
  by_cases hi:i=j
  ·subst hi;rw [show Nat.beq i i=true by simp];exact .top _
  ·rw [GF hi];exact .rown i (by rw [Dq hi];exact h)
 ·intro n sz el A cap vs hcap hA hr hl hn _
  exact (Rel.slc n sz el A cap vs hcap hA hr hl hn).still hI hbk rfl
 ·intro l ad vs hr hI' hc hn _
  exact (Rel.xp l ad vs hr hI' hc hn).still hI hbk rfl
 ·exact fun f l m vs ws _ _ h h'=>.fn f _ _ vs ws h h'
 ·intro n sz el ad vs hI' hc hr hl hn _
  exact (Rel.pa n sz el ad vs hI' hc hr hl hn).still hI hbk rfl
 ·intro i b c n h
  simp only [giA]
  by_cases hi:i=j
  ·subst hi;rw [show Nat.beq i i=true by simp];exact .top _
  ·rw [GF hi];exact .mp i b c n (by rw [Dq hi];exact h)
 ·exact .nil
 ·exact fun a l v vs _ _ h h'=>.cons _ _ v vs h h'
theorem cI {j:Nat} {t:TypeId} {l:List AV} (hH:HR C hp w) (hb:A3 hp j=.cells t l) (hn:ownIn.ownInL l=false):∀ {m:List AV} {vs:List Value},RelL C w m vs->RelL (F8 C j) w (giA.giL j l m) vs
 | _,_,.nil=>.nil
 | _,_,.cons _ _ _ _ h h'=>.cons _ _ _ _ (kY hH hb hn h) (cI hH hb hn h')
theorem Wz (j:Nat) (m:List AV):∀ (l:A0) (i:Nat),A3 (giH j m l) i=giB j m (A3 l i)
 | [],_=>rfl
 | _::_,0=>rfl
 | _::l,i+1=>Wz j m l i
theorem bm (j:Nat) (m:List AV):∀ l:A0,(giH j m l).length=l.length
 | []=>rfl
 | _::l=>by simp [giH,bm j m l]
theorem q_ {j:Nat} {t:TypeId} {l:List AV} (hH:HR C hp w) (hb:A3 hp j=.cells t l) (hn:ownIn.ownInL l=false) {p:Pl} {b:Blk} (h:BRel C w p b):BRel (F8 C j) w p (giB j l b):=by
 have hm:BRel (F8 C j) w p (WO (EJ j .top) b):=(SS C w j).brel (fun _ _ _ _=>rfl) (fun b x hb=>⟨hb,rfl⟩) h
 match p,b,h with
 | .at q c m,.cells ty l',h =>
   obtain ⟨vs,hr,hh⟩:=h
   exact ⟨vs,cI hH hb hn hr,hh⟩
 | .at q c m,.row e sz k el,_=>exact hm
 | .at q c m,.mat _ _ _ _,_=>exact hm
 | .at q c m,.rows _ _ _ _ _ _ _ _,_=>exact hm
 | .at q c m,.tab _ _ _,_=>exact hm
 | .nil,.row e sz k el,_=>exact hm
theorem AH6 {j:Nat} {t:TypeId} {l:List AV} (hH:HR C hp w) (hb:A3 hp j=.cells t l) (hn:ownIn.ownInL l=false):HR (F8 C j) (AM (giH j l hp) j .dead) w :=
 cH hH fun i p hi h=>by
  rw [BK hi,Wz]
  exact q_ hH hb hn (hH.live i p h)
theorem Wt (j:Nat) (l:List AV):∀ (fr:List AV) (t:Nat),A4 (giA.giL j l fr) t=giA j l (A4 fr t)
 | [],_=>rfl
 | _::_,0=>rfl
 | _::fr,t+1=>Wt j l fr t
theorem bj (j:Nat) (l:List AV):∀ fr:List AV,(giA.giL j l fr).length=fr.length
 | []=>rfl
 | _::fr=>by simp [giA.giL,bj j l fr]
theorem AH5 {j:Nat} {l:List AV} {a:AV} (h:∀ k b,a≠.gd k b):∀ k b,giA j l a≠.gd k b:=by
 intro k b e
 cases a<;>simp only [giA] at e<;>first|(cases e;done)|skip
 all_goals first|(split at e<;>cases e;done)|skip
 exact h _ _ rfl
theorem AH7 {j:Nat} {t:TypeId} {l:List AV} (hH:HR C hp w) (hb:A3 hp j=.cells t l) (hn:ownIn.ownInL l=false) {fr:List AV} {tm:Array Value} (h:FR [] C w fr tm):FR [] (F8 C j) w (giA.giL j l fr) tm :=
 ⟨by rw [bj];exact h.len,fun t=>by
  rw [Wt]
  refine ⟨kY hH hb hn (h.get t).1,fun k b e=>?_⟩
  exact absurd e (AH5 (fun k b e'=>by obtain ⟨x,hx,_⟩:=(h.get t).2 k b e';simp at hx) k b)⟩
theorem ib (C:Cx) (w:World) (sz:Nat):Rel C w (.slc (.sym 0) sz (fun _=>[])) (.slice none 0 0) :=
 Rel.slc (.sym 0) sz (fun _=>[]) none 0 (fun _=>[]) (Nat.le_refl _) (fun h=>absurd h (Nat.lt_irrefl _)) (fun k h=>absurd h (Nat.not_lt_zero _)) (fun k h=>absurd h (Nat.not_lt_zero _)) (fun k h=>absurd h (Nat.not_lt_zero _))
theorem fP {e:TypeId} {sz:Nat} {n:LN} {el:Nat->List AV} {p:Pl} (hel:∀ k,k<n.val->el k=[.v (.slice none 0 0)]) (h:BRel C w p (.row e 1 n el)) :
  BRel C w p (.row e 1 n (fun _=>[.slc (.sym 0) sz (fun _=>[])])):=by
 match p,h with
 | .at b c m,h =>
   obtain ⟨h1,h2,h3,cs,vs,hh,hs,hc⟩:=h
   refine ⟨h1,h2,h3,cs,vs,hh,hs,fun k hk=>?_⟩
   obtain ⟨g1,g2,g3,g4⟩:=hc k hk
   rw [hel k (by omega)] at g1
   refine ⟨?_,rfl,g3,g4⟩
   generalize vs k=u at g1
   cases g1 with
   | cons _ _ v vs' g6 g7 =>
     cases g6
     cases g7
     exact .cons _ _ _ _ (ib C w sz) .nil
 | .nil,h=>exact h
theorem dW {R:AV->A0->Prop} {lo x c j:Nat} {fr:List AV} {hp:A0} {C:Cx} {K:List AV->A0->VC} {tm:Array Value} (h:(NB lo x c j fr hp K).sat R) (AQ:lo<=hp.length) (hH:HR C hp w) (hF:FR [] C w fr tm) :
  ∃ fr' hp' C',(K fr' hp').sat R/\lo<=hp'.length/\HR C' hp' w/\FR [] C' w fr' tm/\Tr lo C w C' w:=by
 have clo:∀ stay,(Jn lo stay j fr hp K).sat R->∃ fr' hp' C',(K fr' hp').sat R/\lo<=hp'.length/\HR C' hp' w/\FR [] C' w fr' tm/\Tr lo C w C' w:=fun stay h=>by
  unfold Jn at h
  split at h
  ·rename_i e e' sz n fz ln el k h' hb
   split at h
   ·rename_i e2 sz2 m f hb2
    split at h
    ·rename_i hd
     rw [Bool.and_eq_true,Bool.and_eq_true,decide_eq_true_eq] at hd
     obtain ⟨⟨⟨rfl,rfl,hne⟩,hl1⟩,_⟩:=hd
     rw [AK,A8] at h
     obtain ⟨C1,ht,h1,h2⟩:=lM (stay:=stay) hH hb hb2 hne (Nat.le_of_ble_eq_true hl1)
     exact ⟨_,_,C1,h,by rw [Ah,Ah,DG];exact AQ,h1,ht.frame (by trivial) hF,h2⟩
    ·exact h.elim
   ·exact h.elim
  ·exact h.elim
 unfold NB at h
 split at h
 ·-- opened
  unfold Qz at h
  split at h
  ·rename_i e e' sz n fz ln el q hb hq
   obtain ⟨h1,h2,h⟩:=h
   rw [A8,GW] at h
   have h1':0<=q/\q<(n.val:Int):=h1
   obtain ⟨C1,hx,k1,k2⟩:=oc (lo:=lo) (k:=Iz q) hH hb (by have hz:Iz q=q.toNat:=(by unfold Iz;rfl);omega) h2 AQ
   exact ⟨fr,_,C1,h,by simp [Ah];omega,k1,hF.mono hx,k2⟩
  ·exact h.elim
 ·exact clo _ h
 ·exact clo _ h
 ·unfold Qx at h
  split at h
  ·rename_i e e' sz n fz ln el hb
   split at h
   ·rw [A8] at h
    obtain ⟨C1,hx,k1,k2⟩:=oG (lo:=lo) hH hb
    exact ⟨fr,_,C1,h,by rw [Ah];exact AQ,k1,hF.mono hx,k2⟩
   ·exact h.elim
  ·exact h.elim
 ·unfold ey at h
  split at h
  ·rename_i e sz n el hb
   split at h
   ·rename_i hj
    have hj:=Nat.le_of_ble_eq_true hj
    rw [AK,A8] at h
    obtain ⟨C1,ht,h1,h2⟩:=Pe hH hb hj
    exact ⟨_,_,C1,h,by rw [Ah,DG];exact AQ,h1,ht.frame (by trivial) hF,h2⟩
   ·exact h.elim
  ·exact h.elim
 ·unfold R4 at h
  split at h
  ·rename_i e n el hb
   obtain ⟨h1,h⟩:=h
   rw [A8] at h
   exact ⟨fr,_,C,h,by rw [Ah];exact AQ,hH.reb (DL (by rw [hb];simp)) (fun p hp=>by
    have hl:=hH.live j p hp
    rw [hb] at hl
    exact fP h1 hl),hF,.refl _ _ _⟩
  ·exact h.elim
 ·split at h
  ·unfold Ng at h
   split at h
   ·rename_i e n el s hb hs
    obtain ⟨h1,h⟩:=h
    rw [A8] at h
    exact ⟨fr,_,C,h,by rw [Ah];exact AQ,hH.reb (DL (by rw [hb];simp)) (fun p hp=>by
     have hl:=hH.live j p hp
     rw [hb] at hl
     exact XP h1.1 h1.2 hl),hF,.refl _ _ _⟩
   ·exact h.elim
  ·exact h.elim
theorem NC {n:Nat} (hn:C.ρ n=some .nil):∀ {l:List AV} {vs:List Value} {off:Nat},RelL C w l vs->Fp (A4 l off)=true->RelL C w (Ay l off (.row n)) vs
 | [],_,_,h,h0=>by simp [Ws,Fp] at h0
 | a::l,_,off,h,h0=>by
   cases h with
   | cons _ _ v vs ha hl =>
     cases off with
     | zero =>
       rw [Ej] at h0
       refine .cons _ _ _ _ ?_ hl
       unfold Fp at h0
       split at h0
       ·cases ha;exact .rown _ hn
       ·cases h0
     | succ off=>exact .cons _ _ _ _ ha (NC hn hl h0)
theorem R6 {R:AV->A0->Prop} {lo t x c:Nat} {fr:List AV} {hp:A0} {C:Cx} {K:A0->VC} {tm:Array Value} (h:(Lb t x c fr hp K).sat R) (AQ:lo<=hp.length) (hH:HR C hp w) (hF:FR [] C w fr tm) :
  ∃ hp' C',(K hp').sat R/\lo<=hp'.length/\HR C' hp' w/\FR [] C' w fr tm/\Tr lo C w C' w:=by
 unfold Lb at h
 split at h
 ·rename_i i o hg hc
  split at h
  ·rename_i ty l hb
   split at h
   ·rename_i hn
    rw [Ae,A8,GW] at h
    have hnone:C.ρ hp.length=none:=by
     cases hc:C.ρ hp.length with
     | none=>rfl
     | some p=>have:=hH.lt hc;omega
    have h1:HR (C.put hp.length .nil) (hp++[Blk.row (x % 65536) (x / 65536+1) (.lit 0) (fun _=>[])]) w:=by
     refine (hH.ext _).newNil hnone ?_
     rw [show A3 (hp++[Blk.row (x % 65536) (x / 65536+1) (.lit 0) (fun _=>[])]) hp.length=.row (x % 65536) (x / 65536+1) (.lit 0) (fun _=>[]) by rw [Ds];simp]
     exact ⟨rfl,Nat.succ_pos _⟩
    have g:=Grow.newNil C w hp.length
    have h2:FR [] (C.put hp.length .nil) w fr tm:=g.frame (fun i a b=>(show i=hp.length by omega)▸hnone) hH.ilt hF
    have hil:i<hp.length:=DL (by rw [hb];simp)
    have hbe:A3 (hp++[Blk.row (x % 65536) (x / 65536+1) (.lit 0) (fun _=>[])]) i=.cells ty l:=by rw [Ax _ _ _ hil,hb]
    have h3:HR (C.put hp.length .nil) (AM (hp++[Blk.row (x % 65536) (x / 65536+1) (.lit 0) (fun _=>[])]) i (.cells ty (Ay l (o+c / 64) (.row hp.length)))) w:=by
     refine h1.reb (by simp;omega) (fun p hp'=>?_)
     have hl:=h1.live i p hp'
     rw [hbe] at hl
     cases p with
     | «at» b cap n =>
       obtain ⟨vs,hv,hw⟩:=hl
       exact ⟨vs,NC Cx.put_eq hv hn,hw⟩
     | nil=>exact hl.elim
    have e:AM (hp++[Blk.row (x % 65536) (x / 65536+1) (.lit 0) (fun _=>[])]) i (.cells ty (Ay l (o+c / 64) (.row hp.length)))=AM hp i (.cells ty (Ay l (o+c / 64) (.row hp.length)))++[Blk.row (x % 65536) (x / 65536+1) (.lit 0) (fun _=>[])]:=OQ hil
    rw [e] at h3
    exact ⟨_,_,h,by rw [List.length_append,Ah];omega,h3,h2,g.tr AQ⟩
   ·exact h.elim
  ·exact h.elim
 ·exact h.elim
theorem Gh {R:AV->A0->Prop} {lo:Nat}:∀ {l:List (Nat × TypeId × Nat)} {fr:List AV} {hp:A0} {C:Cx} {K:List AV->A0->VC} {tm:Array Value},(I6 lo l fr hp K).sat R->lo<=hp.length->HR C hp w->FR [] C w fr tm ->
  ∃ fr' hp' C',(K fr' hp').sat R/\lo<=hp'.length/\HR C' hp' w/\FR [] C' w fr' tm/\Tr lo C w C' w
 | [],fr,hp,C,K,tm,h,AQ,hH,hF=>⟨fr,hp,C,h,AQ,hH,hF,.refl _ _ _⟩
 | (t,x,c)::l,fr,hp,C,K,tm,h,AQ,hH,hF=>by
   unfold I6 at h
   split at h
   ·split at h
    ·obtain ⟨fr1,hp1,C1,g1,g2,g3,g4,g5⟩:=dW h AQ hH hF
     obtain ⟨fr',hp',C',h4,h5,h6,h7,h8⟩:=Gh (lo:=lo) (C:=C1) g1 g2 g3 g4
     exact ⟨fr',hp',C',h4,h5,h6,h7,g5.trans h8⟩
    ·obtain ⟨hp1,C1,g1,g2,g3,g4,g5⟩:=R6 h AQ hH hF
     obtain ⟨fr',hp',C',h4,h5,h6,h7,h8⟩:=Gh (lo:=lo) (C:=C1) g1 g2 g3 g4
     exact ⟨fr',hp',C',h4,h5,h6,h7,g5.trans h8⟩
   ·split at h
    ·rename_i j o hg
     split at h
     ·rename_i ty m hb
      split at h
      ·rename_i hn hj
       have hj:=Nat.le_of_ble_eq_true hj
       rw [AK,A8] at h
       obtain ⟨fr',hp',C',h4,h5,h6,h7,h8⟩:=Gh (lo:=lo) (C:=F8 C j) h (by rw [Ah,bm];exact AQ) (AH6 hH hb hn) (AH7 hH hb hn hF)
       exact ⟨fr',hp',C',h4,h5,h6,h7,(cG hj).trans h8⟩
      ·exact h.elim
     ·exact h.elim
    ·rename_i j hg
     split at h
     ·rename_i e sz n el hb
      split at h
      ·rename_i hj
       have hj:=Nat.le_of_ble_eq_true hj
       rw [AK,A8] at h
       obtain ⟨C1,ht,h1,h2⟩:=Pe hH hb hj
       obtain ⟨fr',hp',C',h4,h5,h6,h7,h8⟩:=Gh (lo:=lo) (C:=C1) h (by rw [Ah,DG];exact AQ) h1 (ht.frame (by trivial) hF)
       exact ⟨fr',hp',C',h4,h5,h6,h7,h2.trans h8⟩
      ·exact h.elim
     ·exact h.elim
    ·rename_i j a q o hg
     split at h
     ·rename_i ty wd f hb
      split at h
      ·rename_i hj
       have hj:=Nat.le_of_ble_eq_true hj
       rw [AK,A8] at h
       obtain ⟨fr',hp',C',h4,h5,h6,h7,h8⟩:=Gh (lo:=lo) (C:=F8 C j) h (by rw [Ah,bh];exact AQ) (zq hH hb) (zr hH hb hF)
       exact ⟨fr',hp',C',h4,h5,h6,h7,(cG hj).trans h8⟩
      ·exact h.elim
     ·exact h.elim
    ·exact h.elim
theorem memN_iff {n:Nat}:∀ {l:List Nat},Eh n l=true↔n∈l
 | []=>by simp [Eh]
 | m::l=>by
   unfold Eh
   split
   ·rename_i h;have:=Nat.eq_of_beq_eq_true h;simp [this]
   ·rename_i h
    have hne:n≠m:=fun e=>by subst e;simp at h
    rw [memN_iff];simp [hne]
theorem QE {R:AV->A0->Prop} {k:Nat->VC}:∀ {l:List Nat},(Jq l k).sat R->∀ i∈l,(k i).sat R
 | [],_,i,hi=>by cases hi
 | j::l,h,i,hi=>by
   unfold Jq at h
   obtain ⟨h1,h2⟩:=h
   rcases List.mem_cons.1 hi with rfl|hi
   ·exact h1
   ·exact QE (h2 () trivial) i hi
theorem rdyN_spec {D:List Nat} {i:Nat}:Tb all D i=true↔¬ i∈D/\∃ o,all[i]? = some o/\∀ e∈o.after.toList,Region.binds .any e=true->e.on∈D:=by
 unfold Tb
 cases hm:Eh i D with
 | true=>simp [memN_iff.1 hm]
 | false =>
   have hn:¬ i∈D:=fun h=>by rw [memN_iff.2 h] at hm;cases hm
   simp only [hn,not_false_iff,true_and]
   cases ho:all[i]? with
   | none=>simp
   | some o =>
     simp only [Option.some.injEq,exists_eq_left',List.all_eq_true,Bool.or_eq_true,Bool.not_eq_true',memN_iff]
     constructor
     ·intro h e he hb
      rcases h e he with h'|h'
      ·rw [h'] at hb;cases hb
      ·exact h'
     ·intro h e he
      cases hb:Region.binds .any e with
      | false=>exact .inl rfl
      | true=>exact .inr (h e he hb)
theorem rdyL_mem {D:List Nat} {i:Nat}:∀ {n:Nat},i∈Tc all D n↔i<n/\Tb all D i=true
 | 0=>by simp [Tc]
 | n+1=>by
   unfold Tc
   split
   ·rename_i h
    rw [List.mem_cons,rdyL_mem]
    constructor
    ·rintro (rfl|⟨h1,h2⟩)
     ·exact ⟨by omega,h⟩
     ·exact ⟨by omega,h2⟩
    ·rintro ⟨h1,h2⟩
     by_cases e:i=n
     ·exact .inl e
     ·exact .inr ⟨by omega,h2⟩
   ·rename_i h
    rw [rdyL_mem]
    constructor
    ·rintro ⟨h1,h2⟩;exact ⟨by omega,h2⟩
    ·rintro ⟨h1,h2⟩
     refine ⟨?_,h2⟩
     by_cases e:i=n
     ·subst e;rw [h2] at h;cases h
     ·omega
theorem IQ {fr:List AV} {o:Oper} {r:Bool} (h:Uo all (A4 fr) o=some r):Eo all [] fr o r:=by
 unfold Uo at h
 unfold Eo
 split at h
 ·rename_i hg;rw [hg];injection h with h;exact h.symm
 ·rename_i j ww hg
  rw [hg]
  split at h
  ·rename_i d hd
   split at h
   ·rename_i b hb
    injection h with h
    refine ⟨d,hd,?_⟩
    rw [hb];simp only [gW];rw [h]
   ·cases h
  ·cases h
theorem f9 {D:List Nat} {g:Nat->AV} {i:Nat} {o:Oper} {ps:List Cd} {a:AV} (h:qJ P all D g i=some (o,ps,a)):Tb all D i=true/\all[i]? = some o/\w9 P all g o=some (ps,a)/\apN all D i o=true:=by
 unfold qJ at h
 split at h
 ·rename_i o' h1 h2
  split at h
  ·rename_i ps' a' h3
   split at h
   ·rename_i h5
    simp only [Option.some.injEq,Prod.mk.injEq] at h
    obtain ⟨rfl,rfl,rfl⟩:=h
    exact ⟨h1,h2,h3,h5⟩
   ·cases h
  ·cases h
 ·cases h
theorem Pk {D:List Nat} {g:Nat->AV} {i:Nat} {o:Oper} {ps:List Cd} {a:AV}:∀ {n:Nat},X8 P all D g n=some (i,o,ps,a)->qJ P all D g i=some (o,ps,a)
 | 0,h=>by cases h
 | n+1,h=>by
   unfold X8 at h
   split at h
   ·rename_i o' ps' a' h1
    simp only [Option.some.injEq,Prod.mk.injEq] at h
    obtain ⟨rfl,rfl,rfl,rfl⟩:=h
    exact h1
   ·exact Pk h
theorem Ql {D:List Nat} {g:Nat->AV} {d:Nat} {c:Bool}:∀ {n:Nat},iB all D g n=some (d,c)->g d=.sb c
 | 0,h=>by cases h
 | n+1,h=>by
   unfold iB at h
   split at h
   ·rename_i x h1
    injection h with h;subst h
    unfold spN at h1
    split at h1
    ·split at h1
     ·split at h1
      ·split at h1
       ·rename_i hg
        injection h1 with h1;injection h1 with e1 e2;subst e1 e2
        exact hg
       ·cases h1
      ·cases h1
     ·cases h1
    ·cases h1
   ·exact Ql h
section
variable {F:Fence} {n:Nat} {Q:Exit->Act->World->Prop} {J:World->Prop}
theorem g8 {i:Nat} {oi:Oper} {a0:Act} (hi:all.toArray[i]? = some oi) (hw:Region.wanted oi (yielded all.toArray a0.tmps)=false) {K:Act->World->Prop} {a:Act} {w:World} (hF:∀ f,F.fn f) (hE:SameAt all.toArray oi a0 a) (h:K (a.put oi.dst undef) w) :
  wpOpIn F n P all.toArray Q i K a w:=by
 unfold wpOpIn
 simp only [hi]
 rw [hE.wanted,hw]
 simp only [Bool.false_eq_true,if_false]
 exact ⟨fun f _=>hF f,h⟩
theorem iU {I:Act->World->Prop} {i:Nat} {oi:Oper} {a0:Act} {v:Value} (hop:∀ {K:Act->World->Prop} {a:Act} {w:World},SameAt all.toArray oi a0 a->J w->K (a.put oi.dst v) w->wpOpIn F n P all.toArray Q i K a w)
  (hsel:∀ (j:Nat) (o:Oper) cs b,all.toArray[j]? = some o->o.op≠.select cs b) (hQ:∀ c a w,¬ Q (.panic c) a w) (hI:∀ a w,I (a.put oi.dst v) w->I a w) :
  ∀ (fuel:Nat) (listed:Array Bool) (a:Act) (w:World),
    (∀ j oj,all.toArray[j]? = some oj->j≠i->listed.getD j true=false->(∀ e∈oj.after,Region.binds .any e=true->e.on≠i)->oi.apart all.toArray oj=true) ->
    i∈Region.ready .any all.toArray listed->SameAt all.toArray oi a0 a->I (a.put oi.dst v) w->J w ->
    CQ (fun a w=>I a w/\J w) F n P all.toArray Q fuel (listed.setIfInBounds i true) (a.put oi.dst v) w->CQ I F n P all.toArray Q (fuel+1) listed a w:=by
 intro fuel
 induction fuel with
 | zero =>
   intro listed a w _ hr hE hIp hJ H
   refine ⟨fun h=>(by rw [h] at hr;cases hr),fun j hj=>?_⟩
   by_cases hji:j=i
   ·subst hji;exact hop hE hJ ⟨hIp,FE (fun _ _ h=>h.1) _ _ _ _ H⟩
   ·have:=ready_mono hj hji
    rw [H.1] at this
    cases this
 | succ fuel ih =>
   intro listed a w hfree hr hE hIp hJ H
   refine ⟨fun h=>(by rw [h] at hr;cases hr),fun j hj=>?_⟩
   by_cases hji:j=i
   ·subst hji;exact hop hE hJ ⟨hIp,FE (fun _ _ h=>h.1) _ _ _ _ H⟩
   ·have h1:=H.2 j (ready_mono hj hji)
    obtain ⟨hjun,oj,hoj,hall⟩:=Go.mem_ready.1 hj
    have hnot:∀ e∈oj.after,Region.binds .any e=true->e.on≠i:=fun e he hb heq=>by
     have h1:=hall e he hb
     have h0:=(Go.mem_ready.1 hr).1
     rw [heq] at h1
     rcases Nat.lt_or_ge i listed.size with h'|h'
     ·simp [h'] at h0 h1;rw [h0] at h1;cases h1
     ·simp [Array.getElem?_eq_none h'] at h1
    have h2:=jA (a0:=a0) (v:=v) hoj (hfree j oj hoj hji hjun hnot) (fun cs b=>hsel j oj cs b hoj) hQ hE h1
    have hfree':∀ k ok,all.toArray[k]? = some ok->k≠i->(listed.setIfInBounds j true).getD k true=false ->
      (∀ e∈ok.after,Region.binds .any e=true->e.on≠i)->oi.apart all.toArray ok=true:=fun k ok hk hki hun hno=>by
     refine hfree k ok hk hki ?_ hno
     by_cases hjk:j=k
     ·subst hjk;exact hjun
     ·rw [getD_set_ne true hjk] at hun;exact hun
    refine wpOpIn_mono (fun a' w' h3=>⟨hI _ _ h3.2.1.1,ih (listed.setIfInBounds j true) a' w' hfree' (ready_mono hr (Ne.symm hji)) h3.1 h3.2.1.1 h3.2.1.2 ?_⟩) h2
    rw [Array.setIfInBounds_comm _ _ hji]
    exact h3.2.2
end
theorem rL (hS:SumsOK P S) (hsel:∀ o∈all,∀ cs b,o.op≠.select cs b) (hback:GH all) {R:AV->A0->Prop} {K:List AV->A0->VC} {Q:Exit->Act->World->Prop} {ds:Act->Prop} (hput:Ep all ds) {ro:Option Nat} {rm:Nat} (hQ:∀ c a w,¬ Q (.panic c) a w) :
  ∀ (f fuel:Nat) (I:Act->World->Prop) (D:List Nat) (A:Array Bool) (fr:List AV) (hp:A0) (C:Cx) (w:World) (act:Act),IP all I->(∀ k,Ac A k↔k∈D)->A.size=all.length->Fc all (Ac A)->J3 (fun i=>A.getD i false) all.length<=fuel ->
    S.lo<=hp.length->HR C hp w->FR [] C w fr act.tmps->(FW P S all f D fr hp K).sat R->ds act->GoalI I P S R K Q C w ds->CQ I (Fa ro) rm P all.toArray Q fuel A act w:=by
 intro f
 induction f with
 | zero=>intro fuel I D A fr hp C w act _ _ _ _ _ _ _ _ h;exact h.elim
 | succ f ih =>
   intro fuel I D A fr hp C w act hIP hD hsize hclosed hfu AQ hH hF h hds hgoal
   have hrd:∀ i,i∈Region.ready .any all.toArray A->i∈Tc all D all.length:=fun i hi=>by
    obtain ⟨o,h1,h2,h3,_⟩:=BJ hsize hclosed hi
    exact rdyL_mem.2 ⟨(List.getElem?_eq_some_iff.1 h1).1,rdyN_spec.2 ⟨fun hm=>h2 ((hD i).2 hm),o,h1,fun e he hb=>(hD _).1 (h3 e he hb)⟩⟩
   have hdr:∀ i,Tb all D i=true->i∈Region.ready .any all.toArray A:=fun i hi=>by
    obtain ⟨h1,o,h2,h3⟩:=rdyN_spec.1 hi
    have hlt:=(List.getElem?_eq_some_iff.1 h2).1
    have hn:¬ Ac A i:=fun hl=>h1 ((hD i).1 hl)
    refine mem_ready h2 ?_ fun e he hb=>(hD _).2 (h3 e he hb)
    rw [CY (by rw [hsize];exact hlt)]
    simpa [Ac] using hn
   have hpos:∀ i,Tb all D i=true->∃ fuel',fuel=fuel'+1:=fun i hi=>by
    cases fuel with
    | succ k=>exact ⟨k,rfl⟩
    | zero =>
      exfalso
      obtain ⟨h1,o,h2,h3⟩:=rdyN_spec.1 hi
      have hz:J3 (fun i=>A.getD i false) all.length=0:=by omega
      exact h1 ((hD i).1 (Hl hz i (List.getElem?_eq_some_iff.1 h2).1))
   unfold FW at h
   split at h
   ·-- one that yields one value
    rename_i i o ps a hfx
    obtain ⟨hps,h⟩:=EB h
    obtain ⟨hry,ho,hfv,hap⟩:=f9 (Pk hfx)
    obtain ⟨fuel,rfl⟩:=hpos i hry
    have hir:=hdr i hry
    obtain ⟨o',ho',hnl,hpre,hLst,hclosed',hfu1,hsz⟩:=BJ hsize hclosed hir
    rw [ho] at ho';injection ho' with ho';subst ho'
    rw [FV] at h
    have hao:all.toArray[i]? = some o:=by simpa using ho
    obtain ⟨v,hv,hop⟩:∃ v,RelG [] C w a v/\∀ {K:Act->World->Prop} {a:Act} {w1:World},SameAt all.toArray o act a->Imm C w w1->K (a.put o.dst v) w1->wpOpIn (Fa ro) rm P all.toArray Q i K a w1:=by
     unfold w9 at hfv
     split at hfv
     ·rename_i hwn
      split at hfv
      ·rename_i ps' a' hfr
       simp only [Option.some.injEq,Prod.mk.injEq] at hfv
       obtain ⟨rfl,rfl⟩:=hfv
       have hrho:∀ x,Rel C w (Ks ((CR (Cc o.op)).map fun t=>(t,Dk [] (A4 fr t))) x) (act.eval x):=fun x=>Ly (T:=[]) (fun t _=>hF.get t) x
       obtain ⟨v,hv,hdf,hsl,hrun⟩:=Lt hH.ilt hrho (fun v=>rfl) hfr hps
       have hwt:Region.wanted o (yielded all.toArray act.tmps)=true:=Fg (IQ hwn) fun d _=>hF.get d
       have hfix:Fix P (Imm C w) all.toArray o act v:=⟨hdf,hsl,hwt,hrun⟩
       exact ⟨v,.plain (Du hv) (BQ _),fun hE hJ hk=>O3 hao hfix (fun f=>trivial) hE hJ hk⟩
      ·cases hfv
     ·rename_i hwn
      simp only [Option.some.injEq,Prod.mk.injEq] at hfv
      obtain ⟨rfl,rfl⟩:=hfv
      have hwt:Region.wanted o (yielded all.toArray act.tmps)=false:=Fg (IQ hwn) fun d _=>hF.get d
      exact ⟨undef,.plain (.tup _ _ .nil) trivial,fun hE _ hk=>g8 hao hwt (fun f=>trivial) hE hk⟩
     ·cases hfv
    have hds':=hput o (List.mem_of_getElem? ho) act v hds
    refine iU (I:=I) (J:=Imm C w) (a0:=act) (v:=v) hop (fun k o' cs b hk=>hsel o' (List.mem_of_getElem? (by simpa using hk)) cs b) hQ (fun a' w' h=>hIP o (List.mem_of_getElem? ho) a' v w' h) fuel A act w
     (fun k ok hk hne hun hno=>?_) hir (fun t _=>rfl) (hgoal.2 _ _ _ (.refl _ _ _) hds') (fun _ _=>rfl) ?_
    ·have hk':all[k]? = some ok:=by simpa using hk
     have hlt:=(List.getElem?_eq_some_iff.1 hk').1
     have h5:=Ag hap k hlt
     simp only [hk',Bool.or_eq_true,List.any_eq_true,Bool.and_eq_true,memN_iff] at h5
     rcases h5 with ((h5|h5)|⟨e,h5,h6,h7⟩)|h5
     ·exact absurd (Nat.eq_of_beq_eq_true h5) hne
     ·have:=(hD k).2 h5
      rw [CY (by rw [hsize];exact hlt)] at hun
      unfold Ac at this
      rw [hun] at this;cases this
     ·exact absurd (Nat.eq_of_beq_eq_true h7) (hno e (by simpa using h5) h6)
     ·exact h5
    ·refine ih fuel (fun a' w'=>I a' w'/\Imm C w w') (i::D) _ (CT fr o.dst a) hp C w _ (fun o' ho' a' v' w' h=>⟨hIP o' ho' a' v' w' h.1,h.2⟩) (fun k=>?_) hsz hclosed' (hfu1 fuel hfu) AQ hH (hF.put hv _) h hds'
      ⟨hgoal.1,fun C2 w2 act2 t h=>⟨hgoal.2 _ _ _ t h,fun b hb=>Imm.tr hH t b hb⟩⟩
     rw [hLst,hD,List.mem_cons];exact ⟨fun h=>h.symm,fun h=>h.symm⟩
   ·rename_i hnf
    split at h
    ·-- a guard,both ways
     rename_i d c hsp
     have hg:=Ql hsp
     have hd:=(hF.get d).1
     rw [hg] at hd
     have hvt:act.tmps.getD d undef=.bool c:=by generalize act.tmps.getD d undef=u at hd;cases hd;rfl
     have hkn:FR [] C w (Ay fr d (.lb c)) act.tmps:=⟨by rw [Ea];exact hF.len,fun t=>by
      rw [E9]
      split
      ·rename_i e
       rw [e.1,hvt]
       exact .plain (.lb _) trivial
      ·exact hF.get t⟩
     cases c with
     | true =>
       have h1:=h.1 rfl
       rw [Aq] at h1
       exact ih fuel I D A _ hp C w act hIP hD hsize hclosed hfu AQ hH hkn h1 hds hgoal
     | false =>
       have h1:=h.2 rfl
       rw [Aq] at h1
       exact ih fuel I D A _ hp C w act hIP hD hsize hclosed hfu AQ hH hkn h1 hds hgoal
    ·-- each in its turn
     split at h
     ·rename_i hnil
      rw [EC] at h
      have hq:Q .normal act w:=hgoal.1 _ _ C w act h AQ hH hF.clean (.refl _ _ _) hds
      have hno:∀ i,¬ i∈Region.ready .any all.toArray A:=fun i hi=>by
       have:=hrd i hi
       rw [hnil] at this;cases this
      cases fuel with
      | zero=>exact ⟨List.eq_nil_iff_forall_not_mem.2 hno,hq⟩
      | succ fuel=>exact ⟨fun _=>hq,fun i hi=>(hno i hi).elim⟩
     ·rename_i i0 l0 hl0
      have hr0:=(rdyL_mem.1 (show i0∈Tc all D all.length by rw [hl0];simp)).2
      obtain ⟨fuel,rfl⟩:=hpos i0 hr0
      refine ⟨fun hr=>?_,fun i hir=>?_⟩
      ·have:=hdr i0 hr0
       rw [hr] at this;cases this
      ·have hh:=QE h i (by have:=hrd i hir;rwa [hl0] at this)
       obtain ⟨o,ho,hnl,hpre,hLst,hclosed',hfu1,hsz⟩:=BJ hsize hclosed hir
       simp only [ho] at hh
       have hao:all.toArray[i]? = some o:=by simpa using ho
       unfold wpOpIn
       simp only [hao]
       split at hh
       ·rename_i hwn
        have hwt:Region.wanted o (yielded all.toArray act.tmps)=true:=Fg (IQ hwn) fun d _=>hF.get d
        rw [hwt]
        simp only [if_true]
        have hfu':=hfu1 fuel hfu
        have hDk:∀ k,Ac (A.setIfInBounds i true) k↔k∈i::D:=fun k=>by rw [hLst,hD,List.mem_cons];exact ⟨fun h=>h.symm,fun h=>h.symm⟩
        rcases Ht hS (T:=[]) (ctx:=none) trivial hh with ⟨b,new,h1,h2⟩|⟨_,_,htu,ρ,hρ,fr',hp',a,h1,h2⟩
        ·have hst:StepOK P all [] [] o fr hp ⟨none,false,b,new⟩:=⟨.refl _,IQ hwn,fun _=>⟨h1,trivial⟩,fun h=>by cases h⟩
         have hfree:=hH.free new
         rcases G0 hst (.refl _) (act:=act) (hH.ext new) (fun i hi=>Ax _ _ _ hi) hfree (fun x _=>EL x fun t _=>hF.get t) (fun d _=>hF.get d) with ⟨_,hr⟩|⟨hw,_⟩
         ·refine Ran.wpIn (hr.mono fun v w' ⟨C',k1,k2,k3⟩=>?_)
          have hx:=k3.cext hfree.none hH.ilt
          have htr:Tr S.lo C w C' w':=k3.tr AQ
          have hds':=hput o (List.mem_of_getElem? ho) act v hds
          exact ⟨hgoal.2 _ _ _ htr hds',ih fuel I (i::D) _ _ _ C' w' _ hIP hDk hsz hclosed' hfu' (by simp;omega) k1 ((hF.mono hx).put k2 _) h2 hds' (hgoal.step htr)⟩
         ·rw [hwt] at hw;cases hw
        ·refine Ran.wpIn ((Jk hS o htu hρ hH hF AQ h1).mono fun v w' ⟨C',k1,k2,k3,k4⟩=>?_)
         have hds':=hput o (List.mem_of_getElem? ho) act v hds
         exact ⟨hgoal.2 _ _ _ k4 hds',ih fuel I (i::D) _ _ _ C' w' _ hIP hDk hsz hclosed' hfu' (Nat.le_trans AQ h1.len) k1 (k3.put (.plain (Du k2) (BQ _)) _) h2 hds' (hgoal.step k4)⟩
       ·exact hh.elim
theorem ep {R:AV->A0->Prop} {lo id:Nat} {I:List (Nat × List (Nat × TypeId × Nat) × (List AV->A0->Ann))} {fr:List AV} {hp:A0} {C:Cx} {K:List AV->A0->VC} {tm:Array Value} (h:(Wo I lo id fr hp K).sat R) (AQ:lo<=hp.length) (hH:HR C hp w) (hF:FR [] C w fr tm) :
  ∃ fr' hp' C',(K fr' hp').sat R/\lo<=hp'.length/\HR C' hp' w/\FR [] C' w fr' tm/\Tr lo C w C' w:=by
 unfold Wo at h
 split at h
 ·exact ⟨fr,hp,C,h,AQ,hH,hF,.refl _ _ _⟩
 ·exact Gh h AQ hH hF
theorem VS (hS:SumsOK P S) {ro:Option Nat} {rm:Nat} (hm:P.follows .mixedOrders=true) {id:Nat} {ops:Array Oper} (hsel:(ops.toList.all fun o=>!(Mg o.op))=true) (hback:GH ops.toList) {R:AV->A0->Prop} {K:List AV->A0->VC} {Q:Exit->Act->World->Prop} {fr:List AV} {act:Act}
  (AQ:S.lo<=hp.length) (hH:HR C hp w) (hF:FR [] C w fr act.tmps) (h:(FW P S ops.toList (2*ops.toList.length+1) [] fr hp K).sat R) {ds:Act->Prop} (hput:Ep ops.toList ds) (hds:ds act) (hgoal:Goal P S R K Q C w ds):(Code.region id ops true).wpIn (Fa ro) rm P Q act w:=by
 refine Go.wpIn_mono (Q:=fun e a w=>(∀ c,e≠.panic c)/\Q e a w) ?_ fun e a w h=>h.2
 apply wpIn_region_any hm
 have hsz:(Array.replicate ops.size false).size=ops.toList.length:=by simp
 have hno:∀ i,¬ Ac (Array.replicate ops.size false) i:=fun i h=>by
  unfold Ac at h
  rw [Array.getD_eq_getD_getElem?,Array.getElem?_replicate] at h
  split at h<;>simp at h
 have hH1:HR C hp { w with drawn:=w.drawn+1 }:=HR.same (w:=w) rfl hH
 have hF1:FR [] C { w with drawn:=w.drawn+1 } fr act.tmps:=FR.mono (w:=w) (w':={ w with drawn:=w.drawn+1 }) (.same rfl) hF
 have hunl:∀ n,J3 (fun i=>(Array.replicate ops.size false).getD i false) n<=n:=fun n=>by
  induction n with
  | zero=>exact Nat.le_refl _
  | succ n ih=>simp only [J3];split<;>omega
 have hsel':∀ o∈ops.toList,∀ cs b,o.op≠.select cs b:=fun o ho cs b hc=>by
  have:=List.all_eq_true.1 hsel o ho
  rw [hc] at this;simp [Mg] at this
 have:=Ff _ _ _ _ <| rL (Q:=fun e a w=>(∀ c,e≠.panic c)/\Q e a w) hS hsel' hback hput (ro:=ro) (rm:=rm) (fun c a w h=>h.1 c rfl) _ ops.size (fun _ _=>True) [] (Array.replicate ops.size false) fr hp C { w with drawn:=w.drawn+1 } act (fun _ _ _ _ _ _=>trivial)
  (fun k=>⟨fun h=>(hno k h).elim,fun h=>by cases h⟩) hsz (fun i o _ hl=>(hno i hl).elim) (by have:=hunl ops.toList.length;simpa using this) AQ hH1 hF1 h hds (Goal.any fun fr' hp' C' w' act' h1 h2 h3 h4 h5 h6=>⟨fun c h=>by (cases h),(hgoal.step (.draw _ _ _ _)) fr' hp' C' w' act' h1 h2 h3 h4 h5 h6⟩)
 simpa using this
end
end Abs
end Go.Proofs.YtccgngldoinokaaGreat

namespace Go.Proofs.YtccgngldoinokaaGreat
namespace Abs
open Go Go.RowKit
def kr:AE->Exit
 | .normal=>.normal
 | .exit id=>.exit id
 | .ret=>.ret
section
variable {P:Program} {S:Sums} {C C':Cx} {w w':World} {H hp:A0}
def GoalE (S:Sums) (R:AV->A0->Prop) (Qv:AE->List AV->A0->VC) (Q:Exit->Act->World->Prop) (C:Cx) (w:World) (act:Act) (W:Nat):Prop :=
 ∀ (e:AE) (fr':List AV) (hp':A0) (C':Cx) (w':World) (act':Act),(Qv e fr' hp').sat R->S.lo<=hp'.length->HR C' hp' w'->FR [] C' w' fr' act'.tmps->Tr S.lo C w C' w'->Kept W act w act' w'->Q (kr e) act' w'
theorem GoalE.step {R:AV->A0->Prop} {Qv:AE->List AV->A0->VC} {Q:Exit->Act->World->Prop} {act act':Act} {W:Nat} (g:GoalE S R Qv Q C w act W) (t:Tr S.lo C w C' w') (k:Kept W act w act' w') (hH:HR C' hp w'):GoalE S R Qv Q C' w' act' W :=
 fun e fr' hp' C'' w'' act'' h1 h2 h3 h4 h5 h6=>g e fr' hp' C'' w'' act'' h1 h2 h3 h4 (t.trans h5) (k.trans h6 t.size fun _ _ hi ho=>h5.others hH hi ho)
theorem GoalE.sub {R:AV->A0->Prop} {Qv:AE->List AV->A0->VC} {Q:Exit->Act->World->Prop} {act:Act} {W W':Nat} (g:GoalE S R Qv Q C w act W) (h:∀ t,Nat.testBit W t=false->Nat.testBit W' t=false):GoalE S R Qv Q C w act W' :=
 fun e fr' hp' C' w' act' h1 h2 h3 h4 h5 h6=>g e fr' hp' C' w' act' h1 h2 h3 h4 h5 (h6.sub h)
theorem FR.known {fr:List AV} {tm:Array Value} (h:FR [] C w fr tm) {d:Nat} {a:AV} (ha:RelG [] C w a (tm.getD d undef)):FR [] C w (Ay fr d a) tm :=
 ⟨by rw [Ea];exact h.len,fun t=>by
  rw [E9]
  split
  ·rename_i hc;rw [hc.1];exact ha
  ·exact h.get t⟩
def Snd (P:Program) (S:Sums) (U:Nat) (I:Cz) (c:Code):Prop :=
 ∀ (ro:Option Nat) (rm:Nat) (R:AV->A0->Prop) (fr:List AV) (hp:A0) (Qv:AE->List AV->A0->VC) (C:Cx) (w:World) (act:Act) (Q:Exit->Act->World->Prop),S.lo<=hp.length->HR C hp w->FR [] C w fr act.tmps->RO ro w ->
   (Hj P S U I c fr hp Qv).sat R->GoalE S R Qv Q C w act (EY c)->c.wpIn (Fa ro) rm P Q act w
theorem iD {ro:Option Nat} {rm:Nat} {U:Nat} {I:Cz} {c:Code} (hc:Snd P S U I c) {R:AV->A0->Prop} {fr:List AV} {Qv:AE->List AV->A0->VC} {act:Act} {Q:Exit->Act->World->Prop} (n:Nat)
  (AQ:S.lo<=hp.length) (hH:HR C hp w) (hF:FR [] C w fr act.tmps) (hro:RO ro w) (h:(SN (Hj P S U I c) n fr hp Qv).sat R) (hgoal:GoalE S R Qv Q C w act (EY c)):(Code.loop c).wpIn (Fa ro) rm P Q act w:=by
 refine wpIn_loop_ghost (fun k a w1=>∃ fr hp C1,S.lo<=hp.length/\HR C1 hp w1/\FR [] C1 w1 fr a.tmps/\RO ro w1/\(SN (Hj P S U I c) k fr hp Qv).sat R/\Tr S.lo C w C1 w1/\Kept (EY c) act w a w1) n
  ⟨fr,hp,C,AQ,hH,hF,hro,h,.refl _ _ _,.refl _ _ _ _⟩ ?_
 rintro k a w1 ⟨fr,hp,C1,AQ,hH,hF,hro,h,ht,hk⟩
 cases k with
 | zero=>exact h.elim
 | succ k =>
   refine hc ro rm R fr hp _ C1 w1 a _ AQ hH hF hro h ?_
   intro e fr' hp' C' w' act' h1 h2 h3 h4 h5 h6
   have hk':=hk.trans h6 ht.size fun _ _ hi ho=>h5.others hH hi ho
   cases e with
   | normal=>exact ⟨k,by omega,fr',hp',C',h2,h3,h4,hro.tr h5 hH,h1,ht.trans h5,hk'⟩
   | exit id=>exact hgoal (.exit id) fr' hp' C' w' act' h1 h2 h3 h4 (ht.trans h5) hk'
   | ret=>exact hgoal .ret fr' hp' C' w' act' h1 h2 h3 h4 (ht.trans h5) hk'
theorem H4 {R:AV->A0->Prop} {lo:Nat} {src:A0} {f:AV->AV->VC->VC} (hf:∀ a b k k',(k.sat R->k'.sat R)->(f a b k).sat R->(Np lo src hp a b k').sat R) :
  ∀ (m l:List AV) (k k':VC),(k.sat R->k'.sat R)->(KK f l m k).sat R->(SL lo src hp l m k').sat R
 | [],[],k,k',hk,h=>by unfold SL;exact hk h
 | [],_::_,k,k',hk,h=>h.elim
 | b::m,[],k,k',hk,h=>h.elim
 | b::m,a::l,k,k',hk,h=>by
   unfold SL
   exact hf a b _ _ (H4 hf m l k k' hk) h
theorem JZ {R:AV->A0->Prop} {lo:Nat} {src:A0}:∀ (d:Nat) (a b:AV) (k k':VC),(k.sat R->k'.sat R)->(leAF d lo src hp a b k).sat R->(Np lo src hp a b k').sat R:=by
 intro d
 induction d with
 | zero=>intro a b k k' _ h;exact h.elim
 | succ d ih =>
   intro a b k k' hk h
   have hl:=H4 (hp:=hp) (R:=R) (lo:=lo) (src:=src) ih
   unfold leAF at h
   cases b<;>simp only at h<;>unfold Np
   all_goals repeat' (first|exact h.elim|exact hk h|exact ⟨h.1,hk h.2⟩|exact ⟨h.1,h.2.1,hk h.2.2⟩|exact hl _ _ _ _ hk h|exact hl _ _ _ _ (fun h=>hl _ _ _ _ hk h) h|(split at h<;>first|exact h.elim|(rename_i e;rw [e])|skip))
theorem jq {R:AV->A0->Prop} {lo n:Nat} {src:A0} {a b:Blk} {k k':VC} (hk:k.sat R->k'.sat R) (h:(jr lo n src hp a b k).sat R):(yb lo n src hp a b k').sat R:=by
 unfold jr at h
 unfold yb
 cases b<;>simp only at h ⊢
 ·cases hb:Nat.ble lo n<;>rw [hb] at h
  ·cases a<;>first|exact hk h|exact h.elim
  ·exact hk h
 ·split at h
  ·split at h
   ·exact H4 (JZ 6) _ _ _ _ hk h
   ·exact h.elim
  ·exact h.elim
 ·split at h
  ·split at h
   ·exact ⟨h.1,h.2.1,hk h.2.2⟩
   ·exact h.elim
  ·exact h.elim
 ·split at h
  ·split at h
   ·exact ⟨h.1,h.2.1,hk h.2.2⟩
   ·exact h.elim
  ·exact h.elim
 ·split at h
  ·split at h
   ·exact ⟨h.1,h.2.1,hk h.2.2⟩
   ·split at h
    ·exact ⟨h.1,h.2.1,h.2.2.1,hk h.2.2.2⟩
    ·split at h
     ·exact ⟨h.1,h.2.1,h.2.2.1,hk h.2.2.2⟩
     ·exact h.elim
    ·exact h.elim
   ·exact h.elim
  ·exact h.elim
 ·split at h
  ·split at h
   ·exact ⟨h.1,h.2.1,hk h.2.2⟩
   ·exact h.elim
  ·exact h.elim
theorem WY {R:AV->A0->Prop} {lo:Nat} {src:A0}:∀ (n:Nat) (l m:A0) (k k':VC),(k.sat R->k'.sat R)->(Nb lo src hp n l m k).sat R->(eK lo src hp n l m k').sat R
 | n,[],[],k,k',hk,h=>by unfold Nb at h;unfold eK;exact hk h
 | n,_::_,[],k,k',hk,h=>by
   unfold Nb at h;unfold eK
   cases hb:Nat.ble lo n<;>rw [hb] at h
   ·exact h.elim
   ·exact hk h
 | n,a::l,b::m,k,k',hk,h=>by
   unfold Nb at h;unfold eK
   exact jq (WY (n+1) l m k k' hk) h
 | n,[],_::_,k,k',hk,h=>by unfold Nb at h;exact h.elim
theorem WW {R:AV->A0->Prop} {lo:Nat} {fr:List AV} {s:AS} (h:(eH lo fr hp s).sat R):(ya lo fr hp s).sat R :=
 H4 (JZ 6) _ _ _ _ (WY 0 _ _ _ _ id) h
theorem TG (i j k:Nat):NU i j (NU i j k)=k:=by
 unfold NU
 have e:∀ a b:Nat,Nat.beq a b=decide (a=b):=fun a b=>by
  cases h:Nat.beq a b with
  | true=>simp [Nat.eq_of_beq_eq_true h]
  | false =>
    have:a≠b:=fun e=>by subst e;simp at h
    simp [this]
 simp only [e]
 by_cases h1:k=i
 ·subst h1
  simp only [decide_true]
  by_cases h2:j=k
  ·subst h2;simp
  ·simp [h2]
 ·by_cases h2:k=j
  ·subst h2;simp [h1]
  ·simp [h1,h2]
def Cx.sw (C:Cx) (i j:Nat):Cx:=⟨fun k=>C.ρ (NU i j k),C.I,C.O⟩
theorem Xt {i j:Nat} {a:AV} {v:Value} (h:Rel C w a v):Rel (C.sw i j) w (swA i j a) v:=by
 have hs:∀ k,(C.sw i j).ρ (NU i j k)=C.ρ k:=fun k=>by show C.ρ (NU i j (NU i j k))=_;rw [TG]
 refine Rel.rec (C:=C) (w:=w) (motive_1:=fun a v _=>Rel (C.sw i j) w (swA i j a) v) (motive_2:=fun l vs _=>RelL (C.sw i j) w (swA.swL i j l) vs)
  ?_ ?_ ?_ ?_ ?_ ?_ ?_ ?_ ?_ ?_ ?_ ?_ ?_ ?_ ?_ ?_ ?_ ?_ ?_ ?_ ?_ h
 ·exact fun v=>.top v
 ·exact fun k a v=>.gd k _ v
 ·exact fun k n=>.li k n
 ·exact fun k n=>.si k n
 ·exact fun b=>.lb b
 ·exact fun b=>.sb b
 ·exact fun x=>.v x
 ·exact fun l vs _ h=>.agg _ vs h
 ·exact fun l vs _ h=>.tup _ vs h
 ·exact fun k off b c n h=>.own _ off b c n (by rw [hs];exact h)
 ·exact fun k sz q off b c n h hk=>.elt _ sz q off b c n (by rw [hs];exact h) hk
 ·exact fun k b c n h=>.row _ b c n (by rw [hs];exact h)
 ·exact fun k n sz b c m h=>.lsl _ n sz b c m (by rw [hs];exact h)
 ·exact fun k h=>.rown _ (by rw [hs];exact h)
 ·exact fun n sz el A cap vs hcap hA hr hl hn _=>Rel.still (C:=C) (C':=C.sw i j) (w':=w) (fun _ h=>h) (fun _ _=>rfl) (.slc n sz el A cap vs hcap hA hr hl hn) rfl
 ·exact fun l ad vs hr hI hc hn _=>Rel.still (C:=C) (C':=C.sw i j) (w':=w) (fun _ h=>h) (fun _ _=>rfl) (.xp l ad vs hr hI hc hn) rfl
 ·exact fun f l m vs ws _ _ h h'=>.fn f _ _ vs ws h h'
 ·exact fun n sz el ad vs hI hc hr hl hn _=>Rel.still (C:=C) (C':=C.sw i j) (w':=w) (fun _ h=>h) (fun _ _=>rfl) (.pa n sz el ad vs hI hc hr hl hn) rfl
 ·exact fun k b c n h=>.mp _ b c n (by rw [hs];exact h)
 ·exact .nil
 ·exact fun a l v vs _ _ h h'=>.cons _ _ v vs h h'
theorem Zc {i j:Nat}:∀ {l:List AV} {vs:List Value},RelL C w l vs->RelL (C.sw i j) w (swA.swL i j l) vs
 | _,_,.nil=>.nil
 | _,_,.cons _ _ _ _ h h'=>.cons _ _ _ _ (Xt h) (Zc h')
theorem Wv (i j:Nat):∀ (l:A0) (k:Nat),A3 (zL i j l) k=yO i j (A3 l k)
 | [],_=>rfl
 | _::_,0=>rfl
 | _::l,k+1=>Wv i j l k
theorem Nn (i j:Nat):∀ l:A0,(zL i j l).length=l.length
 | []=>rfl
 | _::l=>by simp [zL,Nn i j l]
theorem kd {i j:Nat} (hi:i<hp.length) (hj:j<hp.length) (k:Nat):A3 (tc i j hp) k=yO i j (A3 hp (NU i j k)):=by
 unfold tc
 rw [DI,Ah,Nn]
 by_cases h1:k=j
 ·subst h1
  rw [if_pos ⟨rfl,hj⟩]
  by_cases h2:k=i
  ·subst h2;unfold NU;rw [show Nat.beq k k=true by simp]
  ·unfold NU;rw [show Nat.beq k i=false from H3 h2,show Nat.beq k k=true by simp]
 ·rw [if_neg (fun e=>h1 e.1),DI,Nn]
  by_cases h2:k=i
  ·subst h2
   rw [if_pos ⟨rfl,hi⟩]
   unfold NU;rw [show Nat.beq k k=true by simp]
  ·rw [if_neg (fun e=>h2 e.1),Wv]
   unfold NU;rw [show Nat.beq k i=false from H3 h2,show Nat.beq k j=false from H3 h1]
theorem nB {i j:Nat} {p:Pl} {b:Blk} (h:BRel C w p b):BRel (C.sw i j) w p (yO i j b):=by
 match p,b,h with
 | .at q c m,.cells ty l,h =>
   obtain ⟨vs,hr,hh⟩:=h
   exact ⟨vs,Zc hr,hh⟩
 | .at q c m,.row e sz k el,h =>
   obtain ⟨h1,h2,h3,cs,vs,hh,hs,hc⟩:=h
   exact ⟨h1,h2,h3,cs,vs,hh,hs,fun k hk=>⟨RelL.still (C:=C) (w:=w) (C':=C.sw i j) (w':=w) (fun _ h=>h) (fun _ _=>rfl) (hc k hk).1 (Ca (hc k hk).2.1),(hc k hk).2⟩⟩
 | .nil,.row e sz k el,h=>exact h
 | .at q c m,.tab k sz el,h =>
   obtain ⟨es,ck,vs,hh,hs,hc⟩:=h
   exact ⟨es,ck,vs,hh,hs,fun k hk=>⟨RelL.still (C:=C) (w:=w) (C':=C.sw i j) (w':=w) (fun _ h=>h) (fun _ _=>rfl) (hc k hk).1 (Ca (hc k hk).2.1),(hc k hk).2⟩⟩
 | .at q c m,.mat t wd k f,h =>
   obtain ⟨h1,h2,h3,cs,hh,hs,hc⟩:=h
   exact ⟨h1,h2,h3,cs,hh,hs,fun k hk j' hj=>by
    obtain ⟨ho,v,hv,hr⟩:=hc k hk j' hj
    exact ⟨ho,v,hv,Rel.still (C:=C) (C':=C.sw i j) (w:=w) (w':=w) (fun _ h=>h) (fun _ _=>rfl) hr (LP ho)⟩⟩
 | .at q c m,.rows e e' sz k fz ln el ho,h =>
   have hsub:KE C w (C.sw i j) w:=fun b x hb=>⟨hb,rfl⟩
   have core:∀ ho2:Option (Nat × Option Nat),(∀ k,GM ho2 k↔GM ho k)->(∀ k g,ho2=some (k,some g)->∃ g',ho=some (k,some g')/\g=NU i j g')->BRel (C.sw i j) w (.at q c m) (.rows e e' sz k fz ln el ho2):=by
    intro ho2 hh1 hh2
    obtain ⟨h1,h2,h3,cs,hh,hs,hc⟩:=h
    refine ⟨h1,h2,h3,cs,hh,hs,fun k hk=>?_⟩
    obtain ⟨v,hv,hr,hn⟩:=hc k hk
    refine ⟨v,hv,fun g hg=>?_,fun hno=>?_⟩
    ·obtain ⟨g',e1,rfl⟩:=hh2 k g hg
     exact Xt (hr g' e1)
    ·rw [hh1] at hno
     refine ⟨fun hf=>Rel.still (C:=C) (C':=C.sw i j) (w:=w) (w':=w) (fun _ h=>h) (fun _ _=>rfl) ((hn hno).1 hf) rfl,fun hf=>SubOwn.mono hsub (hx:=?_) ((hn hno).2 hf)⟩
     exact fun ok h=>RelL.still (C:=C) (C':=C.sw i j) (w:=w) (w':=w) (fun _ h=>h) (fun _ _=>rfl) h (Ca ok)
   match ho with
   | none=>exact core none (fun _=>Iff.rfl) (fun k g hg=>by cases hg)
   | some (k,none)=>exact core _ (fun _=>Iff.rfl) (fun k g hg=>by injection hg with hg;injection hg with _ hg;cases hg)
   | some (k,some g) =>
     refine core _ (fun k'=>?_) (fun k' g' hg=>?_)
     ·unfold GM
      constructor<;>rintro ⟨x,hx⟩<;>injection hx with hx<;>injection hx with h1 h2<;>exact ⟨_,by rw [h1]⟩
     ·injection hg with hg;injection hg with h1 h2;injection h2 with h2
      exact ⟨g,by rw [h1],h2.symm⟩
theorem zJ {i j:Nat} (hH:HR C hp w) (hi:i<hp.length) (hj:j<hp.length):HR (C.sw i j) (tc i j hp) w:=by
 refine ⟨fun k p hp'=>?_,fun k k' b c n b' c' n' h h' hne=>hH.inj _ _ _ _ _ _ _ _ h h' fun e=>hne ?_,fun k b c n h=>hH.fresh _ _ _ _ h,hH.ilt,fun b x hb=>⟨(hH.sub b x hb).1,(hH.sub b x hb).2.1,fun k b' c n h=>(hH.sub b x hb).2.2.1 _ _ _ _ h,(hH.sub b x hb).2.2.2⟩⟩
 ·rw [kd hi hj]
  exact nB (hH.live _ p hp')
 ·have:=congrArg (NU i j) e
  rwa [TG,TG] at this
theorem gu {i j lo k:Nat} (hi:lo<=i) (hj:lo<=j):(k<lo->NU i j k=k)/\(lo<=k->lo<=NU i j k):=by
 unfold NU
 constructor
 ·intro h
  rw [show Nat.beq k i=false from H3 (by omega),show Nat.beq k j=false from H3 (by omega)]
 ·intro h
  split
  ·exact hj
  ·split
   ·exact hi
   ·exact h
theorem zI {i j lo:Nat} (hi:lo<=i) (hj:lo<=j):Tr lo C w (C.sw i j) w :=
 ⟨rfl,rfl,rfl,Nat.le_refl _,fun _ _ _ _=>rfl,fun _ h=>h,fun _ h=>.inl h,fun k hk=>by show C.ρ (NU i j k)=_;rw [(gu hi hj).1 hk],fun k b c n hk h=>.inl ⟨NU i j k,c,n,(gu hi hj).2 hk,h⟩,fun b x hb=>.inl ⟨x,hb⟩⟩
theorem Wq (i j:Nat):∀ (l:List AV) (t:Nat),A4 (swA.swL i j l) t=swA i j (A4 l t)
 | [],_=>rfl
 | _::_,0=>rfl
 | _::l,t+1=>Wq i j l t
theorem bc (i j:Nat):∀ l:List AV,(swA.swL i j l).length=l.length
 | []=>rfl
 | _::l=>by simp [swA.swL,bc i j l]
theorem zK {i j:Nat} {fr:List AV} {tm:Array Value} (h:FR [] C w fr tm):FR [] (C.sw i j) w (swA.swL i j fr) tm:=by
 refine ⟨by rw [bc];exact h.len,fun t=>?_⟩
 rw [Wq]
 have h1:=h.get t
 refine .plain (Xt h1.1) ?_
 cases hx:A4 fr t<;>simp [swA,EW]
 obtain ⟨x,h2,_⟩:=h1.2 _ _ hx
 simp at h2
theorem K2 {lo n:Nat}:∀ {m l:List AV} {i j:Nat},misO lo n m l=some (i,j)->lo<=i/\lo<=j/\i<n/\j<n
 | [],_,_,_,h=>by simp [misO] at h
 | b::m,l,i,j,h=>by
   unfold misO at h
   split at h
   ·cases h
   ·split at h
    ·split at h
     ·split at h
      ·exact K2 h
      ·split at h
       ·rename_i hc
        injection h with h;injection h with h1 h2;subst h1 h2
        simp only [Bool.and_eq_true] at hc
        obtain ⟨⟨⟨h1,h2⟩,h3⟩,h4⟩:=hc
        exact ⟨Nat.le_of_ble_eq_true h1,Nat.le_of_ble_eq_true h2,by simpa [Nat.blt_eq] using h3,by simpa [Nat.blt_eq] using h4⟩
       ·cases h
     ·exact K2 h
    ·exact K2 h
def ra (lo:Nat) (fr:List AV) (hp:A0) (s:AS):Prop:=∀ (C:Cx) (w:World),HR C hp w->lo<=hp.length->∃ C2,HR C2 s.hp w/\(∀ tm,FR [] C w fr tm->FR [] C2 w s.fr tm)/\lo<=s.hp.length/\Tr lo C w C2 w
theorem Ze {R:AV->A0->Prop} {lo:Nat} {fr:List AV} {s:AS} (h:(yN lo s.fr fr hp fun fr hp=>eH lo fr hp s).sat R):ra lo fr hp s:=by
 intro C w hH AQ
 unfold yN at h
 split at h
 ·exact ⟨_,UA (WW h) hH AQ⟩
 ·rename_i i j hm
  obtain ⟨h1,h2,h3,h4⟩:=K2 hm
  rw [AK,A8] at h
  have hlen:(tc i j hp).length=hp.length:=by unfold tc;rw [Ah,Ah,Nn]
  obtain ⟨g1,g2,g3,g4⟩:=UA (WW h) (zJ (w:=w) hH h3 h4) (by rw [hlen];exact AQ)
  exact ⟨_,g1,fun tm hF=>g2 tm (zK hF),g3,(zI h1 h2).trans g4⟩
theorem UH {lo:Nat} {A:Ann} {m:Option Nat} {fr:List AV} {R:AV->A0->Prop} (h:(w_ lo A m fr hp).sat R):∃ g,A.pre g/\(∀ n,m=some n->A.mu g<n)/\ra lo fr hp (A.st g):=by
 obtain ⟨g,h1,h2,h3⟩:=h
 simp only [Ae,A8] at h3
 exact ⟨g,h1,fun n e=>by subst e;exact h2,Ze (s:=A.st g) h3⟩
theorem JO {R:AV->A0->Prop} {lo:Nat}:∀ {l:List (Nat × TypeId × Nat)} {fr:List AV} {hp:A0} {C:Cx} {K:List AV->A0->VC} {tm:Array Value},(KJ l fr hp K).sat R->lo<=hp.length->HR C hp w->FR [] C w fr tm ->
  ∃ fr' hp' C',(K fr' hp').sat R/\lo<=hp'.length/\HR C' hp' w/\FR [] C' w fr' tm/\Tr lo C w C' w
 | [],fr,hp,C,K,tm,h,AQ,hH,hF=>⟨fr,hp,C,h,AQ,hH,hF,.refl _ _ _⟩
 | (t,e,sz)::l,fr,hp,C,K,tm,h,AQ,hH,hF=>by
   unfold KJ at h
   split at h
   ·rename_i s hn
    rw [Aq,A8,GW] at h
    have hnone:C.ρ hp.length=none:=by
     cases hc:C.ρ hp.length with
     | none=>rfl
     | some p=>have:=hH.lt hc;omega
    have h1:HR (C.put hp.length .nil) (hp++[Blk.row e (s+1) (.lit 0) (fun _=>[])]) w:=by
     refine (hH.ext _).newNil hnone ?_
     rw [show A3 (hp++[Blk.row e (s+1) (.lit 0) (fun _=>[])]) hp.length=.row e (s+1) (.lit 0) (fun _=>[]) by rw [Ds];simp]
     exact ⟨rfl,Nat.succ_pos _⟩
    have g:=Grow.newNil C w hp.length
    have h2:FR [] (C.put hp.length .nil) w fr tm:=g.frame (fun i a b=>(show i=hp.length by omega)▸hnone) hH.ilt hF
    have h3:FR [] (C.put hp.length .nil) w (Ay fr t (.row hp.length)) tm:=h2.known (.plain (by
     have:=(hF.get t).1
     generalize A4 fr t=a at this hn
     generalize tm.getD t undef=v at this
     unfold Fp at hn
     split at hn
     ·cases this;exact .rown _ Cx.put_eq
     ·cases hn) trivial)
    obtain ⟨fr',hp',C',h4,h5,h6,h7,h8⟩:=JO (lo:=lo) (C:=C.put hp.length .nil) h (by simp;omega) h1 h3
    exact ⟨fr',hp',C',h4,h5,h6,h7,(g.tr AQ).trans h8⟩
   ·obtain ⟨hp1,C1,g1,g2,g3,g4,g5⟩:=R6 h AQ hH hF
    obtain ⟨fr',hp',C',h4,h5,h6,h7,h8⟩:=JO g1 g2 g3 g4
    exact ⟨fr',hp',C',h4,h5,h6,h7,g5.trans h8⟩
   ·exact JO h AQ hH hF
theorem nT {ro:Option Nat} {rm:Nat} {U:Nat} {I:Cz} {c:Code} (hc:Snd P S U I c) {A:Ann} {R:AV->A0->Prop} {fr:List AV} {Qv:AE->List AV->A0->VC} {act:Act} {Q:Exit->Act->World->Prop}
  (AQ:S.lo<=hp.length) (hH:HR C hp w) (hF:FR [] C w fr act.tmps) (hro:RO ro w)
  (h1:∃ g,A.pre g/\ra S.lo fr hp (A.st g))
  (h2:∀ g,A.pre g->(Hj P S U I c (A.st g).fr (A.st g).hp fun e fr' hp'=>match e with
    | .normal=>w_ S.lo A (some (A.mu g)) fr' hp'
    | e=>Qv e fr' hp').sat R) (hgoal:GoalE S R Qv Q C w act (EY c)):(Code.loop c).wpIn (Fa ro) rm P Q act w:=by
 obtain ⟨g,hg,hle⟩:=h1
 obtain ⟨C2,h3,h4,h5,h6⟩:=hle C w hH AQ
 refine wpIn_loop_ghost (fun k a w1=>∃ g C1,A.pre g/\A.mu g=k/\S.lo<=(A.st g).hp.length/\HR C1 (A.st g).hp w1/\FR [] C1 w1 (A.st g).fr a.tmps/\RO ro w1/\Tr S.lo C w C1 w1/\Kept (EY c) act w a w1) (A.mu g)
  ⟨g,_,hg,rfl,h5,h3,h4 _ hF,hro,h6,.refl _ _ _ _⟩ ?_
 rintro k a w1 ⟨g,C1,hg,rfl,AQ,hH,hF,hro,ht,hk⟩
 refine hc ro rm R _ _ _ C1 w1 a _ AQ hH hF hro (h2 g hg) ?_
 intro e fr' hp' C' w' act' h1 h2 h3 h4 h5 h6
 have hk':=hk.trans h6 ht.size fun _ _ hi ho=>h5.others hH hi ho
 cases e with
 | normal =>
   obtain ⟨g',hg',hlt,hle⟩:=UH h1
   have hlt:=hlt _ rfl
   obtain ⟨C3,h7,h8,h9,h10⟩:=hle C' w' h3 h2
   exact ⟨A.mu g',hlt,g',_,hg',rfl,h9,h7,h8 _ h4,hro.tr h5 hH,(ht.trans h5).trans h10,hk'⟩
 | exit id=>exact hgoal (.exit id) fr' hp' C' w' act' h1 h2 h3 h4 (ht.trans h5) hk'
 | ret=>exact hgoal .ret fr' hp' C' w' act' h1 h2 h3 h4 (ht.trans h5) hk'
theorem cR {lo i:Nat} {A:Ann} {fr:List AV} {R:AV->A0->Prop} (h:(fA lo A i fr hp).sat R):∃ g,A.pre g/\A.mu g=i/\ra lo fr hp (A.st g):=by
 obtain ⟨g,h1,_,h2,h3⟩:=h
 simp only [Ae,A8] at h3
 exact ⟨g,h1,h2,Ze (s:=A.st g) h3⟩
def UN:AE->Code
 | .exit id=>.exit id
 | _=>.ret
structure Mid (P:Program) (S:Sums) (C:Cx) (w:World) (act:Act) (A:Ann) (l:Nat) (rec:Loop) (ms:List Nat) (k:Nat) (W:World):Prop where
 ex:∃ g C2,A.mu g=k/\A.pre g/\S.lo<=(A.st g).hp.length/\HR C2 (A.st g).hp W/\FR [] C2 W (A.st g).fr act.tmps/\Tr S.lo C w C2 W
 lr:W.heap[l]? = some (.loop rec)
 ms:∀ D∈ms,W.heap[D]? = some (.deferred (some []))
structure Gone (P:Program) (S:Sums) (R:AV->A0->Prop) (Qv:AE->List AV->A0->VC) (C:Cx) (w:World) (act:Act) (l:Nat) (rec:AE->Loop) (ms:List Nat) (W:World):Prop where
 ex:∃ e fr' hp' C2,e≠AE.normal/\(Qv e fr' hp').sat R/\S.lo<=hp'.length/\HR C2 hp' W/\FR [] C2 W fr' act.tmps/\Tr S.lo C w C2 W/\W.heap[l]? = some (.loop (rec e))
 ms:∀ D∈ms,W.heap[D]? = some (.deferred (some []))
theorem Quiet.at {W W':World} (q:Quiet W W') {k:Nat} {o:Obj} (h:W.heap[k]? = some o):W'.heap[k]? = some o:=(q.keep k (Array.getElem?_eq_some_iff.1 h).1).trans h
theorem Mid.quiet {act:Act} {A:Ann} {l:Nat} {rec:Loop} {ms:List Nat} {k:Nat} {W W':World} (h:Mid P S C w act A l rec ms k W) (q:Quiet W W'):Mid P S C w act A l rec ms k W':=by
 obtain ⟨g,C2,h1,h2,h3,h4,h5,h6⟩:=h.ex
 exact ⟨⟨g,C2,h1,h2,h3,h4.cb q.cb,h5.cb q.cb,h6.quiet q⟩,q.at h.lr,fun D hD=>q.at (h.ms D hD)⟩
theorem Gone.quiet {R:AV->A0->Prop} {Qv:AE->List AV->A0->VC} {act:Act} {l:Nat} {rec:AE->Loop} {ms:List Nat} {W W':World} (h:Gone P S R Qv C w act l rec ms W) (q:Quiet W W'):Gone P S R Qv C w act l rec ms W':=by
 obtain ⟨e,fr',hp',C2,h0,h1,h2,h3,h4,h5,h6⟩:=h.ex
 exact ⟨⟨e,fr',hp',C2,h0,h1,h2,h3.cb q.cb,h4.cb q.cb,h5.quiet q,q.at h6⟩,fun D hD=>q.at (h.ms D hD)⟩
def mD (P:Program) (S:Sums) (C:Cx) (w:World) (act:Act) (x:Items) (cap:Option (Nat × Nat × List AV)) (gf:Nat) (ws:List Value):Prop :=
 ∀ (J Jx:Nat->World->Prop) (l:Nat),(∀ k W W',J k W->Quiet W W'->J k W')->(∀ k W W',Jx k W->Quiet W W'->Jx k W') ->
   (∀ (k:Nat) (W:World),J k W->∃ (hpg:A0) (frg:List AV) (C3:Cx),HR C3 hpg W/\FR [] C3 W frg act.tmps/\Tr S.lo C w C3 W /\
    (∀ d gf cv,cap=some (d,gf,cv)->∃ caps,A4 frg d=.fn (.func gf) [] caps/\∀ (I:Nat->Prop) (w:World) (vs:List Value),(∀ b,I b->b<w.heap.size)->RelL ⟨fun _=>none,I,fun _=>none⟩ w (NN hpg caps) vs->RelL ⟨fun _=>none,I,fun _=>none⟩ w cv vs) /\
    (k<x.n->(cap.isSome=true->MH (x.it k))/\∀ (W':World) (I1:Nat->Prop) (vs:List Value),Quiet W W'->(∀ b,I1 b->C3.I b\/(W.heap.size<=b/\b<W'.heap.size))->RelL ⟨fun _=>none,I1,fun _=>none⟩ W' (x.it k) vs ->
     YieldAt (Fa none) 0 P l ⟨vs⟩ W' fun e W''=>(∀ b,C.I b->W''.heap[b]? = W'.heap[b]?)/\W'.heap.size<=W''.heap.size/\((e=.returned (.bool true)/\J (k+1) W'')\/(e=.returned (.bool false)/\Jx k W'')))) ->
   ∀ w1,Quiet w w1->J 0 w1->CallsIn (Fa none) 0 P gf ⟨.func (.yield l) #[] #[]::ws⟩ w1 fun e W'=>(∃ v,e=.returned v)/\(J x.n W'\/∃ k,k<x.n/\Jx k W')
theorem ql {act:Act} {caps:List AV} {ws:List Value} {gf:Nat} {it:IN} {x:Items} (hH:HR C hp w) (hws:RelL C w caps ws) (hown:ownIn.ownInL caps=false) (hiter:IterOK P gf it) (hx:it caps=some x) (hpre:∀ p∈x.pre,p.ok):mD P S C w act x none gf ws:=by
 intro J Jx l hJ hJx hM w1 hq h0
 have hwsI:RelL (⟨fun _=>none,C.I,fun _=>none⟩:Cx) w caps ws:=RelL.change (C:=C) (C':=⟨fun _=>none,C.I,fun _=>none⟩) (fun b hb=>hb) hws hown
 refine hiter caps x hx hpre ⟨fun _=>none,C.I,fun _=>none⟩ w1 ws (fun i=>rfl) (fun b hb=>Nat.lt_of_lt_of_le (hH.ilt b hb) hq.size) (hwsI.cb hq.cb) l J Jx hJ hJx ?_ h0
 intro k W0 W I1 vs hk hj hqw _ hI1' hvs
 obtain ⟨hpg,frg,C3,_,_,ht3,_,hy⟩:=hM k W0 hj
 exact (hy hk).2 W I1 vs hqw (fun b hb=>(hI1' b hb).imp (fun h=>ht3.imm b h) id) hvs
theorem qk {act:Act} {d:Nat} {ws:List Value} {gf:Nat} {it:IN} {x:Items} {cv:List AV} (hev:act.tmps.getD d undef=.func (.func gf) ⟨[]⟩ ⟨ws⟩) (hiter:cz P gf it) (hx:it cv=some x) (hpre:∀ p∈x.pre,p.ok):mD P S C w act x (some (d,gf,cv)) gf ws:=by
 intro J Jx l hJ hJx hM w1 hq h0
 refine hiter cv x hx hpre ws l J Jx hJ hJx ?_ w1 h0
 intro k W hj
 obtain ⟨hpg,frg,C3,hH3,hF3,ht3,hcap,hy⟩:=hM k W hj
 obtain ⟨caps,hd,himp⟩:=hcap d gf cv rfl
 have hws:RelL C3 W caps ws:=by
  have:=(hF3.get d).1
  rw [hd,hev] at this
  cases this with
  | fn _ _ _ vs ws h1 h2=>exact h2
 have hb:∀ b,(C3.I b\/tE C3 hpg b)->b<W.heap.size:=fun b hb=>by
  rcases hb with hb|⟨i,c,n,t,l,hi,_⟩
  ·exact hH3.ilt b hb
  ·exact (hH3.fresh _ _ _ _ hi).1
 refine ⟨fun b=>C3.I b\/tE C3 hpg b,hb,himp _ _ _ hb (Si hH3 hws),fun hk W' I1 vs hqw hI1 hvs=>?_⟩
 have hH3':HR C3 hpg W':=hH3.cb hqw.cb
 obtain ⟨fn,tm,ca,cb,h1,h2⟩:=(hy hk).2 W' (fun b=>I1 b/\¬ tE C3 hpg b) vs hqw (fun b hb=>by
  rcases hI1 b hb.1 with (h|h)|h
  ·exact .inl h
  ·exact absurd h hb.2
  ·exact .inr h) (Wc (D:=tE C3 hpg) (qT hH3') ((hy hk).1 rfl) hvs)
 exact ⟨fn,tm,ca,cb,h1,h2.mono fun e W'' h=>h.2.2⟩
theorem XO {R:AV->A0->Prop} {c:Option (Nat × Nat × List AV)} {fr:List AV} {k:VC} (h:(Q6 c fr hp k).sat R):k.sat R/\∀ d gf cv,c=some (d,gf,cv)->∃ caps,A4 fr d=.fn (.func gf) [] caps /\
  ∀ (I:Nat->Prop) (w:World) (vs:List Value),(∀ b,I b->b<w.heap.size)->RelL ⟨fun _=>none,I,fun _=>none⟩ w (NN hp caps) vs->RelL ⟨fun _=>none,I,fun _=>none⟩ w cv vs:=by
 unfold Q6 at h
 cases c with
 | none=>exact ⟨h,fun _ _ _ e=>by cases e⟩
 | some z =>
   obtain ⟨d,gf,cv⟩:=z
   refine ⟨h.2 () trivial,fun d' gf' cv' e=>?_⟩
   injection e with e;injection e with e1 e2;injection e2 with e2 e3
   subst e1 e2 e3
   have h:=h.1
   unfold AI6 at h
   split at h
   ·rename_i gf' caps hd
    split at h
    ·rename_i hg
     obtain rfl:=Nat.eq_of_beq_eq_true hg
     rw [AK] at h
     have h:=H4 (hp:=[]) (JZ 6) _ _ _ _ id h
     obtain ⟨_,himp⟩:=Ez h
     refine ⟨caps,hd,fun I w vs hb hv=>?_⟩
     have hH0:HR (⟨fun _=>none,I,fun _=>none⟩:Cx) [] w:=⟨fun i p h=>(by cases h),fun i j b c n b' c' n' h=>(by cases h),fun i b c n h=>(by cases h),hb,fun b x h=>(by cases h)⟩
     exact ((himp _ w hH0).2 _ hv).mono ⟨fun i p hp=>(by
      unfold Cx.cut at hp
      simp only at hp
      split at hp<;>cases hp),fun b hb=>(by
      rcases hb with hb|⟨i,c,n,_,hb⟩
      ·exact hb
      ·cases hb),fun _ _=>rfl⟩
    ·exact h.elim
   ·exact h.elim
set_option maxHeartbeats 800000 in
theorem dK (hS:SumsOK P S) {ro:Option Nat} {rm:Nat} {U:Nat} {I:Cz} {g:Operand} {ps:Array Tmp} {ca cb:Code} (hca:Snd P S U I ca) (hcb:Snd P S U I cb) {R:AV->A0->Prop} {fr:List AV} {Qv:AE->List AV->A0->VC} {act:Act} {Q:Exit->Act->World->Prop}
  (AQ:S.lo<=hp.length) (hH:HR C hp w) (hF:FR [] C w fr act.tmps) (hro:RO ro w) (h:(Hj P S U I (.rangeFunc g ps ca cb) fr hp Qv).sat R) (hgoal:GoalE S R Qv Q C w act 0):(Code.rangeFunc g ps ca cb).wpIn (Fa ro) rm P Q act w:=by
 simp only [Hj] at h
 unfold Z5 at h
 split at h
 case h_2=>exact h.elim
 rename_i d
 split at h
 case h_2=>exact h.elim
 rename_i gf caps hd
 obtain ⟨ws,hev,hws⟩:∃ ws,act.tmps.getD d undef=.func (.func gf) ⟨[]⟩ ⟨ws⟩/\RelL C w caps ws:=by
  have:=(hF.get d).1
  rw [hd] at this
  generalize act.tmps.getD d undef=u at this
  cases this with
  | fn _ _ _ vs ws h1 h2=>cases h1;exact ⟨ws,rfl,h2⟩
 obtain ⟨x,cap,h,⟨fn0,hfn0,hname0,hbody0⟩,hcom⟩:∃ (x:Items) (cap:Option (Nat × Nat × List AV)),(match AL I (eQ ca cb) with
  | none=>.fail
  | some (nils,ann)=>KJ nils fr hp fun fr hp =>
    let A:=ann fr hp
    .loop (A:=A) A.dat (fA S.lo A 0 fr hp) fun g=>Av (A.st g).fr fun fr=>forceH (A.st g).hp fun hp=>Q6 cap fr hp (
     .branch (mI (A.mu g) x.n)
      (Q7 cap (x.it (A.mu g)) (setPs ps.toList (x.it (A.mu g)) fr fun fr1=>Hj P S U I ca fr1 hp fun e fr2 hp2=>match e with
       | .normal=>Hj P S U I cb fr2 hp2 fun e fr3 hp3=>topM (Nat.lor (Kj ps.toList) (Nat.lor (EY ca) (EY cb))) fr3 0 fun fr4=>match e with
         | .normal=>fA S.lo A (Ii (A.mu g) 1) fr4 hp3
         | e=>Qv e fr4 hp3
       | _=>.fail))
      (Qv .normal fr hp)):VC).sat R/\yL P gf/\mD P S C w act x cap gf ws:=by
  rcases eT h with ⟨it,hit,hown,hlt,h⟩|⟨it,hit,h⟩
  ·split at h
   case h_2=>exact h.elim
   rename_i x hx
   obtain ⟨hpre,h⟩:=EB h
   obtain ⟨hiter,hfn⟩:=(hS.its _ _ hit).1 hlt
   exact ⟨x,none,h,hfn,ql hH hws hown hiter hx hpre⟩
  ·split at h
   case h_2=>exact h.elim
   rename_i x hx
   obtain ⟨hpre,h⟩:=EB h
   obtain ⟨hiter,hfn⟩:=(hS.its _ _ hit).2 gf rfl
   exact ⟨x,_,h,hfn,qk hev hiter hx hpre⟩
 split at h
 ·exact h.elim
 rename_i nils ann _
 obtain ⟨fr,hp1,C1,h,hlo1,hH1,hF1,htr1⟩:=JO h AQ hH hF
 obtain ⟨A,hA⟩:∃ A,A=ann fr hp1:=⟨_,rfl⟩
 obtain ⟨h0,h⟩:=h
 rw [<- hA] at h0
 have h:∀ g,A.pre g->(Q6 cap (A.st g).fr (A.st g).hp (VC.branch (mI (A.mu g) x.n)
     (Q7 cap (x.it (A.mu g)) (setPs ps.toList (x.it (A.mu g)) (A.st g).fr fun fr1=>Hj P S U I ca fr1 (A.st g).hp fun e fr2 hp2=>match e with
      | .normal=>Hj P S U I cb fr2 hp2 fun e fr3 hp3=>topM (Nat.lor (Kj ps.toList) (Nat.lor (EY ca) (EY cb))) fr3 0 fun fr4=>match e with
        | .normal=>fA S.lo A (Ii (A.mu g) 1) fr4 hp3
        | e=>Qv e fr4 hp3
      | _=>.fail))
     (Qv .normal (A.st g).fr (A.st g).hp))).sat R:=by
  subst hA
  intro g hg
  have:=h g hg
  simp only [Ae,A8] at this
  exact this
 obtain ⟨g0,hg0,hmu0,hle0⟩:=cR h0
 obtain ⟨C2,hH2,hF2,ee,htr2⟩:=hle0 C1 _ hH1 hlo1
 have hF2:=hF2 _ hF1
 have htr:=htr1.trans htr2
 clear hle0 h0 htr2 htr1 hF1 hH1
 refine wpIn_rangeFunc ?_
 intro fn hfn
 obtain ⟨l,ms,w1,rec,henter,hq,hl,hrec0,hrecl,hms,hnd⟩:∃ (l:Nat) (ms:List Nat) (w1:World) (rec:LoopState->Option Code->Loop),(Instr.enterLoop fn act.tmps ps ca cb ro).run P w=.ok (l,ms.map dz) w1/\Quiet w w1/\w.heap.size<=l /\
   (∃ D0,rec=fun st pe=>{ state:=st,pending:=pe,fn,tmps:=act.tmps,params:=ps,assign:=ca,body:=cb,defers:=D0 })/\w1.heap[l]? = some (.loop (rec .ready none)) /\
   (∀ D∈ms,w.heap.size<=D/\D≠l/\w1.heap[D]? = some (.deferred (some [])))/\ms.Nodup:=by
  cases ro with
  | none =>
    refine ⟨w.heap.size+1,[w.heap.size],_,fun st pe=>{ state:=st,pending:=pe,fn,tmps:=act.tmps,params:=ps,assign:=ca,body:=cb,defers:=w.heap.size },run_enterLoop_outer fn act.tmps ps ca cb,(Quiet.alloc _ _).trans (Quiet.alloc _ _),by omega,⟨_,rfl⟩,?_,fun D hD=>?_,by simp⟩
    ·have:=World.alloc_heap_new (w.alloc (.deferred (some []))) (.loop { state:=.ready,pending:=none,fn,tmps:=act.tmps,params:=ps,assign:=ca,body:=cb,defers:=w.heap.size })
     rwa [World.size_alloc] at this
    ·simp at hD;subst hD
     exact ⟨Nat.le_refl _,by omega,(Below.heap_alloc _ _ _ (by simp)).trans (World.alloc_heap_new w _)⟩
  | some l₀ =>
    obtain ⟨r₀,hr₀⟩:=hro l₀ rfl
    refine ⟨w.heap.size,[],_,fun st pe=>{ state:=st,pending:=pe,fn,tmps:=act.tmps,params:=ps,assign:=ca,body:=cb,defers:=r₀.defers },run_enterLoop_inner hr₀ fn act.tmps ps ca cb,Quiet.alloc _ _,Nat.le_refl _,⟨_,rfl⟩,World.alloc_heap_new w _,fun D hD=>by simp at hD,by simp⟩
 obtain ⟨D0,hrec⟩:=hrec0
 have hrun:∀ (args:Array Value) (W:World),(callFunc gf args).run P W=.ok (.enter gf args) W:=fun args W=>GR (P:=P) hfn0 hname0 hbody0 args W
 refine ⟨l,ms.map dz,w1,{ target:=.fn (.func gf) ⟨ws⟩,args:=#[.func (.yield l) #[] #[]] },w1,gf,⟨.func (.yield l) #[] #[]::ws⟩,w1,henter,?_,fun _ _=>trivial,?_,(fun (hh:(none:Option Nat).isSome=true)=>by simp at hh),?_⟩
 ·have hev':act.eval (.tmp d)=.func (.func gf) ⟨[]⟩ ⟨ws⟩:=hev
  simp only [resolve,hev']
  simp [go_sem]
 ·have e1 : #[Value.func (.yield l) #[] #[]]++(⟨ws⟩:Array Value)=⟨.func (.yield l) #[] #[]::ws⟩:=by apply Array.ext';simp
  simp [invoke,go_sem,hrun,e1]
 have hinv0:Mid P S C w act A l (rec .ready none) ms 0 w1:=⟨⟨g0,C2,hmu0,hg0,ee,hH2.cb hq.cb,hF2.cb hq.cb,htr.quiet hq⟩,hrecl,fun D hD=>(hms D hD).2.2⟩
 have hrecC:∀ e:AE,rec .done (some (UN e))=rec .done (some (UN e)):=fun _=>rfl
 refine Se ro (callsIn_wide.1 ((hcom
  (fun k W=>Mid P S C w act A l (rec .ready none) ms k W) (fun _ W=>Gone P S R Qv C w act l (fun e=>rec .done (some (UN e))) ms W) l (fun _ _ _ h q=>h.quiet q) (fun _ _ _ h q=>h.quiet q) ?_ w1 hq hinv0).mono ?_))
 ·-- one round
  intro k W0 hmid
  obtain ⟨gh,C3,hmu,hpg,hlo3,hH3,hF3,ht3⟩:=hmid.ex
  obtain ⟨hsat,hcapg⟩:=XO (h gh hpg)
  refine ⟨_,_,C3,hH3,hF3,ht3,hcapg,fun hk=>?_⟩
  have hsat:=lV (hsat.1 (by unfold mI;simpa [hmu] using hk))
  rw [hmu] at hsat
  refine ⟨hsat.2,fun W I1 vs hqw hI1' hvs=>?_⟩
  have hsat:=hsat.1
  obtain ⟨C4,hC4⟩:∃ C4:Cx,C4=⟨C3.ρ,fun b=>C3.I b\/I1 b,C3.O⟩:=⟨_,rfl⟩
  have hx4:Cext C3 W C4 W:=by rw [hC4];exact ⟨fun _ _ h=>h,fun _ h=>.inl h,fun _ _=>rfl⟩
  have hH3W:HR C3 (A.st gh).hp W:=hH3.cb hqw.cb
  have hH4:HR C4 (A.st gh).hp W:=by
   refine ⟨fun i p hi=>?_,fun i j b c n b' c' n' h h'=>?_,fun i b c n hi=>?_,fun b hb=>?_,fun b x hb=>?_⟩
   ·rw [hC4] at hi;exact (hH3W.live i p hi).mono hx4 (fun _ _ _ _=>rfl) fun b x hb=>⟨by rw [hC4];exact hb,rfl⟩
   ·rw [hC4] at h h';exact hH3W.inj _ _ _ _ _ _ _ _ h h'
   ·rw [hC4] at hi ⊢
    refine ⟨(hH3W.fresh _ _ _ _ hi).1,fun hb=>?_⟩
    rcases hb with hb|hb
    ·exact (hH3W.fresh _ _ _ _ hi).2 hb
    ·rcases hI1' b hb with h1|h1
     ·exact (hH3W.fresh _ _ _ _ hi).2 (h1)
     ·have:=(hH3.fresh _ _ _ _ hi).1;omega
   ·rw [hC4] at hb
    rcases hb with hb|hb
    ·exact hH3W.ilt b hb
    ·rcases hI1' b hb with h1|h1
     ·exact hH3W.ilt b (h1)
     ·exact h1.2
   ·have hb':C3.O b=some x:=by rw [hC4] at hb;exact hb
    obtain ⟨s1,s2,s3,s4⟩:=hH3W.sub b x hb'
    refine ⟨s1,fun hI=>?_,fun i b' c n hi=>s3 i b' c n (by rw [hC4] at hi;exact hi),s4⟩
    rw [hC4] at hI
    rcases hI with hI|hI
    ·exact s2 hI
    ·rcases hI1' b hI with h1|h1
     ·exact s2 (h1)
     ·have:=(hH3.sub b x hb').1;omega
  have hF4:FR [] C4 W (A.st gh).fr act.tmps:=(hF3.cb hqw.cb).mono hx4
  have ht4:Tr S.lo C w C4 W:=by
   have t:=ht3.quiet hqw
   rw [hC4]
   refine ⟨t.os,t.tape,t.output,t.size,t.keep,fun b hb=>.inl (t.imm b hb),fun b hb=>?_,t.rho,t.own,t.sub⟩
   rcases hb with hb|hb
   ·exact t.imm' b hb
   ·rcases hI1' b hb with h1|h1
    ·exact t.imm' b h1
    ·exact .inr (.inl (.inl (Nat.le_trans ht3.size h1.1)))
  have hvs4:RelL C4 W (x.it k) vs:=hvs.mono ⟨fun i p h=>by simp at h,fun b hb=>by rw [hC4];exact .inr hb,fun _ _=>rfl⟩
  obtain ⟨hlen,fr1,hsat,hFr1⟩:=Qo hsat hvs4 hF4
  have hlW:W.heap[l]? = some (.loop (rec .ready none)):=hqw.at hmid.lr
  have hmsW:∀ D∈ms,W.heap[D]? = some (.deferred (some [])):=fun D hD=>hqw.at (hmid.ms D hD)
  have hy:=run_yield (P:=P) (args:=⟨vs⟩) hlW (by rw [hrec];simp;simpa using hlen.symm)
  have htm:∀ t,Nat.testBit (Kj ps.toList) t=false->((ps.toList.zip vs).foldl (fun t (p,v)=>t.setIfInBounds p v) act.tmps).getD t undef=act.tmps.getD t undef:=fun t ht=>by
   refine X5 _ _ _ fun hm=>?_
   obtain ⟨⟨p,v⟩,hm1,rfl⟩:=List.mem_map.1 hm
   rw [jO (List.of_mem_zip hm1).1] at ht;cases ht
  have htz:=SY (ps.toList.zip vs) act.tmps
  have hfold:(ps.zip (⟨vs⟩:Array Value)).foldl (fun t (p,v)=>t.setIfInBounds p v) act.tmps=(ps.toList.zip vs).foldl (fun t (p,v)=>t.setIfInBounds p v) act.tmps:=by
   rw [<- Array.foldl_toList];simp
  generalize (ps.toList.zip vs).foldl (fun t (p,v)=>t.setIfInBounds p v) act.tmps=tm1 at hFr1 htm htz hfold
  refine ⟨fn,tm1,ca,cb,?_,roundIn_of_wpIn trivial ?_⟩
  ·rw [hy,hrec];simp only;rw [<- hfold]
  refine hca (some l) 0 R fr1 _ _ C4 W ⟨tm1,[]⟩ _ hlo3 hH4 hFr1 (fun l' hl'=>by injection hl' with hl';subst hl';exact ⟨_,hlW⟩) hsat ?_
  intro e fr2 hp2 C5 W2 act2 h1 h2 h3 h4 h5 h6
  cases e with
  | exit id=>exact h1.elim
  | ret=>exact h1.elim
  | normal =>
  have hl2:W2.heap[l]? = some (.loop (rec .ready none)):=h5.others hH4 hlW rfl
  have hms2:∀ D∈ms,W2.heap[D]? = some (.deferred (some [])):=fun D hD=>h5.others hH4 (hmsW D hD) rfl
  refine ⟨_,run_beginRound hl2 (by rw [hrec]),?_⟩
  have hcb1:=CB.putObj (.loop { rec .ready none with state:=.busy }) hl2 rfl
  have hl3:(W2.putObj l (.loop { rec .ready none with state:=.busy })).heap[l]? = some (.loop { rec .ready none with state:=.busy }):=World.putObj_heap_same (Array.getElem?_eq_some_iff.1 hl2).1
  have hms3:∀ D∈ms,(W2.putObj l (.loop { rec .ready none with state:=.busy })).heap[D]? = some (.deferred (some [])):=fun D hD=>(World.putObj_heap_other (hms D hD).2.1).trans (hms2 D hD)
  have hk3:∀ b,b≠l->(W2.putObj l (.loop { rec .ready none with state:=.busy })).heap[b]? = W2.heap[b]?:=fun b hb=>World.putObj_heap_other hb
  have ht5:Tr S.lo C w C5 (W2.putObj l (.loop { rec .ready none with state:=.busy })):=(ht4.trans h5).putObj hl _
  have hs3:(W2.putObj l (.loop { rec .ready none with state:=.busy })).heap.size=W2.heap.size:=World.putObj_size
  have hH5:=h3.cb hcb1
  have hF5:=h4.cb hcb1
  generalize W2.putObj l (.loop { rec .ready none with state:=.busy })=W3 at *
  refine hcb (some l) 0 R fr2 hp2 _ C5 W3 act2 _ h2 hH5 hF5 (fun l' hl'=>by injection hl' with hl';subst hl';exact ⟨_,hl3⟩) h1 ?_
  intro e fr3 hp3 C6 W4 act3 g1 g2 g3 g4 g5 g6
  have ht6:Tr S.lo C w C6 W4:=ht5.trans g5
  have hl4:W4.heap[l]? = some (.loop { rec .ready none with state:=.busy }):=g5.others hH5 hl3 rfl
  have hms4:∀ D∈ms,W4.heap[D]? = some (.deferred (some [])):=fun D hD=>g5.others hH5 (hms3 D hD) rfl
  obtain ⟨K,g7,hK1,hK2⟩:∃ K:List AV->VC,(topM (Nat.lor (Kj ps.toList) (Nat.lor (EY ca) (EY cb))) fr3 0 K).sat R/\(e=.normal->K=fun fr4=>fA S.lo A (Ii k 1) fr4 hp3)/\(e≠.normal->K=fun fr4=>Qv e fr4 hp3):=by
   cases e with
   | normal=>exact ⟨_,g1,fun _=>rfl,fun h=>absurd rfl h⟩
   | exit id=>exact ⟨_,g1,(fun h=>by cases h),fun _=>rfl⟩
   | ret=>exact ⟨_,g1,(fun h=>by cases h),fun _=>rfl⟩
  obtain ⟨fr4,e4,hlen4,hget4⟩:=TF (Nat.lor (Kj ps.toList) (Nat.lor (EY ca) (EY cb))) fr3 0 K
  rw [e4] at g7
  have hF6:FR [] C6 W4 fr4 act.tmps:=by
   refine ⟨by rw [hlen4,g4.len,g6.sz,h6.sz,htz],fun t=>?_⟩
   rw [hget4 t]
   split
   ·exact .plain (.top _) trivial
   ·rename_i hb
    by_cases hlt:t<fr3.length
    ·have hbit:Nat.testBit (Nat.lor (Kj ps.toList) (Nat.lor (EY ca) (EY cb))) t=false:=by
      rw [Nat.zero_add] at hb
      cases hbb:Nat.testBit (Nat.lor (Kj ps.toList) (Nat.lor (EY ca) (EY cb))) t with
      | false=>rfl
      | true=>exact absurd ⟨hbb,hlt⟩ hb
     obtain ⟨b1,b2⟩:=Ij hbit
     obtain ⟨b2,b3⟩:=Ij b2
     have:=g4.get t
     rwa [g6.tm t b3,h6.tm t b2,htm t b1] at this
    ·have hl3':=g4.len
     have e1:A4 fr3 t=.tup []:=by rw [DX,List.getD_eq_getElem?_getD,List.getElem?_eq_none (by omega)];rfl
     have e2:act.tmps.getD t undef=undef:=by
      rw [Array.getD_eq_getD_getElem?,Array.getElem?_eq_none (by rw [<- htz,<- h6.sz,<- g6.sz];omega)];rfl
     rw [e1,e2];exact .plain (.tup _ _ .nil) trivial
  have hkeep:∀ b,C.I b->W4.heap[b]? = W.heap[b]?:=fun b hb=>by
   have hbl:b<w.heap.size:=hH.ilt b hb
   have hb4:C4.I b:=by rw [hC4];exact .inl (ht3.imm b hb)
   exact (g5.imms hH5 (h5.imm b hb4)).trans ((hk3 b (by omega)).trans (h5.imms hH4 hb4))
  have hsize:W.heap.size<=W4.heap.size:=Nat.le_trans h5.size (by rw [<- hs3];exact g5.size)
  have fin:∀ (jump:Option Code),(Instr.endRound l jump).run P W4=.ok (.bool jump.isNone) (W4.putObj l (.loop (rec (if jump.isNone then .ready else .done) jump))) /\
    CB W4 (W4.putObj l (.loop (rec (if jump.isNone then .ready else .done) jump)))/\(W4.putObj l (.loop (rec (if jump.isNone then .ready else .done) jump))).heap[l]? = some (.loop (rec (if jump.isNone then .ready else .done) jump)) /\
    (∀ D∈ms,(W4.putObj l (.loop (rec (if jump.isNone then .ready else .done) jump))).heap[D]? = some (.deferred (some []))) /\
    (∀ b,C.I b->(W4.putObj l (.loop (rec (if jump.isNone then .ready else .done) jump))).heap[b]? = W.heap[b]?)/\W.heap.size<=(W4.putObj l (.loop (rec (if jump.isNone then .ready else .done) jump))).heap.size:=fun jump=>by
   have:=run_endRound (P:=P) jump hl4
   rw [hrec] at this ⊢
   refine ⟨this,CB.putObj _ hl4 rfl,World.putObj_heap_same (Array.getElem?_eq_some_iff.1 hl4).1,fun D hD=>(World.putObj_heap_other (hms D hD).2.1).trans (hms4 D hD),fun b hb=>?_,by simpa using hsize⟩
   have hbl:b<w.heap.size:=hH.ilt b hb
   exact (World.putObj_heap_other (by omega)).trans (hkeep b hb)
  cases e with
  | normal =>
    rw [hK1 rfl] at g7
    obtain ⟨gh',hpg',hmu',hle⟩:=cR g7
    obtain ⟨C7,k1,k2,k3,k4⟩:=hle _ _ g3 g2
    obtain ⟨f1,f2,f3,f4,f5,f6⟩:=fin none
    exact ⟨_,_,f1,f5,f6,.inl ⟨rfl,⟨gh',_,by rw [hmu'];unfold Ii;rfl,hpg',k3,k1.cb f2,(k2 _ hF6).cb f2,(ht6.trans k4).putObj hl _⟩,f3,f4⟩⟩
  | exit id =>
    rw [hK2 (by simp)] at g7
    obtain ⟨f1,f2,f3,f4,f5,f6⟩:=fin (some (.exit id))
    exact ⟨_,_,f1,f5,f6,.inr ⟨rfl,⟨.exit id,fr4,hp3,C6,by simp,g7,g2,g3.cb f2,hF6.cb f2,ht6.putObj hl _,f3⟩,f4⟩⟩
  | ret =>
    rw [hK2 (by simp)] at g7
    obtain ⟨f1,f2,f3,f4,f5,f6⟩:=fin (some .ret)
    exact ⟨_,_,f1,f5,f6,.inr ⟨rfl,⟨.ret,fr4,hp3,C6,by simp,g7,g2,g3.cb f2,hF6.cb f2,ht6.putObj hl _,f3⟩,f4⟩⟩
 ·-- behind the iterator
  have hkept:∀ (W:World) (o:Obj),(∀ D∈ms,W.heap[D]? = some (.deferred (some [])))->Kept 0 act w { act with defers:=ms.map dz++act.defers } (W.putObj l o):=fun W o hm =>
   ⟨rfl,fun _ _=>rfl,ms,rfl,hnd,fun b hb=>⟨(hms b hb).1,(World.putObj_heap_other (hms b hb).2.1).trans (hm b hb)⟩⟩
  rintro e W ⟨⟨v,rfl⟩,hmid|⟨k,hk,hgone⟩⟩
  ·obtain ⟨gh,C3,hmu,hpg,hlo3,hH3,hF3,ht3⟩:=hmid.ex
   have hl3:=hmid.lr
   have hend:=run_endLoop (P:=P) hl3 (by rw [hrec];simp)
   have hcb1:=fun o=>CB.putObj (.loop o) hl3 rfl
   rw [hrec] at hend
   refine ⟨none,_,hend,?_⟩
   have hsat:=(XO (h gh hpg)).1.2 (by unfold mI;simp [hmu])
   exact hgoal .normal _ _ C3 _ _ hsat hlo3 (hH3.cb (hcb1 _)) (hF3.cb (hcb1 _)) (ht3.putObj hl _) (hkept _ _ hmid.ms)
  ·obtain ⟨e,fr',hp',C3,hne,hsat,hlo3,hH3,hF3,ht3,hl3⟩:=hgone.ex
   have hend:=run_endLoop (P:=P) hl3 (by rw [hrec];simp)
   have hcb1:=fun o=>CB.putObj (.loop o) hl3 rfl
   rw [hrec] at hend
   refine ⟨some (UN e),_,hend,?_⟩
   cases e with
   | normal=>exact absurd rfl hne
   | exit id=>exact wpIn_exit (hgoal (.exit id) fr' hp' C3 _ { act with defers:=ms.map dz++act.defers } hsat hlo3 (hH3.cb (hcb1 _)) (hF3.cb (hcb1 _)) (ht3.putObj hl _) (hkept _ _ hgone.ms))
   | ret=>exact wpIn_ret (hgoal .ret fr' hp' C3 _ { act with defers:=ms.map dz++act.defers } hsat hlo3 (hH3.cb (hcb1 _)) (hF3.cb (hcb1 _)) (ht3.putObj hl _) (hkept _ _ hgone.ms))
theorem Y2 (hS:SumsOK P S) (hm:P.follows .mixedOrders=true) {U:Nat} {I:Cz} {id:Nat} {ops:Array Oper} {dr:Bool} (hok:Cu (.region id ops dr)=true) {ro:Option Nat} {rm:Nat} {R:AV->A0->Prop} {fr:List AV} {Qv:AE->List AV->A0->VC} {act:Act} {Q:Exit->Act->World->Prop}
  (AQ:S.lo<=hp.length) (hH:HR C hp w) (hF:FR [] C w fr act.tmps) (h:(Hj P S U I (.region id ops dr) fr hp Qv).sat R) (hgoal:Goal P S R (Qv .normal) Q C w (RegKept (Am ops.toList) act)):(Code.region id ops dr).wpIn (Fa ro) rm P Q act w:=by
 simp only [Hj] at h
 simp only [Cu,Iy,Bool.and_eq_true] at hok
 obtain ⟨fr,hp,C1,h,AQ,hH,hF,htr⟩:=ep h AQ hH hF
 have hg:Goal P S R (Qv .normal) Q C1 w (RegKept (Am ops.toList) act):=hgoal.step htr
 have hds:RegKept (Am ops.toList) act act:=⟨rfl,fun _ _=>rfl,rfl⟩
 have hput:=EV ops.toList act
 cases dr with
 | false =>
   simp only at h
   split at h
   ·rename_i s a b n hc
    obtain ⟨h1,h2⟩:=h
    refine YF hc hF fun bb hb act' hk hF'=>hg _ hp C1 w act' ?_ AQ hH hF' (.refl _ _ _) hk
    cases bb with
    | true =>
      have:=h1.1 (by unfold Yl Em;simp [hb rfl])
      simpa only [Aq] using this
    | false =>
      have:=h2 () trivial
      simpa only [Aq] using this
   ·split at h
    ·rename_i z hz
     simp only [lF,A8,Aq] at h
     refine YG (lo:=S.lo) hz hH hF fun act' w' hk hH' hF' ht=>hg _ _ C1 w' act' h ?_ hH' hF' ht hk
     unfold XJ
     rw [IU,List.length_set]
     exact AQ
    ·exact VR hS hok.1.1 AQ hH hF h hput hds hg
 | true =>
   have h2:=hok.1.2
   simp only [Bool.and_eq_true] at h2
   simp only at h
   have h3:=hok.2
   simp only [Bool.and_eq_true] at h3
   split at h
   ·split at h
    ·rename_i hsel
     exact VS hS hm hsel (ED h2.2) AQ hH hF h hput hds hg
    ·exact h.elim
   split at h
   ·rename_i hsw
    split at h
    ·rename_i hn
     have h4:=h3.2
     have htry:ir ops.toList=true:=by
      unfold ay at hn
      split at hn
      ·assumption
      ·cases hn
     rw [htry] at h4
     exact YE hS hm h4 AQ hH hF (ED h2.2) h hput hds hg
    split at h
    ·exact ND hS hm hok.1.1 h2.1 (ED h2.2) AQ hH hF h hput hds hg
    ·rename_i hn
     have h4:=h3.1.2
     have htry:kB ops.toList=true:=by
      unfold az at hn
      split at hn
      ·assumption
      ·cases hn
     rw [htry] at h4
     exact Ta hS hm h4 AQ hH hF (ED h2.2) h hput hds hg
   ·rename_i z hz
    split at h
    ·rename_i hb
     rw [Aq] at h
     exact dZ hS hm (.of hz h3.1.1) AQ (by simpa [Nat.blt_eq] using hb) hH hF h hput hds hg
    ·exact h.elim
theorem dD (hS:SumsOK P S) (hm:P.follows .mixedOrders=true) {U:Nat} {I:Cz}:∀ (c:Code),Cu c=true->Snd P S U I c:=by
 intro c
 induction c with
 | skip =>
   intro _ ro rm R fr hp Qv C w act Q AQ hH hF hro h hgoal
   exact wpIn_skip (hgoal .normal fr hp C w act h AQ hH hF (.refl _ _ _) (.refl _ _ _ _))
 | region id ops dr =>
   intro hok ro rm R fr hp Qv C w act Q AQ hH hF hro h hgoal
   exact Y2 hS hm hok AQ hH hF h fun fr' hp' C' w' act' h1 h2 h3 h4 h5 h6=>hgoal .normal fr' hp' C' w' act' h1 h2 h3 h4 h5 (h6.kept _ _)
 | seq a b iha ihb =>
   intro hok ro rm R fr hp Qv C w act Q AQ hH hF hro h hgoal
   simp only [Cu,Bool.and_eq_true] at hok
   simp only [Hj] at h
   cases hcut:AL I (qb b) with
   | some x =>
     obtain ⟨nl,ann⟩:=x
     rw [hcut] at h
     dsimp only at h
     obtain ⟨ha,hb⟩:=h
     refine wpIn_seq (iha hok.1 ro rm R fr hp _ C w act _ AQ hH hF hro ha ?_)
     intro e fr' hp' C' w' act' h1 h2 h3 h4 h5 h6
     have h6':=h6.sub (W':=EY (.seq a b)) fun t ht=>(Ij ht).1
     cases e with
     | normal =>
       obtain ⟨g,hg,_,hle⟩:=UH h1
       obtain ⟨C3,h7,h8,h9,h10⟩:=hle C' w' h3 h2
       have hb:=hb g hg
       simp only [Ae,A8] at hb
       exact ihb hok.2 ro rm R _ _ Qv C3 w' act' Q h9 h7 (h8 _ h4) (hro.tr h5 hH) hb ((hgoal.step (h5.trans h10) h6' h7).sub fun t ht=>(Ij ht).2)
     | exit id=>exact hgoal (.exit id) fr' hp' C' w' act' h1 h2 h3 h4 h5 h6'
     | ret=>exact hgoal .ret fr' hp' C' w' act' h1 h2 h3 h4 h5 h6'
   | none =>
     rw [hcut] at h
     dsimp only at h
     refine wpIn_seq (iha hok.1 ro rm R fr hp _ C w act _ AQ hH hF hro h ?_)
     intro e fr' hp' C' w' act' h1 h2 h3 h4 h5 h6
     have h6':=h6.sub (W':=EY (.seq a b)) fun t ht=>(Ij ht).1
     cases e with
     | normal=>exact ihb hok.2 ro rm R fr' hp' Qv C' w' act' Q h2 h3 h4 (hro.tr h5 hH) h1 ((hgoal.step h5 h6' h3).sub fun t ht=>(Ij ht).2)
     | exit id=>exact hgoal (.exit id) fr' hp' C' w' act' h1 h2 h3 h4 h5 h6'
     | ret=>exact hgoal .ret fr' hp' C' w' act' h1 h2 h3 h4 h5 h6'
 | cond c a b iha ihb =>
   intro hok ro rm R fr hp Qv C w act Q AQ hH hF hro h hgoal
   simp only [Cu,Bool.and_eq_true] at hok
   simp only [Hj] at h
   have hga:=hgoal.sub (W':=EY a) fun t ht=>(Ij ht).1
   have hgb:=hgoal.sub (W':=EY b) fun t ht=>(Ij ht).2
   split at h
   ·rename_i d
    unfold KD at h
    have hd:=(hF.get d).1
    split at h
    ·rename_i hv
     rw [hv] at hd
     refine wpIn_cond_true (c:=.tmp d) ?_ (iha hok.1 ro rm R fr hp Qv C w act Q AQ hH hF hro h hga)
     show act.tmps.getD d undef=_
     generalize act.tmps.getD d undef=u at hd;cases hd;rfl
    ·rename_i hv
     rw [hv] at hd
     refine wpIn_cond_false (c:=.tmp d) ?_ (ihb hok.2 ro rm R fr hp Qv C w act Q AQ hH hF hro h hgb)
     show act.tmps.getD d undef=_
     generalize act.tmps.getD d undef=u at hd;cases hd;rfl
    ·rename_i t hv
     rw [hv] at hd
     have hvt:act.tmps.getD d undef=.bool t:=by generalize act.tmps.getD d undef=u at hd;cases hd;rfl
     refine wpIn_cond_split (c:=.tmp d) hvt (fun ht=>?_) (fun ht=>?_)
     ·have h1:=h.1 ht
      rw [Aq] at h1
      exact iha hok.1 ro rm R _ hp Qv C w act Q AQ hH (hF.known (a:=.lb true) (.plain (by rw [hvt,ht];exact .lb _) trivial)) hro h1 hga
     ·have h1:=h.2 ht
      rw [Aq] at h1
      exact ihb hok.2 ro rm R _ hp Qv C w act Q AQ hH (hF.known (a:=.lb false) (.plain (by rw [hvt,ht];exact .lb _) trivial)) hro h1 hgb
    ·exact h.elim
   ·exact wpIn_cond_true rfl (iha hok.1 ro rm R fr hp Qv C w act Q AQ hH hF hro h hga)
   ·exact wpIn_cond_false rfl (ihb hok.2 ro rm R fr hp Qv C w act Q AQ hH hF hro h hgb)
   ·exact h.elim
 | block id c ih =>
   intro hok ro rm R fr hp Qv C w act Q AQ hH hF hro h hgoal
   simp only [Hj] at h
   refine wpIn_block (ih hok ro rm R fr hp _ C w act _ AQ hH hF hro h ?_)
   intro e fr' hp' C' w' act' h1 h2 h3 h4 h5 h6
   cases e with
   | normal=>exact hgoal .normal fr' hp' C' w' act' h1 h2 h3 h4 h5 h6
   | exit j =>
     simp only at h1
     show (if j=id then Q .normal act' w' else Q (.exit j) act' w')
     split at h1
     ·rename_i hj
      rw [if_pos (Nat.eq_of_beq_eq_true hj).symm]
      exact hgoal .normal fr' hp' C' w' act' h1 h2 h3 h4 h5 h6
     ·rename_i hj
      rw [if_neg (fun e=>by subst e;simp at hj)]
      exact hgoal (.exit j) fr' hp' C' w' act' h1 h2 h3 h4 h5 h6
   | ret=>exact hgoal .ret fr' hp' C' w' act' h1 h2 h3 h4 h5 h6
 | loop c ih =>
   intro hok ro rm R fr hp Qv C w act Q AQ hH hF hro h hgoal
   simp only [Hj] at h
   split at h
   ·exact iD (ih hok) U AQ hH hF hro h hgoal
   ·rename_i nils ann hann
    obtain ⟨fr,hp,C1,h,AQ,hH,hF,htr⟩:=JO h AQ hH hF
    obtain ⟨h0,h3⟩:=h
    obtain ⟨g,h1,_,h2⟩:=UH h0
    exact nT (ih hok) (A:=ann fr hp) AQ hH hF hro ⟨g,h1,h2⟩ (fun g hg=>by have:=h3 g hg;simp only [Ae,A8] at this;exact this) (hgoal.step htr (.refl _ _ _ _) hH)
 | rangeFunc g ps a b iha ihb =>
   intro hok ro rm R fr hp Qv C w act Q AQ hH hF hro h hgoal
   simp only [Cu,Bool.and_eq_true] at hok
   exact dK hS (iha hok.1) (ihb hok.2) AQ hH hF hro h hgoal
 | exit id =>
   intro _ ro rm R fr hp Qv C w act Q AQ hH hF hro h hgoal
   exact wpIn_exit (hgoal (.exit id) fr hp C w act h AQ hH hF (.refl _ _ _) (.refl _ _ _ _))
 | ret =>
   intro _ ro rm R fr hp Qv C w act Q AQ hH hF hro h hgoal
   exact wpIn_ret (hgoal .ret fr hp C w act h AQ hH hF (.refl _ _ _) (.refl _ _ _ _))
 | _ =>
   intro _ ro rm R fr hp Qv C w act Q AQ hH hF hro h hgoal
   exact h.elim
theorem Oa {R:AV->A0->Prop} {fr:List AV} {tm:Array Value} {F:ResultVar->Sem Value} (hF1:∀ t,F (.tmp t)=pure (tm.getD t undef)) (hF2:∀ a t,F (.cell a t)=(do loadVar t (<- asAddr (tm.getD a undef)))) (hH:HR C hp w) (hF:FR [] C w fr tm) :
  ∀ {l:List ResultVar} {k:List AV->VC},(TY P fr hp l k).sat R->∃ bs vs,(k bs).sat R/\RelL C w bs vs/\(l.mapM F).run P w=.ok vs w
 | [],k,h=>⟨[],[],h,.nil,by simp⟩
 | .tmp t::l,k,h=>by
   obtain ⟨bs,vs,h1,h2,h3⟩:=Oa hF1 hF2 hH hF (l:=l) h
   refine ⟨_,tm.getD t undef::vs,h1,.cons _ _ _ _ (hF.get t).1 h2,?_⟩
   rw [List.mapM_cons,hF1,Sem.run_bind,Sem.run_pure,Result.andThen_ok,Sem.run_bind,h3,Result.andThen_ok,Sem.run_pure]
 | .cell a ty::l,k,h=>by
   simp only [TY] at h
   split at h
   ·rename_i x hx
    obtain ⟨bs,vs,h1,h2,h3⟩:=Oa hF1 hF2 hH hF (l:=l) h
    obtain ⟨u,hu,hr⟩:=VH (P:=P) hH (fun _ _=>rfl) (hF.get a).1 hx
    have hp':∃ ad,tm.getD a undef=.pointer (some ad):=by
     have hra:=(hF.get a).1
     generalize A4 fr a=b at hra hx
     generalize tm.getD a undef=v at hra
     cases hra<;>first|exact ⟨_,rfl⟩|(simp only [Fe] at hx;split at hx<;>cases hx;done)|simp [Fe] at hx
    obtain ⟨ad,hp'⟩:=hp'
    rw [hp'] at hu
    have hu':(loadVar ty ad).run P w=.ok u w:=by simpa [Instr.loadAt,Instr.sureAddr] using hu
    refine ⟨_,u::vs,h1,.cons _ _ _ _ hr h2,?_⟩
    have hcell:(F (.cell a ty)).run P w=.ok u w:=by
     rw [hF2,hp'];simpa [asAddr] using hu'
    rw [List.mapM_cons,Sem.run_bind,hcell,Result.andThen_ok,Sem.run_bind,h3,Result.andThen_ok,Sem.run_pure]
   ·exact h.elim
theorem Sr (hS:SumsOK P S) (hm:P.follows .mixedOrders=true) {U:Nat} {I:Cz} {f:FuncId} {fn:Func} {c:Code} (hf:P.funcs[f]? = some fn) (hb:fn.body=some c) (hok:Cu c=true) {R:AV->A0->Prop} {args:List AV} {vs:List Value}
  (AQ:S.lo<=hp.length) (hH:HR C hp w) (ha:RelL C w args vs) (hng:∀ t,EW (A4 args t)) (hn:args.length<=fn.ntmps) (h:(wpF P S U I fn args hp).sat R) :
  Calls P f ⟨vs⟩ w fun e w'=>∃ v a hp' C',e=.returned v/\R a hp'/\S.lo<=hp'.length/\HR C' hp' w'/\Rel C' w' a v/\Tr S.lo C w C' w':=by
 refine callsIn_wide.1 (callsIn_of_wp_marks (F:=Fa none) (n:=0) hf hb trivial ?_ rfl)
 unfold wpF at h
 simp only [hb,Ae] at h
 have hpad:∀ (l:List AV) (n:Nat),l.length<=n->KI l n=l++List.replicate (n-l.length) (.tup []):=by
  intro l
  induction l with
  | nil =>
    intro n _
    induction n with
    | zero=>rfl
    | succ n ih=>simp only [KI,ih (by simp)];simp [List.replicate_succ]
  | cons a l ih =>
    intro n hn
    cases n with
    | zero=>simp at hn
    | succ n=>simp only [KI,ih n (by simpa using hn)];simp
 rw [hpad _ _ hn] at h
 have hle:=ha.len
 have hF:FR [] C w (args++List.replicate (fn.ntmps-args.length) (.tup [])) ((⟨vs⟩:Array Value)++Array.replicate (fn.ntmps-(⟨vs⟩:Array Value).size) undef):=by
  refine ⟨by simp [hle],fun t=>?_⟩
  rw [DX,List.getD_eq_getElem?_getD,Array.getD_eq_getD_getElem?]
  by_cases ht:t<args.length
  ·rw [List.getElem?_append_left ht,Array.getElem?_append_left (by simp;omega)]
   have h1:args[t]? = some (args[t]'ht):=List.getElem?_eq_getElem _
   obtain ⟨v,h2,h3⟩:=ha.get h1
   rw [h1]
   simp only [List.getElem?_toArray,h2,Option.getD_some]
   refine .plain h3 ?_
   have:=hng t
   rwa [DX,List.getD_eq_getElem?_getD,h1] at this
  ·rw [List.getElem?_append_right (by omega),Array.getElem?_append_right (by simp;omega)]
   refine .plain ?_ ?_
   ·have e1:((List.replicate (fn.ntmps-args.length) (AV.tup []))[t-args.length]?).getD (.tup [])=.tup []:=by
     rw [List.getElem?_replicate];split<;>rfl
    have e2:((Array.replicate (fn.ntmps-(⟨vs⟩:Array Value).size) undef)[t-(⟨vs⟩:Array Value).size]?).getD undef=undef:=by
     rw [Array.getElem?_replicate];split<;>rfl
    rw [e1,e2]
    exact .tup _ _ .nil
   ·rw [List.getElem?_replicate];split<;>trivial
 refine dD hS hm c hok none 0 R _ hp _ C w ⟨_,[]⟩ _ AQ hH hF (fun l hl=>by cases hl) h ?_
 intro e fr' hp' C' w' act' h1 h2 h3 h4 h5 h6
 have key:(TY P fr' hp' fn.results.toList fun l=>oX l hp').sat R->LeavesInM (Fa none) 0 P fn act'.tmps (fun e w'=>∃ v a hp' C',e=.returned v/\R a hp'/\S.lo<=hp'.length/\HR C' hp' w'/\Rel C' w' a v/\Tr S.lo C w C' w') act'.defers .returning w':=by
  intro hk
  obtain ⟨ms,hms,hnd,hat⟩:=h6.dfs
  rw [hms,List.append_nil]
  clear hms
  revert h3 h4 h5 hat
  generalize w'=w1
  intro h3 h4 h5 hat
  induction ms generalizing w1 with
  | cons b ms ih =>
    have hb:=hat b (List.mem_cons_self ..)
    rw [List.nodup_cons] at hnd
    have hcb:=CB.putObj (.deferred none) hb.2 rfl
    refine ⟨by simp,.inl ⟨b,_,rfl,run_takeDeferred hb.2,ih hnd.2 _ (h3.cb hcb) (h4.cb hcb) (h5.putObj hb.1 _) fun c hc=>?_⟩⟩
    have h7:=hat c (List.mem_cons_of_mem _ hc)
    exact ⟨h7.1,(World.putObj_heap_other fun e=>hnd.1 (by rw [<- e];exact hc)).trans h7.2⟩
  | nil =>
  have hres:∃ F:ResultVar->Sem Value,(∀ t,F (.tmp t)=pure (act'.tmps.getD t undef))/\(∀ a t,F (.cell a t)=(do loadVar t (<- asAddr (act'.tmps.getD a undef)))) /\
    results fn act'.tmps=(do let vs <- fn.results.mapM F;pure (if h:vs.size=1 then vs[0] else .tuple vs)) :=
   ⟨fun x=>match x with|.tmp t=>pure (act'.tmps.getD t undef)|.cell a t=>do loadVar t (<- asAddr (act'.tmps.getD a undef)),fun _=>rfl,fun _ _=>rfl,rfl⟩
  obtain ⟨F,hF1,hF2,hres⟩:=hres
  obtain ⟨bs,us,h7,h8,h9⟩:=Oa (P:=P) hF1 hF2 h3 h4 hk
  have hrun:(results fn act'.tmps).run P w1=.ok (if h:us.length=1 then us[0] else .tuple ⟨us⟩) w1:=by
   rw [hres]
   have e1:fn.results.mapM F=(List.toArray <$> fn.results.toList.mapM F):=by
    rw [<- List.mapM_toArray]
   rw [e1]
   simp [h9]
  refine ⟨_,hrun,?_⟩
  unfold oX at h7
  split at h7
  ·rename_i a
   cases h8 with
   | cons _ _ v _ h10 h11 =>
     cases h11
     rw [AT] at h7
     exact ⟨_,a,hp',C',rfl,h7,h2,h3,by simpa using h10,h5⟩
  ·rename_i hne
   rw [AK] at h7
   have:us.length≠1:=by
    rw [<- h8.len]
    intro hl
    obtain ⟨a,rfl⟩:=List.length_eq_one_iff.1 hl
    exact hne a rfl
   rw [dif_neg this]
   exact ⟨_,.tup bs,hp',C',rfl,h7,h2,h3,.tup _ _ h8,h5⟩
 cases e with
 | normal=>exact key h1
 | ret=>exact key h1
 | exit id=>exact h1.elim
end
end Abs
end Go.Proofs.YtccgngldoinokaaGreat

namespace Go.Proofs.YtccgngldoinokaaGreat
namespace Abs
open Go Go.RowKit
noncomputable section
def forceLDP:{g:List AV->(List AV->VC)->VC // forceLD=g}:=⟨_,by delta forceLD;rfl⟩
def Jf:List AV->(List AV->VC)->VC:=forceLDP.1
theorem Da:Jf=forceLD:=forceLDP.2.symm
def forceHP:{g:A0->(A0->VC)->VC // forceH=g}:=⟨_,by delta forceH;rfl⟩
def Ak:A0->(A0->VC)->VC:=forceHP.1
theorem AN:Ak=forceH:=forceHP.2.symm
def needsP:{g:List Cd->VC->VC // needs=g}:=⟨_,by delta needs;rfl⟩
def Kg:List Cd->VC->VC:=needsP.1
theorem FG:Kg=needs:=needsP.2.symm
def needsCP:{g:Bool->List Cd->VC->VC // needsC=g}:=⟨_,by delta needsC;rfl⟩
def U0:Bool->List Cd->VC->VC:=needsCP.1
theorem YV:U0=needsC:=needsCP.2.symm
def forceTP:{g:List Cnd->(List Cnd->VC)->VC // forceT=g}:=⟨_,by delta forceT;rfl⟩
def UF:List Cnd->(List Cnd->VC)->VC:=forceTP.1
theorem Io:UF=forceT:=forceTP.2.symm
def lenKP:{g:List Cnd->(Nat->VC)->VC // lenK=g}:=⟨_,by delta lenK;rfl⟩
def jk:List Cnd->(Nat->VC)->VC:=lenKP.1
theorem Lk:jk=lenK:=lenKP.2.symm
def topMP:{g:Nat->List AV->Nat->(List AV->VC)->VC // topM=g}:=⟨_,by delta topM;rfl⟩
def rl:Nat->List AV->Nat->(List AV->VC)->VC:=topMP.1
theorem Hn:rl=topM:=topMP.2.symm
def setPsP:{g:List Nat->List AV->List AV->(List AV->VC)->VC // setPs=g}:=⟨_,by delta setPs;rfl⟩
def iM:List Nat->List AV->List AV->(List AV->VC)->VC:=setPsP.1
theorem GZ:iM=setPs:=setPsP.2.symm
def misOP:{g:Nat->Nat->List AV->List AV->Option (Nat × Nat) // misO=g}:=⟨_,by delta misO;rfl⟩
def se:Nat->Nat->List AV->List AV->Option (Nat × Nat):=misOP.1
theorem jQ:se=misO:=misOP.2.symm
def leAFP:{g:Nat->Nat->A0->A0->AV->AV->VC->VC // leAF=g}:=⟨_,by delta leAF;rfl⟩
def jt:Nat->Nat->A0->A0->AV->AV->VC->VC:=leAFP.1
theorem WZ:jt=leAF:=leAFP.2.symm
def jp (lo n:Nat) (src tgt:A0) (a b:Blk) (k:VC):VC :=
 match b with
 | .dead=>(match Nat.ble lo n with|true=>k|false=>(match a with|.dead=>k|_=>.fail))
 | .cells t m=>(match a with|.cells t' l=>(match decide (t=t') with|true=>KK (jt 6 lo src tgt) l m k|false=>.fail)|_=>.fail)
 | .row e sz n el=>(match a with
   | .row e' sz' n' el'=>(match decide (e=e'/\sz=sz') with|true=>.need ⟨fun z:Nat × Nat=>z.1=z.2,(n'.val,n.val)⟩ (.need ⟨Ar,(n.val,el',el)⟩ k)|false=>.fail)
   | _=>.fail)
 | .mat t w n f=>(match a with
   | .mat t' w' n' f'=>(match decide (t=t'/\w=w') with|true=>.need ⟨fun z:Nat × Nat=>z.1=z.2,(n'.val,n.val)⟩ (.need ⟨m8,(n.val,w,f',f)⟩ k)|false=>.fail)
   | _=>.fail)
 | .rows e e1 sz n fz ln el ho=>(match a with
   | .rows e' e1' sz' n' fz' ln' el' ho'=>(match decide (e=e'/\e1=e1'/\sz=sz'),ho,ho' with
     | true,none,none=>.need ⟨fun z:Nat × Nat=>z.1=z.2,(n'.val,n.val)⟩ (.need ⟨Hi,(n.val,none,(fz',ln',el'),(fz,ln,el))⟩ k)
     | true,some (q,oh),some (q',oh')=>(match oh,oh' with
       | none,_=>.need ⟨fun z:Nat × Nat=>z.1=z.2,(n'.val,n.val)⟩ (.need ⟨fun z:Nat × Nat=>z.1=z.2,(q',q)⟩ (.need ⟨Hi,(n.val,some q,(fz',ln',el'),(fz,ln,el))⟩ k))
       | some h,some h'=>(match Nat.beq h h'&&AB tgt h with
         | true=>.need ⟨fun z:Nat × Nat=>z.1=z.2,(n'.val,n.val)⟩ (.need ⟨fun z:Nat × Nat=>z.1=z.2,(q',q)⟩ (.need ⟨Hi,(n.val,some q,(fz',ln',el'),(fz,ln,el))⟩ k))
         | false=>.fail)
       | some _,none=>.fail)
     | _,_,_=>.fail)
   | _=>.fail)
 | .tab n sz el=>(match a with
   | .tab n' sz' el'=>(match decide (sz=sz') with|true=>.need ⟨fun z:Nat × Nat=>z.1=z.2,(n'.val,n.val)⟩ (.need ⟨Ar,(n.val,el',el)⟩ k)|false=>.fail)
   | _=>.fail)
theorem jo:jp=jr:=by
 funext lo n src tgt a b k
 unfold jp jr
 rw [WZ]
 rfl
def leHFn (lo:Nat) (src tgt:A0):Nat->A0->A0->VC->VC
 | _,[],[],k=>k
 | n,_::_,[],k=>(match Nat.ble lo n with|true=>k|false=>.fail)
 | n,a::l,b::m,k=>jp lo n src tgt a b (leHFn lo src tgt (n+1) l m k)
 | _,[],_::_,_=>.fail
theorem WX (lo:Nat) (src tgt:A0):∀ (n:Nat) (l m:A0) (k:VC),leHFn lo src tgt n l m k=Nb lo src tgt n l m k
 | n,[],[],k=>by simp only [leHFn,Nb]
 | n,_::_,[],k=>by simp only [leHFn,Nb];rfl
 | n,a::l,b::m,k=>by simp only [leHFn,Nb,jo,WX lo src tgt (n+1) l m k]
 | n,[],_::_,k=>by simp only [leHFn,Nb]
def leHFnP:{g:Nat->A0->A0->Nat->A0->A0->VC->VC // leHFn=g}:=⟨_,by delta leHFn;rfl⟩
def jm:Nat->A0->A0->Nat->A0->A0->VC->VC:=leHFnP.1
theorem eJ:jm=leHFn:=leHFnP.2.symm
def bq (lo:Nat) (fr:List AV) (hp:A0) (s:AS):VC:=KK (jt 6 lo hp s.hp) fr s.fr (jm lo hp s.hp 0 hp s.hp .done)
theorem WV (lo:Nat) (fr:List AV) (hp:A0) (s:AS):bq lo fr hp s=eH lo fr hp s:=by
 unfold bq eH
 rw [WZ,eJ,WX]
def Il (hp:A0) (k:Nat->VC):VC:=match hp with
 | []=>k 0
 | [_]=>k 1
 | [_,_]=>k 2
 | [_,_,_]=>k 3
 | [_,_,_,_]=>k 4
 | [_,_,_,_,_]=>k 5
 | [_,_,_,_,_,_]=>k 6
 | [_,_,_,_,_,_,_]=>k 7
 | [_,_,_,_,_,_,_,_]=>k 8
 | [_,_,_,_,_,_,_,_,_]=>k 9
 | [_,_,_,_,_,_,_,_,_,_]=>k 10
 | [_,_,_,_,_,_,_,_,_,_,_]=>k 11
 | [_,_,_,_,_,_,_,_,_,_,_,_]=>k 12
 | [_,_,_,_,_,_,_,_,_,_,_,_,_]=>k 13
 | [_,_,_,_,_,_,_,_,_,_,_,_,_,_]=>k 14
 | [_,_,_,_,_,_,_,_,_,_,_,_,_,_,_]=>k 15
 | [_,_,_,_,_,_,_,_,_,_,_,_,_,_,_,_]=>k 16
 | l=>k l.length
theorem Cw (hp:A0) (k:Nat->VC):Il hp k=k hp.length:=by
 unfold Il
 split<;>rfl
def nC (lo:Nat) (f2 fr:List AV) (hp:A0) (K:List AV->A0->VC):VC:=match se lo hp.length f2 fr with
 | none=>K fr hp
 | some (i,j)=>Jf (swA.swL i j fr) fun fr'=>Ak (tc i j hp) fun hp'=>K fr' hp'
theorem Zd (lo:Nat) (f2 fr:List AV) (hp:A0) (K:List AV->A0->VC):nC lo f2 fr hp K=yN lo f2 fr hp K:=by
 unfold nC yN
 rw [jQ,Da,AN]
 rfl
def ku (lo:Nat) (A:Ann) (m:Option Nat) (fr:List AV) (hp:A0):VC :=
 .ex (A:=A) A.dat m fun g=>Av (A.st g).fr fun f2=>Ak (A.st g).hp fun h2=>nC lo f2 fr hp fun fr hp=>bq lo fr hp ⟨f2,h2⟩
theorem KA (lo:Nat) (A:Ann) (m:Option Nat) (fr:List AV) (hp:A0):ku lo A m fr hp=w_ lo A m fr hp:=by
 unfold ku w_
 congr 1
 funext g
 simp only [AN,Zd,WV]
def qL (lo:Nat) (A:Ann) (i:Nat) (fr:List AV) (hp:A0):VC :=
 .ex (A:=A) A.dat none fun g=>.need ⟨fun z:Nat × Nat=>z.1=z.2,(A.mu g,i)⟩ (Av (A.st g).fr fun f2=>Ak (A.st g).hp fun h2=>nC lo f2 fr hp fun fr hp=>bq lo fr hp ⟨f2,h2⟩)
theorem K_ (lo:Nat) (A:Ann) (i:Nat) (fr:List AV) (hp:A0):qL lo A i fr hp=fA lo A i fr hp:=by
 unfold qL fA
 congr 1
 funext g
 simp only [AN,Zd,WV]
def Tv (t x c:Nat) (fr:List AV) (hp:A0) (K:A0->VC):VC:=match A4 fr t,Nat.beq (c % 64) 5 with
 | .own i o,true=>(match A3 hp i with
   | .cells ty l=>(match Fp (A4 l (o+c / 64)) with
     | true=>Av (Ay l (o+c / 64) (.row hp.length)) fun l'=>Ak (HC (AM hp i (.cells ty l')) [.row (x % 65536) (x / 65536+1) (.lit 0) (fun _=>[])]) fun hp'=>K hp'
     | false=>.fail)
   | _=>.fail)
 | _,_=>.fail
theorem R5 (t x c:Nat) (fr:List AV) (hp:A0) (K:A0->VC):Tv t x c fr hp K=Lb t x c fr hp K:=by
 unfold Tv Lb
 simp only [AN]
 rfl
def nilKn:List (Nat × TypeId × Nat)->List AV->A0->(List AV->A0->VC)->VC
 | [],fr,hp,K=>K fr hp
 | (t,e,sz)::l,fr,hp,K=>(match Fp (A4 fr t),sz with
   | true,_+1=>Il hp fun n=>EF fr t (.row n) fun fr'=>Ak (HC hp [.row e sz (.lit 0) (fun _=>[])]) fun hp'=>nilKn l fr' hp' K
   | _,0=>Tv t e 5 fr hp fun hp'=>nilKn l fr hp' K
   | _,_=>nilKn l fr hp K)
theorem H2:∀ (l:List (Nat × TypeId × Nat)) (fr:List AV) (hp:A0) (K:List AV->A0->VC),nilKn l fr hp K=KJ l fr hp K
 | [],_,_,_=>rfl
 | (t,e,sz)::l,fr,hp,K=>by
   have ih:∀ fr hp,nilKn l fr hp K=KJ l fr hp K:=fun fr hp=>H2 l fr hp K
   simp only [nilKn,KJ,AN,Cw,R5,ih]
   rfl
def nilKnP:{g:List (Nat × TypeId × Nat)->List AV->A0->(List AV->A0->VC)->VC // nilKn=g}:=⟨_,by delta nilKn;rfl⟩
def YS:List (Nat × TypeId × Nat)->List AV->A0->(List AV->A0->VC)->VC:=nilKnP.1
theorem Gf:YS=nilKn:=nilKnP.2.symm
def shiftAP:{g:Nat->AV->AV // shiftA=g}:=⟨_,by delta shiftA;rfl⟩
def TP:Nat->AV->AV:=shiftAP.1
theorem F4:TP=shiftA:=shiftAP.2.symm
def shiftA_shiftLP:{g:Nat->List AV->List AV // shiftA.shiftL=g}:=⟨_,by delta shiftA.shiftL;rfl⟩
def JB:Nat->List AV->List AV:=shiftA_shiftLP.1
theorem LD:JB=shiftA.shiftL:=shiftA_shiftLP.2.symm
def shBP:{g:AV->Bool // shB=g}:=⟨_,by delta shB;rfl⟩
def zS:AV->Bool:=shBP.1
theorem oB:zS=shB:=shBP.2.symm
def shB_shBLP:{g:List AV->Bool // shB.shBL=g}:=⟨_,by delta shB.shBL;rfl⟩
def Qn:List AV->Bool:=shB_shBLP.1
theorem TQ:Qn=shB.shBL:=shB_shBLP.2.symm
def plainAP:{g:AV->Bool // plainA=g}:=⟨_,by delta plainA;rfl⟩
def aQ:AV->Bool:=plainAP.1
theorem YK:aQ=plainA:=plainAP.2.symm
def plainA_plainLP:{g:List AV->Bool // plainA.plainL=g}:=⟨_,by delta plainA.plainL;rfl⟩
def JK:List AV->Bool:=plainA_plainLP.1
theorem LM:JK=plainA.plainL:=plainA_plainLP.2.symm
def FU (b:Nat):A0->A0
 | []=>[]
 | .cells t c::l=>.cells t (JB b c)::FU b l
 | x::l=>x::FU b l
theorem BN (b:Nat):∀ l,FU b l=EE b l
 | []=>rfl
 | .cells t c::l=>by simp only [FU,EE,LD,BN b l]
 | .row _ _ _ _::l=>by simp only [FU,EE,BN b l]
 | .mat _ _ _ _::l=>by simp only [FU,EE,BN b l]
 | .tab _ _ _::l=>by simp only [FU,EE,BN b l]
 | .rows _ _ _ _ _ _ _ _::l=>by simp only [FU,EE,BN b l]
 | .dead::l=>by simp only [FU,EE,BN b l]
def FX:A0->Bool
 | []=>true
 | .dead::l=>FX l
 | .cells _ c::l=>JK c&&FX l
 | .row _ _ _ _::l=>FX l
 | _::_=>false
theorem IZ:∀ l,FX l=Dg l
 | []=>rfl
 | .cells t c::l=>by simp only [FX,Dg,LM,IZ l]
 | .row _ _ _ _::l=>by simp only [FX,Dg,IZ l]
 | .mat _ _ _ _::l=>by simp only [FX,Dg]
 | .tab _ _ _::l=>by simp only [FX,Dg]
 | .rows _ _ _ _ _ _ _ _::l=>by simp only [FX,Dg]
 | .dead::l=>by simp only [FX,Dg,IZ l]
def Ix:A0->Bool
 | []=>true
 | .dead::l=>Ix l
 | .cells _ c::l=>Qn c&&Ix l
 | .row _ _ _ _::l=>Ix l
 | .tab _ _ _::l=>Ix l
 | _::_=>false
theorem JD:∀ l,Ix l=HX l
 | []=>rfl
 | .cells t c::l=>by simp only [Ix,HX,TQ,JD l]
 | .row _ _ _ _::l=>by simp only [Ix,HX,JD l]
 | .mat _ _ _ _::l=>by simp only [Ix,HX]
 | .tab _ _ _::l=>by simp only [Ix,HX,JD l]
 | .rows _ _ _ _ _ _ _ _::l=>by simp only [Ix,HX]
 | .dead::l=>by simp only [Ix,HX,JD l]
def Ny (args:List AV) (res:AV) (new:A0):Bool:=match ownIn.ownInL args with|false=>zS res&&Ix new|true=>aQ res&&FX new
theorem FC:Ny=Kx:=by
 funext args res new
 unfold Ny Kx
 simp only [oB,JD,YK,IZ]
 rfl
def vcCn (S:Sums) (k:Nat) (c:Bool) (r:AR) (hp:A0) (K:A0->AV->VC):VC :=
 match r with
 | .val a=>Ct a fun a'=>K hp (.gd k a')
 | .need p r=>.need (p.under c) (vcCn S k c r hp K)
 | .br b t e=>.branch b (vcCn S k c t hp K) (vcCn S k c e hp K)
 | .blk b mk=>Il hp fun n=>Ak (HC hp [b]) fun hp'=>K hp' (.gd k (mk n))
 | .call f args=>(match AL S.two f with
   | some _=>.fail
   | none=>(match AL S.one f with
     | some s1=>Jf (WN hp args) fun args'=>(match s1 args' with
       | some ⟨pre,res,new⟩=>(match Ny args res new with
         | true=>U0 c pre (U0 c (Gk args new) (Il hp fun n=>Ak (HC hp (FU n new)) fun hp'=>Ct (TP n res) fun a=>K hp' (.gd k a)))
         | false=>.fail)
       | none=>.fail)
     | none=>.fail))
 | _=>.fail
theorem L9 (S:Sums) (k:Nat) (c:Bool):∀ (r:AR) (hp:A0) (K:A0->AV->VC),vcCn S k c r hp K=r.vcC S k c hp K
 | .fail,_,_=>rfl
 | .val a,_,_=>rfl
 | .need p r,hp,K=>by simp only [vcCn,AR.vcC,L9 S k c r hp K]
 | .br b t e,hp,K=>by simp only [vcCn,AR.vcC,L9 S k c t hp K,L9 S k c e hp K]
 | .blk b mk,hp,K=>by simp only [vcCn,AR.vcC,AN,Cw]
 | .upd _ _,_,_=>rfl
 | .grow _ _,_,_=>rfl
 | .frz _ _ _,_,_=>rfl
 | .call f args,hp,K=>by simp only [vcCn,AR.vcC,AN,Cw,Da,YV,FC,BN,F4];rfl
def vcCnP:{g:Sums->Nat->Bool->AR->A0->(A0->AV->VC)->VC // vcCn=g}:=⟨_,by delta vcCn;rfl⟩
def rk:Sums->Nat->Bool->AR->A0->(A0->AV->VC)->VC:=vcCnP.1
theorem Ur:rk=vcCn:=vcCnP.2.symm
end
end Abs
end Go.Proofs.YtccgngldoinokaaGreat

namespace Go.Proofs.YtccgngldoinokaaGreat
namespace Abs
open Go Go.RowKit
noncomputable section
abbrev FT:=List (List AV)
def AH:FT->List AV
 | []=>[]
 | c::t=>c++AH t
def WT:FT->Prop
 | []=>True
 | c::t=>(c.length<=16/\(t≠[]->c.length=16))/\WT t
def SV (t:FT):Nat->List AV :=
 List.rec (motive:=fun _=>Nat->List AV) (fun _=>[]) (fun c _ ih n=>Nat.rec (motive:=fun _=>List AV) c (fun m _=>ih m) n) t
theorem SU (n:Nat):SV [] n=[]:=rfl
theorem Yq (c:List AV) (t:FT):SV (c::t) 0=c:=rfl
theorem Yr (c:List AV) (t:FT) (n:Nat):SV (c::t) (n+1)=SV t n:=rfl
def H7 (t:FT) (j:Nat):AV:=A4 (SV t (Nat.div j 16)) (Nat.mod j 16)
def Y8 (l:List AV):Nat->AV->(List AV->VC)->VC :=
 List.rec (motive:=fun _=>Nat->AV->(List AV->VC)->VC) (fun _ _ _=>.fail)
  (fun x l ih n a k=>Nat.rec (motive:=fun _=>VC) (k (a::l)) (fun m _=>ih m a fun l'=>k (x::l')) n) l
theorem iN (n:Nat) (a:AV) (k:List AV->VC):Y8 [] n a k=.fail:=rfl
theorem dQ (x:AV) (l:List AV) (a:AV) (k:List AV->VC):Y8 (x::l) 0 a k=k (a::l):=rfl
theorem dR (x:AV) (l:List AV) (n:Nat) (a:AV) (k:List AV->VC):Y8 (x::l) (n+1) a k=Y8 l n a fun l'=>k (x::l'):=rfl
def Qq (t:FT):Nat->Nat->AV->(FT->VC)->VC :=
 List.rec (motive:=fun _=>Nat->Nat->AV->(FT->VC)->VC) (fun _ _ _ _=>.fail)
  (fun c t ih q r a k=>Nat.rec (motive:=fun _=>VC) (Y8 c r a fun c'=>k (c'::t)) (fun m _=>ih m r a fun t'=>k (c::t')) q) t
theorem dN (q r:Nat) (a:AV) (k:FT->VC):Qq [] q r a k=.fail:=rfl
theorem Y6 (c:List AV) (t:FT) (r:Nat) (a:AV) (k:FT->VC):Qq (c::t) 0 r a k=Y8 c r a fun c'=>k (c'::t):=rfl
theorem Y7 (c:List AV) (t:FT) (q r:Nat) (a:AV) (k:FT->VC):Qq (c::t) (q+1) r a k=Qq t q r a fun t'=>k (c::t'):=rfl
def Eu (t:FT) (d:Nat) (a:AV) (k:FT->VC):VC:=Qq t (Nat.div d 16) (Nat.mod d 16) a k
def HM (t:FT) (d:Option Nat) (a:AV) (k:FT->VC):VC :=
 match d with
 | none=>k t
 | some d=>Ec a fun a'=>Eu t d a' k
def mapT (f:Nat->Option AV):FT->(FT->VC)->VC
 | [],k=>k []
 | c::t,k=>Jf (mapR.mapRL f c) fun c'=>mapT f t fun t'=>k (c'::t')
def mapTP:{g:(Nat->Option AV)->FT->(FT->VC)->VC // mapT=g}:=⟨_,by delta mapT;rfl⟩
def bF:(Nat->Option AV)->FT->(FT->VC)->VC:=mapTP.1
theorem Hy:bF=mapT:=mapTP.2.symm
def cleanFT:FT->(FT->VC)->VC
 | [],k=>k []
 | c::t,k=>Kv c fun c'=>cleanFT t fun t'=>k (c'::t')
def cleanFTP:{g:FT->(FT->VC)->VC // cleanFT=g}:=⟨_,by delta cleanFT;rfl⟩
def Jo:FT->(FT->VC)->VC:=cleanFTP.1
theorem Ee:Jo=cleanFT:=cleanFTP.2.symm
section
variable {R:AV->A0->Prop}
theorem Wu (l m:List AV) (n:Nat):A4 (l++m) n=if n<l.length then A4 l n else A4 m (n-l.length):=by
 rw [DX,DX,DX]
 split
 ·rename_i h
  rw [List.getD_eq_getElem?_getD,List.getD_eq_getElem?_getD,List.getElem?_append_left h]
 ·rename_i h
  rw [List.getD_eq_getElem?_getD,List.getD_eq_getElem?_getD,List.getElem?_append_right (by omega)]
theorem kZ {l:List AV} {n:Nat} (h:l.length<=n):A4 l n=.tup []:=by
 rw [DX,List.getD_eq_getElem?_getD,List.getElem?_eq_none h];rfl
theorem VA {l m:List AV} {n:Nat} {a:AV}:Ay (l++m) n a=if n<l.length then Ay l n a++m else l++Ay m (n-l.length) a:=by
 rw [IT,IT,IT,List.set_append]
theorem cJ:∀ {t:FT},WT t->∀ q r,r<16->A4 (AH t) (16*q+r)=A4 (SV t q) r
 | [],_,q,r,_=>by rw [SU];rfl
 | c::t,hw,0,r,hr=>by
   rw [Yq]
   show A4 (c++AH t) (16*0+r)=A4 c r
   rw [Wu,Nat.mul_zero,Nat.zero_add]
   split
   ·rfl
   ·rename_i h
    by_cases ht:t=[]
    ·subst ht;rw [kZ (l:=c) (by omega)];rfl
    ·have:=hw.1.2 ht;omega
 | c::t,hw,q+1,r,hr=>by
   rw [Yr]
   show A4 (c++AH t) (16*(q+1)+r)=_
   rw [Wu]
   have h1:=hw.1.1
   rw [if_neg (by omega)]
   by_cases ht:t=[]
   ·subst ht;rw [SU];rfl
   ·have h16:=hw.1.2 ht
    rw [show 16*(q+1)+r-c.length=16*q+r by omega]
    exact cJ hw.2 q r hr
theorem Dr {t:FT} (hw:WT t) (j:Nat):H7 t j=A4 (AH t) j:=by
 unfold H7
 have h1:Nat.div j 16=j / 16:=rfl
 have h2:Nat.mod j 16=j % 16:=rfl
 rw [h1,h2,<- cJ hw _ _ (Nat.mod_lt _ (by decide)),Nat.div_add_mod]
theorem VB:∀ {l:List AV} {n:Nat} {a:AV} {k:List AV->VC},(Y8 l n a k).sat R->n<l.length/\(k (Ay l n a)).sat R
 | [],n,a,k,h=>by rw [iN] at h;exact h.elim
 | x::l,0,a,k,h=>by rw [dQ] at h;exact ⟨by simp,h⟩
 | x::l,n+1,a,k,h=>by
   rw [dR] at h
   obtain ⟨h1,h2⟩:=VB h
   exact ⟨by simp;omega,h2⟩
theorem Qp:∀ {t:FT} {q r:Nat} {a:AV} {k:FT->VC},WT t->(Qq t q r a k).sat R->t≠[]/\∃ t',WT t'/\t'≠[]/\AH t'=Ay (AH t) (16*q+r) a/\(k t').sat R
 | [],q,r,a,k,_,h=>by rw [dN] at h;exact h.elim
 | c::t,0,r,a,k,hw,h=>by
   rw [Y6] at h
   obtain ⟨h1,h2⟩:=VB h
   refine ⟨by simp,Ay c r a::t,⟨by rw [Ea];exact hw.1,hw.2⟩,by simp,?_,h2⟩
   show Ay c r a++AH t=Ay (c++AH t) (16*0+r) a
   rw [VA,if_pos (by omega),Nat.mul_zero,Nat.zero_add]
 | c::t,q+1,r,a,k,hw,h=>by
   rw [Y7] at h
   obtain ⟨h0,t',h1,h2,h3,h4⟩:=Qp hw.2 h
   have h16:=hw.1.2 h0
   refine ⟨by simp,c::t',⟨⟨hw.1.1,fun _=>h16⟩,h1⟩,by simp,?_,h4⟩
   show c++AH t'=Ay (c++AH t) (16*(q+1)+r) a
   rw [VA,if_neg (by omega),h3,show 16*(q+1)+r-c.length=16*q+r by omega]
theorem Ga {t:FT} {d:Nat} {a:AV} {k:FT->VC} (hw:WT t) (h:(Eu t d a k).sat R):∃ t',WT t'/\AH t'=Ay (AH t) d a/\(k t').sat R:=by
 obtain ⟨_,t',h1,_,h3,h4⟩:=Qp hw h
 refine ⟨t',h1,?_,h4⟩
 rw [h3,show 16*Nat.div d 16+Nat.mod d 16=d from Nat.div_add_mod d 16]
theorem dO {t:FT} {d:Option Nat} {a:AV} {k:FT->VC} (hw:WT t) (h:(HM t d a k).sat R):∃ t',WT t'/\AH t'=CT (AH t) d a/\(k t').sat R:=by
 cases d with
 | none=>exact ⟨t,hw,rfl,h⟩
 | some d =>
   simp only [HM,Dz] at h
   exact Ga hw h
theorem SC (f:Nat->Option AV):∀ (l m:List AV),mapR.mapRL f (l++m)=mapR.mapRL f l++mapR.mapRL f m
 | [],_=>rfl
 | a::l,m=>by simp [mapR.mapRL,SC f l m]
theorem JV (f:Nat->Option AV):∀ (l:List AV),(mapR.mapRL f l).length=l.length
 | []=>rfl
 | a::l=>by simp [mapR.mapRL,JV f l]
theorem Ld {f:Nat->Option AV}:∀ {t:FT} {k:FT->VC},WT t->(mapT f t k).sat R->∃ t',WT t'/\(t'=[]↔t=[])/\AH t'=mapR.mapRL f (AH t)/\(k t').sat R
 | [],k,_,h=>⟨[],trivial,by simp,rfl,h⟩
 | c::t,k,hw,h=>by
   simp only [mapT,Da,AK] at h
   obtain ⟨t',h1,h2,h3,h4⟩:=Ld hw.2 h
   refine ⟨mapR.mapRL f c::t',⟨⟨by rw [JV];exact hw.1.1,fun hn=>by rw [JV];exact hw.1.2 fun e=>hn (h2.2 e)⟩,h1⟩,by simp,?_,h4⟩
   show mapR.mapRL f c++AH t'=mapR.mapRL f (c++AH t)
   rw [SC,h3]
theorem Q4:∀ (l m:List AV),E7 (l++m)=E7 l++E7 m
 | [],_=>rfl
 | a::l,m=>by simp [E7,Q4 l m]
theorem Hg:∀ (l:List AV),(E7 l).length=l.length
 | []=>rfl
 | a::l=>by simp [E7,Hg l]
theorem NQ:∀ {t:FT} {k:FT->VC},WT t->(cleanFT t k).sat R->∃ t',WT t'/\(t'=[]↔t=[])/\AH t'=E7 (AH t)/\(k t').sat R
 | [],k,_,h=>⟨[],trivial,by simp,rfl,h⟩
 | c::t,k,hw,h=>by
   simp only [cleanFT,EC] at h
   obtain ⟨t',h1,h2,h3,h4⟩:=NQ hw.2 h
   refine ⟨E7 c::t',⟨⟨by rw [Hg];exact hw.1.1,fun hn=>by rw [Hg];exact hw.1.2 fun e=>hn (h2.2 e)⟩,h1⟩,by simp,?_,h4⟩
   show E7 c++AH t'=E7 (c++AH t)
   rw [Q4,h3]
theorem EX {X Y:VC} (h:X.sat R->Y.sat R):∀ {l:List Cd},(needs l X).sat R->(needs l Y).sat R
 | [],hx=>h hx
 | p::l,hx=>⟨hx.1,EX h hx.2⟩
end
def AR.vcT (S:Sums) (nb:Bool) (r:AR) (fr:FT) (hp:A0) (K:FT->A0->AV->VC):VC :=
 match r with
 | .fail=>.fail
 | .val a=>Ct a (K fr hp)
 | .need p r=>.need p (r.vcT S nb fr hp K)
 | .br b t e=>.branch b (t.vcT S nb fr hp K) (e.vcT S nb fr hp K)
 | .blk b mk=>Il hp fun n=>Ak (HC hp [b]) fun hp'=>K fr hp' (mk n)
 | .upd i b=>(match nb with
   | true=>Ak (AM hp i b) fun hp'=>K fr hp' (.tup [])
   | false=>.fail)
 | .grow i b=>(match nb&&Nat.ble S.lo i with
   | true=>bF (EJ i .top) fr fun fr'=>Ak (AM (E5 (EJ i .top) hp) i b) fun hp'=>K fr' hp' (.row i)
   | false=>.fail)
 | .frz j a r=>(match nb&&Nat.ble S.lo j with
   | true=>bF (EJ j a) fr fun fr'=>Ak (AM (E5 (EJ j a) hp) j .dead) fun hp'=>r.vcT S nb fr' hp' K
   | false=>.fail)
 | .call f args=>(match AL S.two f with
   | some s2=>(match nb&&Fw hp,s2 args hp with
     | true,some ⟨pre,res,hp2,mv⟩=>(match Nat.ble hp.length hp2.length with
       | true=>(match mv with
         | none=>Kg pre (Ak hp2 fun hp'=>Ct res (K fr hp'))
         | some j=>(match Nat.ble S.lo j with
           | true=>Kg pre (bF (EJ j .top) fr fun fr'=>Ak hp2 fun hp'=>Ct res (K fr' hp'))
           | false=>.fail))
       | false=>.fail)
     | _,_=>.fail)
   | none=>(match AL S.one f with
     | some s1=>Jf (WN hp args) fun args'=>(match s1 args' with
       | some ⟨pre,res,new⟩=>(match Ny args res new with
         | true=>Kg pre (Kg (Gk args new) (Il hp fun n=>Ak (HC hp (FU n new)) fun hp'=>Ct (TP n res) (K fr hp')))
         | false=>.fail)
       | none=>.fail)
     | none=>.fail))
def AR_vcTP:{g:Sums->Bool->AR->FT->A0->(FT->A0->AV->VC)->VC // AR.vcT=g}:=⟨_,by delta AR.vcT;rfl⟩
def Uf:Sums->Bool->AR->FT->A0->(FT->A0->AV->VC)->VC:=AR_vcTP.1
theorem L1:Uf=AR.vcT:=AR_vcTP.2.symm
section
variable {R:AV->A0->Prop} {P:Program} {S:Sums}
theorem Jv {nb:Bool} {K:List AV->A0->AV->VC} {KT:FT->A0->AV->VC} (hK:∀ t hp a,WT t->(KT t hp a).sat R->(K (AH t) hp a).sat R) :
  ∀ {r:AR} {t:FT} {hp:A0},WT t->(r.vcT S nb t hp KT).sat R->(r.vc S nb (AH t) hp K).sat R
 | .fail,_,_,_,h=>h
 | .val a,t,hp,hw,h=>by
   simp only [AR.vcT,AR.vc,AT] at h ⊢
   exact hK _ _ _ hw h
 | .need p r,t,hp,hw,h=>by
   simp only [AR.vcT,AR.vc,AN,Cw,Da,FG,Hy,FC,BN,F4] at h ⊢
   exact ⟨h.1,Jv hK hw h.2⟩
 | .br b r1 r2,t,hp,hw,h=>by
   simp only [AR.vcT,AR.vc,AN,Cw,Da,FG,Hy,FC,BN,F4] at h ⊢
   exact ⟨fun hb=>Jv hK hw (h.1 hb),fun hb=>Jv hK hw (h.2 hb)⟩
 | .blk b mk,t,hp,hw,h=>by
   simp only [AR.vcT,AR.vc,AN,Cw,A8] at h ⊢
   exact hK _ _ _ hw h
 | .upd i b,t,hp,hw,h=>by
   simp only [AR.vcT,AR.vc,AN,Cw,Da,FG,Hy,FC,BN,F4] at h ⊢
   split at h
   ·simp only [A8] at h ⊢
    exact hK _ _ _ hw h
   ·exact h.elim
 | .grow i b,t,hp,hw,h=>by
   simp only [AR.vcT,AR.vc,AN,Cw,Da,FG,Hy,FC,BN,F4] at h ⊢
   split at h
   ·rename_i e
    rw [e]
    simp only [AK]
    obtain ⟨t',h1,_,h3,h4⟩:=Ld hw h
    simp only [A8] at h4 ⊢
    rw [<- h3]
    exact hK _ _ _ h1 h4
   ·exact h.elim
 | .frz j a r,t,hp,hw,h=>by
   simp only [AR.vcT,AR.vc,AN,Cw,Da,FG,Hy,FC,BN,F4] at h ⊢
   split at h
   ·rename_i e
    rw [e]
    simp only [AK]
    obtain ⟨t',h1,_,h3,h4⟩:=Ld hw h
    simp only [A8] at h4 ⊢
    rw [<- h3]
    exact Jv hK h1 h4
   ·exact h.elim
 | .call f args,t,hp,hw,h=>by
   simp only [AR.vcT,AR.vc,AN,Cw,Da,FG,Hy,FC,BN,F4] at h ⊢
   split at h
   ·rename_i s2 e
    rw [e]
    simp only
    split at h
    ·rename_i pre res hp2 mv e0 e2
     rw [e0,e2]
     simp only
     split at h
     ·rename_i e3
      rw [e3]
      cases mv with
      | none =>
        simp only [A8,AT] at h ⊢
        exact EX (hK _ _ _ hw) h
      | some j =>
        dsimp only at h ⊢
        split at h
        ·rename_i e4
         rw [e4]
         dsimp only
         refine EX (fun h=>?_) h
         rw [AK]
         obtain ⟨t',h1,_,h3,h4⟩:=Ld hw h
         simp only [A8,AT] at h4 ⊢
         rw [<- h3]
         exact hK _ _ _ h1 h4
        ·exact h.elim
     ·exact h.elim
    ·exact h.elim
   ·rename_i e
    rw [e]
    simp only
    split at h
    ·rename_i s1 e1
     rw [e1]
     simp only [AK] at h ⊢
     split at h
     ·rename_i pre res new e2
      rw [e2]
      simp only
      split at h
      ·rename_i e3
       rw [e3]
       simp only [A8,AT] at h ⊢
       exact EX (EX (hK _ _ _ hw)) h
      ·exact h.elim
     ·exact h.elim
    ·exact h.elim
end
end
end Abs
end Go.Proofs.YtccgngldoinokaaGreat

namespace Go.Proofs.YtccgngldoinokaaGreat
namespace Abs
open Go Go.RowKit
noncomputable section
def evT (t:FT):Operand->AV
 | .tmp i=>H7 t i
 | x=>ev [] x
def QA (t:FT) (d:Nat) (K:Bool->FT->VC):VC :=
 match H7 t d with
 | .lb true=>K true t
 | .lb false=>K false t
 | .sb b=>.branch b (Eu t d (.lb true) (K true)) (Eu t d (.lb false) (K false))
 | _=>.fail
def forceMT (anc:List Nat) (t:FT):List Nat->(List (Nat × AV)->VC)->VC
 | [],k=>k []
 | i::l,k=>Ec (Dk anc (H7 t i)) fun a=>forceMT anc t l fun m=>k ((i,a)::m)
def forceMTP:{g:List Nat->FT->List Nat->(List (Nat × AV)->VC)->VC // forceMT=g}:=⟨_,by delta forceMT;rfl⟩
def I_:List Nat->FT->List Nat->(List (Nat × AV)->VC)->VC:=forceMTP.1
theorem FJ:I_=forceMT:=forceMTP.2.symm
def Fj (P:Program) (S:Sums) (nb:Bool) (ctx:Ctx) (T:List Cnd) (o:Oper) (fr:FT) (hp:A0) (K:FT->A0->VC):VC :=
 match o.op with
 | .pick c a b=>Ec (evT fr c) fun c'=>Ec (evT fr a) fun a'=>Ec (evT fr b) fun b'=>Om ctx T c' a' b' fun r=>HM fr o.dst r fun fr'=>K fr' hp
 | op=>(match ctx with
   | none=>I_ [] fr (CR (Cc op)) fun m=>Uf S (GA op&&nb) (Hk P S (Ks m) hp op) fr hp fun fr' hp' a=>HM fr' o.dst (DN a) fun fr''=>K fr'' hp'
   | some (k,⟨_,_,c,anc⟩)=>I_ anc fr (CR (Cc op)) fun m=>rk S k c (Hk P S (Ks m) hp op) hp fun hp' a=>HM fr o.dst a fun fr'=>K fr' hp')
def Yd (o:Oper) (fr:FT):Bool:=match o.op with
 | .call c=>(match c.callee,c.args.toList with
   | .builtin .append,[.tmp t,_]=>(match H7 fr t with|.row _=>true|_=>false)
   | _,_=>false)
 | _=>false
def OX (P:Program) (S:Sums) (o:Oper) (fr:FT) (hp:A0) (K:Nat->FT->A0->VC):VC :=
 I_ [] fr (CR (Cc o.op)) fun m=>(match Dx (Hk P S (Ks m) hp o.op) with
  | some i=>Uf S true (Hk P S (Ks m) hp o.op) fr hp fun fr' hp' a=>HM fr' o.dst (DN a) fun fr''=>K i fr'' hp'
  | none=>.fail)
def Nw (i:Nat) (fr:FT):List Nat->Bool
 | []=>true
 | t::l=>!(hasO i (H7 fr t))&&Nw i fr l
def UR (i:Nat) (d:Option Nat) (fr:FT) (n:Nat) (hp:A0):Bool:=(match d with|none=>true|some d=>!(hasO i (H7 fr d))) && !(Jb i (Sl hp n))
def iA (sp:Bool) (d:Option Nat) (fr:FT) (k:FT->VC):VC :=
 match sp with
 | false=>k fr
 | true=>(match d with
   | none=>k fr
   | some d=>(match H7 fr d with
     | .sb b=>.branch b (Eu fr d (.lb true) k) (Eu fr d (.lb false) k)
     | _=>k fr))
def runOpsT (P:Program) (S:Sums) (dr:Bool) (all:List Oper):Option (Nat × Nat)->Nat->List Oper->List Cnd->FT->A0->(FT->A0->VC)->VC
 | Z,n,[],_,fr,hp,K=>(match Z with
   | none=>Jo fr fun fr'=>K fr' hp
   | some (_,u)=>(match Nat.ble u n with|true=>Jo fr fun fr'=>K fr' hp|false=>.fail))
 | some (i,u),n,o::rest,T,fr,hp,K=>(match Nat.blt n u with
   | false=>.fail
   | true=>(match o.guard,T,Nw i fr (DO all o) with
     | none,[],true=>Fj P S false none [] o fr hp fun fr' hp'=>(match UR i o.dst fr' hp.length hp' with
       | true=>(match Nat.beq (n+1) u with
         | true=>runOpsT P S dr all none (n+1) rest [] fr' hp' K
         | false=>runOpsT P S dr all (some (i,u)) (n+1) rest [] fr' hp' K)
       | false=>.fail)
     | _,_,_=>.fail))
 | none,n,o::rest,T,fr,hp,K =>
   match o.guard with
   | none=>(match dr,T,Yd o fr with
     | true,[],true=>(match Dj true all n with
       | true=>Fj P S true none T o fr hp fun fr' hp'=>runOpsT P S dr all none (n+1) rest T fr' hp' K
       | false=>(match MC all n,Nat.blt (n+1) (EK all n) with
         | true,true=>OX P S o fr hp fun i fr' hp'=>runOpsT P S dr all (some (i,EK all n)) (n+1) rest T fr' hp' K
         | _,_=>.fail))
     | _,_,_=>Fj P S (rA P S dr all n T o (H7 fr)) none T o fr hp fun fr' hp'=>iA (nQ S n o all) o.dst fr' fun fr'=>runOpsT P S dr all none (n+1) rest T fr' hp' K)
   | some (j,want)=>(match Sa j want T 0 with
     | some kx=>Fj P S (Dj dr all n) (some kx) T o fr hp fun fr' hp'=>runOpsT P S dr all none (n+1) rest T fr' hp' K
     | none=>(match Af all j with
       | none=>.fail
       | some d=>(match H7 fr d with
         | .tup []=>HM fr o.dst (.tup []) fun fr'=>runOpsT P S dr all none (n+1) rest T fr' hp K
         | .lb b=>(match b == want with
           | true=>Fj P S (Dj dr all n) none T o fr hp fun fr' hp'=>runOpsT P S dr all none (n+1) rest T fr' hp' K
           | false=>HM fr o.dst (.tup []) fun fr'=>runOpsT P S dr all none (n+1) rest T fr' hp K)
         | .sb b=>Ss want b fun c=>jk T fun lt=>UF (ZI T ⟨j,want,c,[lt]⟩) fun T' =>
           Fj P S (Dj dr all n) (some (lt,⟨j,want,c,[lt]⟩)) T' o fr hp fun fr' hp'=>runOpsT P S dr all none (n+1) rest T' fr' hp' K
         | .gd p (.lb b)=>(match b == want,T[p]? with
           | true,some x=>Fj P S (Dj dr all n) (some (p,x)) T o fr hp fun fr' hp'=>runOpsT P S dr all none (n+1) rest T fr' hp' K
           | false,some _=>HM fr o.dst (.tup []) fun fr'=>runOpsT P S dr all none (n+1) rest T fr' hp K
           | _,none=>.fail)
         | .gd p (.sb b)=>(match T[p]? with
           | none=>.fail
           | some ⟨_,_,cx,anc⟩=>Ss want b fun c=>jk T fun lt=>UF (ZI T ⟨j,want,Jp cx c,lt::anc⟩) fun T' =>
             Fj P S (Dj dr all n) (some (lt,⟨j,want,Jp cx c,lt::anc⟩)) T' o fr hp fun fr' hp' =>
              runOpsT P S dr all none (n+1) rest T' fr' hp' K)
         | _=>.fail)))
def runOpsTP:{g:Program->Sums->Bool->List Oper->Option (Nat × Nat)->Nat->List Oper->List Cnd->FT->A0->(FT->A0->VC)->VC // runOpsT=g}:=⟨_,by delta runOpsT;rfl⟩
def JH:Program->Sums->Bool->List Oper->Option (Nat × Nat)->Nat->List Oper->List Cnd->FT->A0->(FT->A0->VC)->VC:=runOpsTP.1
theorem ES:JH=runOpsT:=runOpsTP.2.symm
section
variable {R:AV->A0->Prop} {P:Program} {S:Sums} {t:FT}
theorem kw (hw:WT t) (x:Operand):evT t x=ev (AH t) x:=by
 cases x with
 | tmp i=>exact Dr hw i
 | const v=>cases v<;>rfl
 | global g=>rfl
 | func f=>rfl
theorem UT {d:Nat} {K:Bool->List AV->VC} {KT:Bool->FT->VC} (hK:∀ b t,WT t->(KT b t).sat R->(K b (AH t)).sat R) (hw:WT t) (h:(QA t d KT).sat R):(KD (AH t) d K).sat R:=by
 unfold QA at h
 unfold KD
 rw [Dr hw] at h
 split at h
 ·rename_i e;rw [e];exact hK _ _ hw h
 ·rename_i e;rw [e];exact hK _ _ hw h
 ·rename_i b e
  rw [e]
  refine ⟨fun hb=>?_,fun hb=>?_⟩
  ·obtain ⟨t',h1,h2,h3⟩:=Ga hw (h.1 hb)
   rw [Aq,<- h2];exact hK _ _ h1 h3
  ·obtain ⟨t',h1,h2,h3⟩:=Ga hw (h.2 hb)
   rw [Aq,<- h2];exact hK _ _ h1 h3
 ·exact h.elim
theorem Fr (hw:WT t) (anc:List Nat):∀ (l:List Nat) (k:List (Nat × AV)->VC),forceMT anc t l k=He anc (AH t) l k
 | [],_=>rfl
 | i::l,k=>by
   simp only [forceMT,He,Dr hw]
   congr 1
   funext a
   exact Fr hw anc l _
theorem ER {d:Option Nat} {a:AV} {K:List AV->VC} {KT:FT->VC} (hK:∀ t,WT t->(KT t).sat R->(K (AH t)).sat R) (hw:WT t) (h:(HM t d a KT).sat R):(JE (AH t) d a K).sat R:=by
 obtain ⟨t',h1,h2,h3⟩:=dO hw h
 rw [FV,<- h2]
 exact hK _ h1 h3
theorem JQ {X Y:VC} (c:Bool) (h:X.sat R->Y.sat R):∀ {l:List Cd},(needsC c l X).sat R->(needsC c l Y).sat R
 | [],hx=>h hx
 | p::l,hx=>⟨hx.1,JQ c h hx.2⟩
theorem PC {ctx:Ctx} {cb w:Bool} {g:Option Bool} {X Y:VC} (h:X.sat R->Y.sat R) (hx:(PD ctx cb w g X).sat R):(PD ctx cb w g Y).sat R:=by
 unfold PD at hx ⊢
 cases g with
 | none=>exact h hx
 | some y =>
   cases ctx with
   | none=>exact ⟨hx.1,h hx.2⟩
   | some z=>obtain ⟨k,c⟩:=z;exact ⟨hx.1,h hx.2⟩
theorem YL {ctx:Ctx} {T:List Cnd} {c a b:AV} {k1 k2:AV->VC} (hk:∀ r,(k1 r).sat R->(k2 r).sat R) (h:(Om ctx T c a b k1).sat R):(Om ctx T c a b k2).sat R:=by
 unfold Om at h ⊢
 split at h
 ·rename_i e
  try rw [e]
  try simp only at h ⊢
  split at h
  ·exact h.elim
  ·rename_i e2
   simp only [AT] at h ⊢
   exact hk _ h
 ·rename_i e
  try rw [e]
  try simp only at h ⊢
  split at h
  ·exact h.elim
  ·rename_i e2
   simp only [AT] at h ⊢
   exact hk _ h
 ·rename_i cb e
  try rw [e]
  try simp only at h ⊢
  split at h
  ·rename_i a' ga b' gb e1 e2
   try rw [e1,e2]
   try simp only
   refine PC (PC fun hh=>?_) h
   split at hh<;>first|exact hk _ hh|exact hh.elim
  ·exact h.elim
 ·exact h.elim
theorem L_ {k:Nat} {c:Bool} {k1 k2:A0->AV->VC} (hk:∀ hp a,(k1 hp a).sat R->(k2 hp a).sat R):∀ {r:AR} {hp:A0},(r.vcC S k c hp k1).sat R->(r.vcC S k c hp k2).sat R
 | .fail,_,h=>by simp only [AR.vcC] at h;exact h.elim
 | .val a,hp,h=>by simp only [AR.vcC,AT] at h ⊢;exact hk _ _ h
 | .need p r,hp,h=>by simp only [AR.vcC] at h ⊢;exact ⟨h.1,L_ hk h.2⟩
 | .br b r1 r2,hp,h=>by simp only [AR.vcC] at h ⊢;exact ⟨fun hb=>L_ hk (h.1 hb),fun hb=>L_ hk (h.2 hb)⟩
 | .blk b mk,hp,h=>by simp only [AR.vcC,A8] at h ⊢;exact hk _ _ h
 | .upd _ _,_,h=>by simp only [AR.vcC] at h;exact h.elim
 | .grow _ _,_,h=>by simp only [AR.vcC] at h;exact h.elim
 | .frz _ _ _,_,h=>by simp only [AR.vcC] at h;exact h.elim
 | .call f args,hp,h=>by
   simp only [AR.vcC] at h ⊢
   split at h
   ·exact h.elim
   ·rename_i e
    try rw [e]
    try simp only
    split at h
    ·rename_i s1 e1
     try rw [e1]
     simp only [AK] at h ⊢
     split at h
     ·rename_i pre res new e2
      try rw [e2]
      try simp only
      split at h
      ·rename_i e3
       try rw [e3]
       simp only [A8,AT] at h ⊢
       exact JQ c (JQ c (hk _ _)) h
      ·exact h.elim
     ·exact h.elim
    ·exact h.elim
theorem Gx {nb:Bool} {ctx:Ctx} {T:List Cnd} {o:Oper} {hp:A0} {K:List AV->A0->VC} {KT:FT->A0->VC} (hK:∀ t hp,WT t->(KT t hp).sat R->(K (AH t) hp).sat R) (hw:WT t)
  (h:(Fj P S nb ctx T o t hp KT).sat R):(GL P S nb ctx T o (AH t) hp K).sat R:=by
 unfold Fj at h
 unfold GL
 generalize o.op=op at h ⊢
 cases op
 case pick c a b =>
  simp only [Dz,kw hw] at h ⊢
  exact YL (fun r hr=>ER (K:=fun fr'=>K fr' hp) (fun t' hw'=>hK t' hp hw') hw hr) h
 all_goals
  simp only at h ⊢
  cases ctx with
  | none =>
    dsimp only at h ⊢
    simp only [FJ,L1,Ur,L9,Fr hw] at h
    rw [Cy] at h ⊢
    exact Jv (K:=fun fr' hp' a=>JE fr' o.dst (DN a) fun fr''=>K fr'' hp') (fun t' hp' a hw' hh=>ER (K:=fun fr''=>K fr'' hp') (fun t'' hw''=>hK t'' hp' hw'') hw' hh) hw h
  | some x =>
    obtain ⟨k,j,want,c,anc⟩:=x
    dsimp only at h ⊢
    simp only [FJ,L1,Ur,L9,Fr hw] at h
    rw [Cy] at h ⊢
    exact L_ (fun hp' a hh=>ER (K:=fun fr''=>K fr'' hp') (fun t'' hw''=>hK t'' hp' hw'') hw hh) h
theorem eP (hw:WT t) (o:Oper):Yd o t=Wa o (AH t):=by
 unfold Yd Wa
 simp only [Dr hw]
 rfl
theorem Q3 (hw:WT t) (i:Nat):∀ l,Nw i t l=Ku i (AH t) l
 | []=>rfl
 | x::l=>by simp only [Nw,Ku,Dr hw,Q3 hw i l]
theorem Z1 (hw:WT t) (i:Nat) (d:Option Nat) (n:Nat) (hp:A0):UR i d t n hp=Mw i d (AH t) n hp:=by
 unfold UR Mw
 simp only [Dr hw]
 rfl
theorem TX {o:Oper} {hp:A0} {K:Nat->List AV->A0->VC} {KT:Nat->FT->A0->VC} (hK:∀ i t hp,WT t->(KT i t hp).sat R->(K i (AH t) hp).sat R) (hw:WT t)
  (h:(OX P S o t hp KT).sat R):(Ni P S o (AH t) hp K).sat R:=by
 unfold OX at h
 unfold Ni
 simp only [FJ,L1,Fr hw] at h
 rw [Cy] at h
 rw [Cy]
 split at h
 ·rename_i i e
  rw [e]
  simp only
  exact Jv (K:=fun fr' hp' a=>JE fr' o.dst (DN a) fun fr''=>K i fr'' hp') (fun t' hp' a hw' hh=>ER (K:=fun fr''=>K i fr'' hp') (fun t'' hw''=>hK i t'' hp' hw'') hw' hh) hw h
 ·exact h.elim
theorem GS {hp:A0} {K:List AV->A0->VC} {KT:FT->A0->VC} (hK:∀ t hp,WT t->(KT t hp).sat R->(K (AH t) hp).sat R) (hw:WT t)
  (h:(cleanFT t fun t'=>KT t' hp).sat R):(Kv (AH t) fun fr=>K fr hp).sat R:=by
 obtain ⟨t',h1,_,h3,h4⟩:=NQ hw h
 rw [EC,<- h3]
 exact hK _ _ h1 h4
theorem dI {sp:Bool} {d:Option Nat} {k:List AV->VC} {kT:FT->VC} (hk:∀ t,WT t->(kT t).sat R->(k (AH t)).sat R) {t:FT} (hw:WT t) (h:(iA sp d t kT).sat R):(Xz sp d (AH t) k).sat R:=by
 unfold iA at h
 unfold Xz
 split at h
 ·exact hk _ hw h
 ·split at h
  ·exact hk _ hw h
  ·rename_i e
   dsimp only
   rw [Dr hw] at h
   split at h
   ·rename_i c hv
    rw [hv]
    refine ⟨fun hb=>?_,fun hb=>?_⟩
    ·obtain ⟨t',h1,h2,h3⟩:=Ga hw (h.1 hb)
     rw [Aq,<- h2];exact hk _ h1 h3
    ·obtain ⟨t',h1,h2,h3⟩:=Ga hw (h.2 hb)
     rw [Aq,<- h2];exact hk _ h1 h3
   ·rename_i hno
    split
    ·rename_i c hv;exact (hno c hv).elim
    ·exact hk _ hw h
theorem HO {dr:Bool} {all:List Oper} {K:List AV->A0->VC} {KT:FT->A0->VC} (hK:∀ t hp,WT t->(KT t hp).sat R->(K (AH t) hp).sat R) :
  ∀ (l:List Oper) (Z:Option (Nat × Nat)) (n:Nat) (T:List Cnd) (t:FT) (hp:A0),WT t->(runOpsT P S dr all Z n l T t hp KT).sat R->(AI P S dr all Z n l T (AH t) hp K).sat R:=by
 intro l
 induction l with
 | nil =>
   intro Z n T t hp hw h
   cases Z with
   | none =>
     simp only [runOpsT,AI,Ee,Io,Lk] at h ⊢
     exact GS hK hw h
   | some z =>
     obtain ⟨i,u⟩:=z
     simp only [runOpsT,AI,Ee,Io,Lk] at h ⊢
     cases hb:Nat.ble u n with
     | true=>rw [hb] at h;exact GS hK hw h
     | false=>rw [hb] at h;exact h.elim
 | cons o rest ih =>
   intro Z n T t hp hw h
   have stp:∀ {nb:Bool} {ctx:Ctx} {T1 T2:List Cnd} {Z':Option (Nat × Nat)} {m:Nat},(Fj P S nb ctx T1 o t hp fun fr' hp'=>runOpsT P S dr all Z' m rest T2 fr' hp' KT).sat R ->
     (GL P S nb ctx T1 o (AH t) hp fun fr' hp'=>AI P S dr all Z' m rest T2 fr' hp' K).sat R:=fun hh =>
    Gx (K:=fun fr' hp'=>AI P S dr all _ _ rest _ fr' hp' K) (fun t' hp' hw'=>ih _ _ _ t' hp' hw') hw hh
   have skp:∀ {T2:List Cnd} {Z':Option (Nat × Nat)} {m:Nat},(HM t o.dst (.tup []) fun fr'=>runOpsT P S dr all Z' m rest T2 fr' hp KT).sat R->(JE (AH t) o.dst (.tup []) fun fr'=>AI P S dr all Z' m rest T2 fr' hp K).sat R:=fun hh =>
    ER (K:=fun fr'=>AI P S dr all _ _ rest _ fr' hp K) (fun t' hw'=>ih _ _ _ t' hp hw') hw hh
   cases Z with
   | some z =>
     obtain ⟨i,u⟩:=z
     simp only [runOpsT,AI,Ee,Io,Lk] at h ⊢
     rw [Q3 hw] at h
     cases hb:Nat.blt n u with
     | false=>rw [hb] at h;exact h.elim
     | true =>
       rw [hb] at h
       dsimp only at h ⊢
       cases hg:o.guard with
       | some x=>rw [hg] at h;exact h.elim
       | none =>
         rw [hg] at h
         cases T with
         | cons x T=>exact h.elim
         | nil =>
           cases hc:Ku i (AH t) (DO all o) with
           | false=>rw [hc] at h;exact h.elim
           | true =>
             rw [hc] at h
             dsimp only at h ⊢
             refine Gx (K:=fun fr' hp'=>match Mw i o.dst fr' hp.length hp' with
              | true=>(match Nat.beq (n+1) u with
                | true=>AI P S dr all none (n+1) rest [] fr' hp' K
                | false=>AI P S dr all (some (i,u)) (n+1) rest [] fr' hp' K)
              | false=>.fail) (fun t' hp' hw' hh=>?_) hw h
             rw [Z1 hw'] at hh
             cases hd:Mw i o.dst (AH t') hp.length hp' with
             | false=>rw [hd] at hh;exact hh.elim
             | true =>
               rw [hd] at hh
               dsimp only at hh ⊢
               cases he:Nat.beq (n+1) u with
               | true=>rw [he] at hh;exact ih _ _ _ t' hp' hw' hh
               | false=>rw [he] at hh;exact ih _ _ _ t' hp' hw' hh
   | none =>
     simp only [runOpsT,AI,Ee,Io,Lk] at h ⊢
     rw [eP hw] at h
     cases hg:o.guard with
     | none =>
       rw [hg] at h
       dsimp only at h ⊢
       split at h
       ·rename_i hl
        rw [hl]
        dsimp only
        cases hb:Dj true all n with
        | true=>rw [hb] at h;exact stp h
        | false =>
          rw [hb] at h
          dsimp only at h ⊢
          cases hbe:MC all n with
          | false=>rw [hbe] at h;exact h.elim
          | true =>
            rw [hbe] at h
            cases hbl:Nat.blt (n+1) (EK all n) with
            | false=>rw [hbl] at h;exact h.elim
            | true =>
              rw [hbl] at h
              dsimp only at h ⊢
              exact TX (K:=fun i fr' hp'=>AI P S true all (some (i,EK all n)) (n+1) rest [] fr' hp' K) (fun i t' hp' hw'=>ih _ _ _ t' hp' hw') hw h
       ·rename_i hno
        split
        ·rename_i h1 h2
         exact (hno rfl rfl (by assumption)).elim
        ·have hg2:H7 t=A4 (AH t):=funext fun i=>Dr hw i
         rw [hg2] at h
         exact Gx (K:=fun fr' hp'=>Xz (nQ S n o all) o.dst fr' fun fr'=>AI P S _ all none (n+1) rest _ fr' hp' K) (fun t' hp' hw' hh=>dI (fun t'' hw''=>ih _ _ _ t'' hp' hw'') hw' hh) hw h
     | some x =>
       obtain ⟨j,want⟩:=x
       rw [hg] at h
       dsimp only at h ⊢
       cases hf:Sa j want T 0 with
       | some kx=>rw [hf] at h;exact stp h
       | none =>
         rw [hf] at h
         dsimp only at h ⊢
         cases hd:Af all j with
         | none=>rw [hd] at h;exact h.elim
         | some d =>
           rw [hd] at h
           dsimp only at h ⊢
           rw [Dr hw] at h
           split at h
           ·rename_i e;rw [e];exact skp h
           ·rename_i b e
            rw [e]
            dsimp only at h ⊢
            cases hb:(b == want) with
            | true=>rw [hb] at h;exact stp h
            | false=>rw [hb] at h;exact skp h
           ·rename_i b e
            rw [e]
            dsimp only at h ⊢
            rw [M_,Lj,I9] at h ⊢
            exact stp h
           ·rename_i p b e
            rw [e]
            dsimp only at h ⊢
            cases hb:(b == want) with
            | true =>
              rw [hb] at h
              cases hT:T[p]? with
              | none=>rw [hT] at h;exact h.elim
              | some x=>rw [hT] at h;exact stp h
            | false =>
              rw [hb] at h
              cases hT:T[p]? with
              | none=>rw [hT] at h;exact h.elim
              | some x=>rw [hT] at h;exact skp h
           ·rename_i p b e
            rw [e]
            dsimp only at h ⊢
            cases hT:T[p]? with
            | none=>rw [hT] at h;exact h.elim
            | some x =>
              obtain ⟨q1,q2,cx,anc⟩:=x
              rw [hT] at h
              dsimp only at h ⊢
              rw [M_,Lj,I9] at h ⊢
              exact stp h
           ·exact h.elim
end
end
end Abs
end Go.Proofs.YtccgngldoinokaaGreat

namespace Go.Proofs.YtccgngldoinokaaGreat
namespace Abs
open Go Go.RowKit
noncomputable section
def runMvT:List Oper->FT->(FT->VC)->VC
 | [],fr,k=>k fr
 | o::l,fr,k=>(match HF o with
   | some x=>Ct (DN (evT fr x)) fun a=>HM fr o.dst a fun fr'=>runMvT l fr' k
   | none=>runMvT l fr k)
def runMvTP:{g:List Oper->FT->(FT->VC)->VC // runMvT=g}:=⟨_,by delta runMvT;rfl⟩
def Zv:List Oper->FT->(FT->VC)->VC:=runMvTP.1
theorem Fk:Zv=runMvT:=runMvTP.2.symm
def runSwT (P:Program) (S:Sums) (z:Sw) (fb:Bool):Nat->List Oper->FT->A0->(FT->A0->VC)->VC
 | _,[],fr,hp,K=>Jo fr fun fr'=>K fr' hp
 | n,o::rest,fr,hp,K=>(match Nat.beq n z.a,Nat.beq n z.s with
   | true,_=>(match FD P z.t with|some _=>runSwT P S z fb (n+1) rest fr hp K|none=>.fail)
   | false,true=>I_ [] fr (CR [z.x]) fun m=>Av (AU (Ks m z.x)) fun l=>(match decide (l.length=A9 P z.t/\0<A9 P z.t)&&LU l with
     | true=>Il hp fun m=>Ak (HC hp [.cells z.t l]) fun hp'=>Eu fr z.d (.own m 0) fun fr'=>runSwT P S z fb (n+1) rest fr' hp' K
     | false=>.fail)
   | false,false=>Fj P S (match rest with|[]=>fb|_::_=>false) none [] o fr hp fun fr' hp'=>runSwT P S z fb (n+1) rest fr' hp' K)
def runSwTP:{g:Program->Sums->Sw->Bool->Nat->List Oper->FT->A0->(FT->A0->VC)->VC // runSwT=g}:=⟨_,by delta runSwT;rfl⟩
def Zu:Program->Sums->Sw->Bool->Nat->List Oper->FT->A0->(FT->A0->VC)->VC:=runSwTP.1
theorem Fi:Zu=runSwT:=runSwTP.2.symm
def Tu (P:Program) (ops:List Oper) (fr:FT):Option (Nat × Nat × Nat × LN) :=
 match ops with
 | [_,o2]=>(match cf o2.op with
   | some _=>JP P ops (AH fr)
   | none=>none)
 | _=>none
def jJ (s a b:Nat) (n:LN) (fr:FT) (hp:A0) (K:FT->A0->VC):VC :=
 .loop (A:=Gp) (fun _=>()) (.branch (Yl (Em n.val) 0) (Eu fr a (H7 fr s) fun f=>Eu f b (.lb true) fun f=>K f hp) .done) (fun _=>Eu fr a (H7 fr s) fun f=>Eu f b (.lb false) fun f=>K f hp)
def lH (P:Program) (ops:List Oper) (fr:FT) (hp:A0):Option Cpy :=
 match lI ops with
 | some _=>Yy P ops (AH fr) hp
 | none=>none
def lE (z:Cpy) (fr:FT) (hp:A0) (K:FT->A0->VC):VC :=
 forceH (XJ z hp) fun hp'=>Eu fr z.d1 (.own z.i z.off) fun f=>Eu f z.d2 .top fun f=>Eu f z.d3 (H7 fr z.s) fun f=>Eu f z.d4 .top fun f=>K f hp'
def toTK:Nat->List AV->(FT->VC)->VC
 | 0,_,_=>.fail
 | f+1,l,k=>(match l with
   | []=>k []
   | _=>Av (AW l 16) fun c=>Av (AO l 16) fun r=>toTK f r fun t=>k (c::t))
def toTKP:{g:Nat->List AV->(FT->VC)->VC // toTK=g}:=⟨_,by delta toTK;rfl⟩
def N9:Nat->List AV->(FT->VC)->VC:=toTKP.1
theorem Fy:N9=toTK:=toTKP.2.symm
def appK:List AV->List AV->(List AV->VC)->VC
 | [],r,k=>k r
 | a::l,r,k=>appK l r fun m=>k (a::m)
def appKP:{g:List AV->List AV->(List AV->VC)->VC // appK=g}:=⟨_,by delta appK;rfl⟩
def tA:List AV->List AV->(List AV->VC)->VC:=appKP.1
theorem lp:tA=appK:=appKP.2.symm
def flatTK:FT->(List AV->VC)->VC
 | [],k=>k []
 | c::t,k=>flatTK t fun r=>tA c r k
def flatTKP:{g:FT->(List AV->VC)->VC // flatTK=g}:=⟨_,by delta flatTK;rfl⟩
def HS:FT->(List AV->VC)->VC:=flatTKP.1
theorem FA:HS=flatTK:=flatTKP.2.symm
def cc (S:Sums) (g:Operand) (fr:FT) (hp:A0) (K:Items->Option (Nat × Nat × List AV)->VC):VC :=
 match g with
 | .tmp d=>(match H7 fr d with
   | .fn (.func gf) [] caps=>PW S d gf hp caps fun it cv cap=>(match it cv with
     | some x=>Kg x.pre (K x cap)
     | none=>.fail)
   | _=>.fail)
 | _=>.fail
def iterLT (run:FT->A0->(AE->FT->A0->VC)->VC):Nat->FT->A0->(AE->FT->A0->VC)->VC
 | 0,_,_,_=>.fail
 | n+1,fr,hp,Q=>run fr hp fun e fr' hp'=>match e with
   | .normal=>iterLT run n fr' hp' Q
   | e=>Q e fr' hp'
def iterLTP:{g:(FT->A0->(AE->FT->A0->VC)->VC)->Nat->FT->A0->(AE->FT->A0->VC)->VC // iterLT=g}:=⟨_,by delta iterLT;rfl⟩
def bz:(FT->A0->(AE->FT->A0->VC)->VC)->Nat->FT->A0->(AE->FT->A0->VC)->VC:=iterLTP.1
theorem Fo:bz=iterLT:=iterLTP.2.symm
def cM (all:List Oper) (fr:FT):Option (Nat × Bool)->Bool
 | none=>true
 | some (g,w)=>(match Af all g with
   | some d=>(match H7 fr d with|.lb b=>b == w|_=>false)
   | none=>false)
def preKT (P:Program) (all:List Oper):List Oper->List Bool->FT->(FT->VC)->VC
 | o::l,b::m,fr,k=>(match b with
   | false=>preKT P all l m fr k
   | true=>(match cM all fr o.guard with
     | false=>.fail
     | true=>I_ [] fr (CR (Cc o.op)) fun mm=>(match Lu P (Ks mm) o.op with
       | none=>.fail
       | some (ps,a)=>Kg ps (Ct (DN a) fun a=>HM fr o.dst a fun fr'=>preKT P all l m fr' k))))
 | _,_,fr,k=>k fr
def preKTP:{g:Program->List Oper->List Oper->List Bool->FT->(FT->VC)->VC // preKT=g}:=⟨_,by delta preKT;rfl⟩
def iq:Program->List Oper->List Oper->List Bool->FT->(FT->VC)->VC:=preKTP.1
theorem de:iq=preKT:=preKTP.2.symm
def Mm (all:List Oper) (fl:List Bool) (fr:FT):List Oper->List Bool->Bool
 | o::l,b::m=>(match b,o.guard with
   | false,some (g,w)=>(match Ao fl g with
     | true=>(match cM all fr (some (g,w)) with|true=>Mm all fl fr l m|false=>false)
     | false=>Mm all fl fr l m)
   | _,_=>Mm all fl fr l m)
 | _,_=>true
def TW (P:Program) (S:Sums) (all:List Oper) (fr:FT) (hp:A0) (K:FT->A0->VC):VC :=
 iq P all all (Lv all) fr fun fr'=>(match Mm all (Lv all) fr' all (Lv all) with
  | true=>JH P S true (An (FM (Lv all) all (Lv all))) none (I2 (AG (FM (Lv all) all (Lv all)))) (ET (FM (Lv all) all (Lv all)) (I2 (AG (FM (Lv all) all (Lv all)))) (FM (Lv all) all (Lv all))) [] fr' hp K
  | false=>.fail)
def giLP:{g:Nat->List AV->List AV->List AV // giA.giL=g}:=⟨_,by delta giA.giL;rfl⟩
def AH8:Nat->List AV->List AV->List AV:=giLP.1
theorem qA:AH8=giA.giL:=giLP.2.symm
def giHP:{g:Nat->List AV->A0->A0 // giH=g}:=⟨_,by delta giH;rfl⟩
def AH9:Nat->List AV->A0->A0:=giHP.1
theorem qC:AH9=giH:=giHP.2.symm
def V3 (e' sz j:Nat) (fr:List AV) (hp:A0) (K:List AV->A0->VC):VC:=match A3 hp j,sz with
 | .row e 1 n el,s+1=>.need ⟨fun z:Nat × (Nat->List AV)=>0<z.1/\∀ k,k<z.1->z.2 k=[.v (.slice none 0 0)],(n.val,el)⟩ (Ak (AM hp j (.rows e e' (s+1) n (fun _=>false) (fun _=>0) (fun _ _=>[]) none)) fun hp'=>K fr hp')
 | _,_=>.fail
def j_ (x j:Nat) (fr:List AV) (hp:A0) (K:List AV->A0->VC):VC:=match A3 hp j,AG9 fr x with
 | .rows e e' sz n fz ln el none,some a=>.need ⟨fun z:Int × Nat=>0<=z.1/\z.1<(z.2:Int),(a,n.val)⟩ (.need ⟨fun z:Bool=>z=false,fz (Iz a)⟩
   (Il hp fun len=>Ak (HC (AM hp j (.rows e e' sz n fz ln el (some (Iz a,some len)))) [.row e' sz (.sym (ln (Iz a))) (el (Iz a))]) fun hp'=>K fr hp'))
 | _,_=>.fail
def UP (lo:Nat) (stay:Bool) (j:Nat) (fr:List AV) (hp:A0) (K:List AV->A0->VC):VC:=match A3 hp j with
 | .rows e e' sz n fz ln el (some (k,some h))=>(match A3 hp h with
   | .row e2 sz2 m f=>(match decide (e2=e'/\sz2=sz/\h≠j)&&Nat.ble lo h&&Nat.ble lo j with
     | true=>forceLD (mapR.mapRL (EJ h .top) fr) fun fr'=>Ak (AM (AM (E5 (EJ h .top) hp) h .dead) j (.rows e e' sz n (Xl k stay fz) (Xo k m.val ln) (Xn k f el) none)) fun hp'=>K fr' hp'
     | false=>.fail)
   | _=>.fail)
 | _=>.fail
def iY (lo j:Nat) (fr:List AV) (hp:A0) (K:List AV->A0->VC):VC:=match A3 hp j with
 | .rows e _ sz n _ ln el none=>(match Nat.ble lo j with
   | true=>Ak (AM hp j (.row e 1 n (fun k=>[.slc (.sym (ln k)) sz (el k)]))) fun hp'=>K fr hp'
   | false=>.fail)
 | _=>.fail
def sv (lo j:Nat) (fr:List AV) (hp:A0) (K:List AV->A0->VC):VC:=match A3 hp j with
 | .row _ sz n el=>(match Nat.ble lo j with
   | true=>forceLD (mapR.mapRL (EJ j (.slc n sz el)) fr) fun fr'=>Ak (AM (E5 (EJ j (.slc n sz el)) hp) j .dead) fun hp'=>K fr' hp'
   | false=>.fail)
 | _=>.fail
def jI (sz j:Nat) (fr:List AV) (hp:A0) (K:List AV->A0->VC):VC:=match A3 hp j with
 | .row e 1 n el=>.need ⟨fun z:Nat × (Nat->List AV)=>∀ k,k<z.1->z.2 k=[.v (.slice none 0 0)],(n.val,el)⟩ (Ak (AM hp j (.row e 1 n (fun _=>[.slc (.sym 0) sz (fun _=>[])]))) fun hp'=>K fr hp')
 | _=>.fail
def YB (lo x c j:Nat) (fr:List AV) (hp:A0) (K:List AV->A0->VC):VC:=match c % 64 with
 | 1=>j_ x j fr hp K
 | 2=>UP lo false j fr hp K
 | 3=>UP lo true j fr hp K
 | 4=>iY lo j fr hp K
 | 6=>sv lo j fr hp K
 | 7=>jI x j fr hp K
 | c=>(match Nat.ble 16 c with|true=>V3 x (c-16) j fr hp K|false=>.fail)
theorem dV (lo x c j:Nat) (fr:List AV) (hp:A0) (K:List AV->A0->VC):YB lo x c j fr hp K=NB lo x c j fr hp K:=by
 unfold YB NB V3 Ng j_ Qz UP Jn iY Qx sv ey jI R4
 simp only [AN,Cw]
 rfl
def paLP:{g:Nat->AV->List AV->List AV // paA.paL=g}:=⟨_,by delta paA.paL;rfl⟩
def zt:Nat->AV->List AV->List AV:=paLP.1
theorem oV:zt=paA.paL:=paLP.2.symm
def paHP:{g:Nat->AV->A0->A0 // paH=g}:=⟨_,by delta paH;rfl⟩
def zu:Nat->AV->A0->A0:=paHP.1
theorem oW:zu=paH:=paHP.2.symm
def Jc (lo:Nat):List (Nat × TypeId × Nat)->List AV->A0->(List AV->A0->VC)->VC
 | [],fr,hp,K=>K fr hp
 | (t,x,c)::r,fr,hp,K=>(match Nat.beq c 0 with
  | false=>(match sM fr hp t (c / 64) with
    | some j=>YB lo x c j fr hp fun fr hp=>Jc lo r fr hp K
    | none=>Tv t x c fr hp fun hp=>Jc lo r fr hp K)
  | true=>(match A4 fr t with
   | .own j _=>(match A3 hp j with
     | .cells _ l=>(match ownIn.ownInL l,Nat.ble lo j with
       | false,true=>forceLD (AH8 j l fr) fun fr'=>Ak (AM (AH9 j l hp) j .dead) fun hp'=>Jc lo r fr' hp' K
       | _,_=>.fail)
     | _=>.fail)
   | .row j=>(match A3 hp j with
     | .row _ sz n el=>(match Nat.ble lo j with
       | true=>forceLD (mapR.mapRL (EJ j (.slc n sz el)) fr) fun fr'=>Ak (AM (E5 (EJ j (.slc n sz el)) hp) j .dead) fun hp'=>Jc lo r fr' hp' K
       | false=>.fail)
     | _=>.fail)
   | .elt j _ _ _=>(match A3 hp j with
     | .mat _ w (.lit 1) f=>(match Nat.ble lo j with
       | true=>forceLD (zt j (.pa w 1 (fun k=>[f 0 k])) fr) fun fr'=>Ak (AM (zu j (.pa w 1 (fun k=>[f 0 k])) hp) j .dead) fun hp'=>Jc lo r fr' hp' K
       | false=>.fail)
     | _=>.fail)
   | _=>.fail))
theorem SR (lo:Nat):∀ (l:List (Nat × TypeId × Nat)) (fr:List AV) (hp:A0) (K:List AV->A0->VC),Jc lo l fr hp K=I6 lo l fr hp K
 | [],_,_,_=>rfl
 | (t,_,_)::r,fr,hp,K=>by
   unfold Jc I6
   simp only [qA,qC,oV,oW,AN,dV,R5,SR lo r]
   rfl
def Yp (I:Cz) (lo id:Nat) (fr:FT) (hp:A0) (K:FT->A0->VC):VC:=match AL I (id+2097152) with
 | none=>K fr hp
 | some (l,_)=>HS fr fun fr=>Jc lo l fr hp fun fr hp=>N9 64 fr fun t=>K t hp
def runAnyT (P:Program) (S:Sums) (all:List Oper):Nat->List Nat->FT->A0->(FT->A0->VC)->VC
 | 0,_,_,_,_=>.fail
 | f+1,D,fr,hp,K=>(match X8 P all D (H7 fr) all.length with
   | some (i,o,ps,a)=>needs ps (Ct a fun a=>HM fr o.dst a fun fr'=>runAnyT P S all f (i::D) fr' hp K)
   | none=>(match iB all D (H7 fr) all.length with
     | some (d,c)=>.branch c (Eu fr d (.lb true) fun fr'=>runAnyT P S all f D fr' hp K) (Eu fr d (.lb false) fun fr'=>runAnyT P S all f D fr' hp K)
     | none=>(match Tc all D all.length with
       | []=>Jo fr fun fr'=>K fr' hp
       | i::l=>Jq (i::l) fun i=>(match all[i]? with
         | some o=>(match Uo all (H7 fr) o with
           | some true=>Fj P S true none [] o fr hp fun fr' hp'=>runAnyT P S all f (i::D) fr' hp' K
           | _=>.fail)
         | none=>.fail))))
def runAnyTP:{g:Program->Sums->List Oper->Nat->List Nat->FT->A0->(FT->A0->VC)->VC // runAnyT=g}:=⟨_,by delta runAnyT;rfl⟩
def VL:Program->Sums->List Oper->Nat->List Nat->FT->A0->(FT->A0->VC)->VC:=runAnyTP.1
theorem VK:VL=runAnyT:=runAnyTP.2.symm
def wpAT (P:Program) (S:Sums) (U:Nat) (I:Cz):Code->FT->A0->(AE->FT->A0->VC)->VC
 | .skip,fr,hp,Q=>Q .normal fr hp
 | .region id ops dr,fr,hp,Q=>Yp I S.lo id fr hp fun fr hp=>(match dr with
   | true=>(match AL I (id+4194304) with
     | some _=>(match ops.toList.all fun o=>!(Mg o.op) with
       | true=>VL P S ops.toList (2*ops.toList.length+1) [] fr hp (Q .normal)
       | false=>.fail)
     | none=>(match QP ops.toList 0 ops.toList with
       | none=>(match ay S ops.toList with
         | true=>TW P S ops.toList fr hp (Q .normal)
         | false=>(match az S ops.toList with
           | false=>JH P S true ops.toList none 0 ops.toList [] fr hp (Q .normal)
           | true=>Zv ops.toList fr fun fr'=>JH P S true (An ops.toList) none (I2 (AG ops.toList)) (ET ops.toList (I2 (AG ops.toList)) ops.toList) [] fr' hp (Q .normal)))
       | some z=>(match Nat.blt z.d (AH fr).length with
         | true=>Eu fr z.d .top fun fr'=>Zu P S z (km ops.toList) 0 (Ap ops.toList z) fr' hp (Q .normal)
         | false=>.fail)))
   | false=>(match Tu P ops.toList fr with
     | some (s,a,b,n)=>jJ s a b n fr hp (Q .normal)
     | none=>(match lH P ops.toList fr hp with
       | some z=>lE z fr hp (Q .normal)
       | none=>JH P S false ops.toList none 0 ops.toList [] fr hp (Q .normal))))
 | .seq a b,fr,hp,Q=>(match AL I (qb b) with
   | none=>wpAT P S U I a fr hp fun e fr' hp'=>match e with
     | .normal=>wpAT P S U I b fr' hp' Q
     | e=>Q e fr' hp'
   | some (_,ann)=>HS fr fun fr0 =>
     let A:=ann fr0 hp
     .loop (A:=A) A.dat (wpAT P S U I a fr hp fun e fr' hp'=>match e with
      | .normal=>HS fr' fun fr'=>ku S.lo A none fr' hp'
      | e=>Q e fr' hp') fun g=>Av (A.st g).fr fun fr=>Ak (A.st g).hp fun hp=>N9 64 fr fun t=>wpAT P S U I b t hp Q)
 | .cond c t e,fr,hp,Q=>(match c with
   | .tmp d=>QA fr d fun b fr=>(match b with|true=>wpAT P S U I t fr hp Q|false=>wpAT P S U I e fr hp Q)
   | .const (.bool true)=>wpAT P S U I t fr hp Q
   | .const (.bool false)=>wpAT P S U I e fr hp Q
   | _=>.fail)
 | .block id c,fr,hp,Q=>wpAT P S U I c fr hp fun e fr' hp'=>match e with
   | .exit j=>(match Nat.beq id j with|true=>Q .normal fr' hp'|false=>Q (.exit j) fr' hp')
   | e=>Q e fr' hp'
 | .loop c,fr,hp,Q=>(match AL I (Cv c) with
   | none=>bz (wpAT P S U I c) U fr hp Q
   | some (nils,ann)=>HS fr fun fr=>YS nils fr hp fun fr hp =>
     let A:=ann fr hp
     .loop (A:=A) A.dat (ku S.lo A none fr hp) fun g=>Av (A.st g).fr fun fr=>Ak (A.st g).hp fun hp=>N9 64 fr fun t=>wpAT P S U I c t hp fun e t' hp'=>match e with
      | .normal=>HS t' fun fr'=>ku S.lo A (some (A.mu g)) fr' hp'
      | e=>Q e t' hp')
 | .rangeFunc g ps assign body,fr,hp,Q=>cc S g fr hp fun x cap=>(match AL I (eQ assign body) with
   | none=>.fail
   | some (nils,ann)=>HS fr fun fr=>YS nils fr hp fun fr hp =>
     let A:=ann fr hp
     .loop (A:=A) A.dat (qL S.lo A 0 fr hp) fun g=>Av (A.st g).fr fun fr=>Ak (A.st g).hp fun hp=>Q6 cap fr hp (
      .branch (mI (A.mu g) x.n)
       (Q7 cap (x.it (A.mu g)) (iM ps.toList (x.it (A.mu g)) fr fun fr1=>N9 64 fr1 fun t1=>wpAT P S U I assign t1 hp fun e t2 hp2=>match e with
        | .normal=>wpAT P S U I body t2 hp2 fun e t3 hp3=>HS t3 fun fr3=>rl (Nat.lor (Kj ps.toList) (Nat.lor (EY assign) (EY body))) fr3 0 fun fr4=>match e with
          | .normal=>qL S.lo A (Ii (A.mu g) 1) fr4 hp3
          | e=>N9 64 fr4 fun t4=>Q e t4 hp3
        | _=>.fail))
       (N9 64 fr fun t=>Q .normal t hp)))
 | .exit id,fr,hp,Q=>Q (.exit id) fr hp
 | .ret,fr,hp,Q=>Q .ret fr hp
 | _,_,_,_=>.fail
def wpATP:{g:Program->Sums->Nat->Cz->Code->FT->A0->(AE->FT->A0->VC)->VC // wpAT=g}:=⟨_,by delta wpAT;rfl⟩
def rf:Program->Sums->Nat->Cz->Code->FT->A0->(AE->FT->A0->VC)->VC:=wpATP.1
theorem g9:rf=wpAT:=wpATP.2.symm
def resKT (P:Program) (fr:FT) (hp:A0):List ResultVar->(List AV->VC)->VC
 | [],k=>k []
 | .tmp t::l,k=>resKT P fr hp l fun m=>k (H7 fr t::m)
 | .cell a ty::l,k=>(match Fe P hp ty (H7 fr a) with|.val x=>resKT P fr hp l fun m=>k (x::m)|_=>.fail)
def resKTP:{g:Program->FT->A0->List ResultVar->(List AV->VC)->VC // resKT=g}:=⟨_,by delta resKT;rfl⟩
def iZ:Program->FT->A0->List ResultVar->(List AV->VC)->VC:=resKTP.1
theorem dY:iZ=resKT:=resKTP.2.symm
def mR (P:Program) (S:Sums) (U:Nat) (I:Cz) (fn:Func) (args:List AV) (hp:A0):VC :=
 match fn.body with
 | some c=>Av (KI args fn.ntmps) fun fr=>N9 64 fr fun t=>rf P S U I c t hp fun e t hp=>match e with
   | .exit _=>.fail
   | _=>iZ P t hp fn.results.toList fun l=>oX l hp
 | none=>.fail
section
variable {R:AV->A0->Prop} {P:Program} {S:Sums}
theorem KZ {K:List AV->VC} {KT:FT->VC} (hK:∀ t,WT t->(KT t).sat R->(K (AH t)).sat R):∀ {l:List Oper} {t:FT},WT t->(runMvT l t KT).sat R->(KP l (AH t) K).sat R
 | [],t,hw,h=>hK t hw h
 | o::l,t,hw,h=>by
   simp only [runMvT,KP] at h ⊢
   cases hm:HF o with
   | none=>rw [hm] at h;exact KZ hK hw h
   | some x =>
     rw [hm] at h
     dsimp only at h ⊢
     rw [kw hw] at h
     simp only [AT] at h ⊢
     exact ER (K:=fun fr'=>KP l fr' K) (fun t' hw'=>KZ hK hw') hw h
theorem Df {t:FT} {d:Nat} {a:AV} {K:List AV->VC} {KT:FT->VC} (hK:∀ t,WT t->(KT t).sat R->(K (AH t)).sat R) (hw:WT t) (h:(Eu t d a KT).sat R):(EF (AH t) d a K).sat R:=by
 obtain ⟨t',h1,h2,h3⟩:=Ga hw h
 rw [Aq,<- h2]
 exact hK _ h1 h3
theorem IV {z:Sw} {fb:Bool} {K:List AV->A0->VC} {KT:FT->A0->VC} (hK:∀ t hp,WT t->(KT t hp).sat R->(K (AH t) hp).sat R):∀ {l:List Oper} {n:Nat} {t:FT} {hp:A0},WT t->(runSwT P S z fb n l t hp KT).sat R->(Gw P S z fb n l (AH t) hp K).sat R
 | [],n,t,hp,hw,h=>by
   simp only [runSwT,Gw,Ee,FJ,AN,Cw] at h ⊢
   exact GS hK hw h
 | o::l,n,t,hp,hw,h=>by
   simp only [runSwT,Gw,Ee,FJ,AN,Cw] at h ⊢
   cases h1:Nat.beq n z.a with
   | true =>
     rw [h1] at h
     dsimp only at h ⊢
     cases h2:FD P z.t with
     | none=>rw [h2] at h;exact h.elim
     | some x=>rw [h2] at h;exact IV hK hw h
   | false =>
     rw [h1] at h
     cases h2:Nat.beq n z.s with
     | true =>
       rw [h2] at h
       dsimp only at h ⊢
       simp only [Fr hw] at h
       rw [Cy] at h ⊢
       simp only [Ae] at h ⊢
       split at h
       ·rename_i e
        try rw [e]
        try dsimp only at h ⊢
        simp only [A8] at h ⊢
        exact Df (K:=fun fr'=>Gw P S z fb (n+1) l fr' _ K) (fun t' hw'=>IV hK hw') hw h
       ·exact h.elim
     | false =>
       rw [h2] at h
       dsimp only at h ⊢
       exact Gx (K:=fun fr' hp'=>Gw P S z fb (n+1) l fr' hp' K) (fun t' hp' hw'=>IV hK hw') hw h
theorem YT (ops:List Oper) (t:FT):Tu P ops t=JP P ops (AH t):=by
 unfold Tu
 split
 ·rename_i o1 o2
  split
  ·rfl
  ·rename_i e
   unfold JP
   simp only [e]
 ·rename_i h
  unfold JP
  split
  ·rename_i o1 o2;exact (h _ _ rfl).elim
  ·rfl
theorem fM {c:Option (Nat × Nat × List AV)} {fr:List AV} {hp:A0} {X Y:VC} (h:X.sat R->Y.sat R):(Q6 c fr hp X).sat R->(Q6 c fr hp Y).sat R:=by
 unfold Q6
 cases c with
 | none=>exact h
 | some x=>exact fun hh=>⟨hh.1,fun g hg=>h (hh.2 g hg)⟩
theorem fN {c:Option (Nat × Nat × List AV)} {its:List AV} {X Y:VC} (h:X.sat R->Y.sat R):(Q7 c its X).sat R->(Q7 c its Y).sat R:=by
 unfold Q7
 cases c with
 | none=>exact h
 | some x=>exact fun hh=>⟨hh.1,h hh.2⟩
theorem Yg {d gf:Nat} {hp:A0} {caps:List AV} {k1 k2:IN->List AV->Option (Nat × Nat × List AV)->VC} (h:∀ it cv cap,(k1 it cv cap).sat R->(k2 it cv cap).sat R):(PW S d gf hp caps k1).sat R->(PW S d gf hp caps k2).sat R:=by
 unfold PW
 split
 ·split
  ·exact h _ _ _
  ·exact id
 ·split
  ·rw [AK,AK];exact h _ _ _
  ·exact id
theorem lG (ops:List Oper) (t:FT) (hp:A0):lH P ops t hp=Yy P ops (AH t) hp:=by
 unfold lH
 cases h:lI ops with
 | some x=>rfl
 | none=>unfold Yy;rw [h]
theorem FQ:∀ {f:Nat} {l:List AV} {k:FT->VC},(toTK f l k).sat R->∃ t,WT t/\(t=[]↔l=[])/\AH t=l/\(k t).sat R
 | 0,l,k,h=>h.elim
 | f+1,l,k,h=>by
   simp only [toTK] at h
   split at h
   ·exact ⟨[],trivial,by simp,rfl,h⟩
   ·rename_i hne
    simp only [Ae] at h
    obtain ⟨t,h1,h2,h3,h4⟩:=FQ h
    have hl:l≠[]:=hne
    refine ⟨AW l 16::t,⟨⟨by rw [CS];simp;omega,fun ht=>?_⟩,h1⟩,by simp [hl],?_,h4⟩
    ·have:AO l 16≠[]:=fun e=>ht (h2.2 e)
     rw [Aa] at this
     rw [CS,List.length_take]
     have h5:¬ l.length<=16:=fun hle=>this (List.drop_eq_nil_of_le hle)
     omega
    ·show AW l 16++AH t=l
     rw [h3,CS,Aa,List.take_append_drop]
theorem cj:∀ (l r:List AV) (k:List AV->VC),appK l r k=k (l++r)
 | [],_,_=>rfl
 | a::l,r,k=>by simp [appK,cj l r]
theorem FK:∀ (t:FT) (k:List AV->VC),flatTK t k=k (AH t)
 | [],_=>rfl
 | c::t,k=>by simp [flatTK,FK t,lp,cj,AH]
theorem P3 {t x c:Nat} {fr:List AV} {hp:A0} {K K':A0->VC} (hK:∀ hp,(K hp).sat R->(K' hp).sat R) (h:(Lb t x c fr hp K).sat R):(Lb t x c fr hp K').sat R:=by
 unfold Lb at h ⊢
 split at h
 ·rename_i i o hg hc
  try rw [hg,hc]
  try simp only
  split at h
  ·rename_i ty l hb
   try rw [hb]
   try simp only
   split at h
   ·rename_i hn
    try rw [hn]
    simp only [Ae,A8] at h ⊢
    exact hK _ h
   ·exact h.elim
  ·exact h.elim
 ·exact h.elim
theorem Hw {k1 k2:List AV->A0->VC} (hk:∀ fr hp,(k1 fr hp).sat R->(k2 fr hp).sat R):∀ {l:List (Nat × TypeId × Nat)} {fr:List AV} {hp:A0},(KJ l fr hp k1).sat R->(KJ l fr hp k2).sat R
 | [],fr,hp,h=>hk _ _ h
 | (t,e,sz)::l,fr,hp,h=>by
   simp only [KJ] at h ⊢
   split at h
   ·rename_i e1
    try rw [e1]
    try dsimp only at h ⊢
    rw [Aq] at h ⊢
    rw [A8] at h ⊢
    exact Hw hk h
   ·exact P3 (fun _ h=>Hw hk h) h
   ·exact Hw hk h
theorem OP {k1 k2:List AV->VC} (hk:∀ fr,(k1 fr).sat R->(k2 fr).sat R):∀ {ps:List Nat} {as fr:List AV},(setPs ps as fr k1).sat R->(setPs ps as fr k2).sat R
 | [],[],fr,h=>by simp only [setPs] at h ⊢;exact hk _ h
 | p::ps,a::as,fr,h=>by
   simp only [setPs,AT,Aq] at h ⊢
   exact OP hk h
 | [],_::_,fr,h=>by simp only [setPs] at h;exact h.elim
 | _::_,[],fr,h=>by simp only [setPs] at h;exact h.elim
theorem dF {m:Nat} {k1 k2:List AV->VC} (hk:∀ fr,(k1 fr).sat R->(k2 fr).sat R) {l:List AV} {n:Nat} (h:(topM m l n k1).sat R):(topM m l n k2).sat R:=by
 induction l generalizing n k1 k2 with
 | nil=>exact hk _ h
 | cons a l ih =>
   simp only [topM] at h ⊢
   cases hb:Nat.testBit m n with
   | true=>rw [hb] at h;exact ih (fun fr hh=>hk _ hh) h
   | false=>rw [hb] at h;exact ih (fun fr hh=>hk _ hh) h
theorem PV {run:List AV->A0->(AE->List AV->A0->VC)->VC} {runT:FT->A0->(AE->FT->A0->VC)->VC}
  (hrun:∀ {Q:AE->List AV->A0->VC} {QT:AE->FT->A0->VC},(∀ e t hp,WT t->(QT e t hp).sat R->(Q e (AH t) hp).sat R)->∀ {t hp},WT t->(runT t hp QT).sat R->(run (AH t) hp Q).sat R)
  {Q:AE->List AV->A0->VC} {QT:AE->FT->A0->VC} (hQ:∀ e t hp,WT t->(QT e t hp).sat R->(Q e (AH t) hp).sat R):∀ {n:Nat} {t:FT} {hp:A0},WT t->(iterLT runT n t hp QT).sat R->(SN run n (AH t) hp Q).sat R
 | 0,t,hp,hw,h=>h.elim
 | n+1,t,hp,hw,h=>by
   simp only [iterLT,SN] at h ⊢
   refine hrun (fun e t' hp' hw' hh=>?_) hw h
   cases e with
   | normal=>exact PV hrun hQ hw' hh
   | exit j=>exact hQ _ _ _ hw' hh
   | ret=>exact hQ _ _ _ hw' hh
theorem X0 {t:FT} (hw:WT t) (all:List Oper) (g:Option (Nat × Bool)):cM all t g=X1 all (AH t) g:=by
 cases g with
 | none=>rfl
 | some x =>
   obtain ⟨g,w⟩:=x
   unfold cM X1
   dsimp only
   cases Af all g with
   | none=>rfl
   | some d=>dsimp only;rw [Dr hw];rfl
theorem SX {t:FT} (hw:WT t) (all:List Oper) (fl:List Bool):∀ (l:List Oper) (m:List Bool),Mm all fl t l m=KU all fl (AH t) l m
 | [],_=>by cases ‹List Bool› <;> rfl
 | _::_,[]=>rfl
 | o::l,b::m=>by
   simp only [Mm,KU,X0 hw,SX hw all fl l m]
   rfl
theorem MW {all:List Oper} {K:List AV->VC} {KT:FT->VC} (hK:∀ t,WT t->(KT t).sat R->(K (AH t)).sat R):∀ {l:List Oper} {m:List Bool} {t:FT},WT t->(preKT P all l m t KT).sat R->(LL P all l m (AH t) K).sat R
 | [],m,t,hw,h=>by cases m<;>exact hK t hw h
 | _::_,[],t,hw,h=>hK t hw h
 | o::l,b::m,t,hw,h=>by
   simp only [preKT,LL] at h ⊢
   cases b with
   | false=>exact MW hK hw h
   | true =>
     dsimp only at h ⊢
     rw [X0 hw] at h
     cases hg:X1 all (AH t) o.guard with
     | false=>rw [hg] at h;exact h.elim
     | true =>
       rw [hg] at h
       dsimp only at h ⊢
       rw [FJ,Fr hw] at h
       rw [Cy] at h ⊢
       split at h
       ·exact h.elim
       ·rename_i ps a e
        rw [e]
        dsimp only at h ⊢
        rw [FG] at h
        refine EX (fun h=>?_) h
        simp only [AT] at h ⊢
        exact ER (K:=fun fr'=>LL P all l m fr' K) (fun t' hw'=>MW hK hw') hw h
theorem VJ {all:List Oper} {hp:A0} {K:List AV->A0->VC} {KT:FT->A0->VC} (hK:∀ t hp,WT t->(KT t hp).sat R->(K (AH t) hp).sat R) {t:FT} (hw:WT t) (h:(TW P S all t hp KT).sat R):(OV P S all (AH t) hp K).sat R:=by
 unfold TW at h
 unfold OV
 rw [de,ES] at h
 refine MW (fun t' hw' hh=>?_) hw h
 rw [SX hw'] at hh
 split at hh
 ·rename_i e
  rw [e]
  exact HO hK _ _ _ _ _ _ hw' hh
 ·exact hh.elim
theorem YC {lo x c j:Nat} {fr:List AV} {hp:A0} {K K':List AV->A0->VC} (hK:∀ fr hp,(K fr hp).sat R->(K' fr hp).sat R) (h:(NB lo x c j fr hp K).sat R):(NB lo x c j fr hp K').sat R:=by
 have clo:∀ stay,(Jn lo stay j fr hp K).sat R->(Jn lo stay j fr hp K').sat R:=fun stay h=>by
  unfold Jn at h ⊢
  split at h
  ·rename_i hb
   try rw [hb]
   try simp only
   split at h
   ·rename_i hb2
    try rw [hb2]
    try simp only
    split at h
    ·rename_i hd
     try rw [hd]
     simp only [AK,A8] at h ⊢
     exact hK _ _ h
    ·exact h.elim
   ·exact h.elim
  ·exact h.elim
 unfold NB at h ⊢
 generalize c % 64=q at h ⊢
 match q,h with
 | 1,h =>
   change (Qz _ _ _ _ _).sat R at h
   show (Qz _ _ _ _ _).sat R
   unfold Qz at h ⊢
   split at h
   ·rename_i hb hx
    try rw [hb,hx]
    simp only [A8] at h ⊢
    exact ⟨h.1,h.2.1,hK _ _ h.2.2⟩
   ·exact h.elim
 | 2,h=>exact clo _ h
 | 3,h=>exact clo _ h
 | 4,h =>
   change (Qx _ _ _ _ _).sat R at h
   show (Qx _ _ _ _ _).sat R
   unfold Qx at h ⊢
   split at h
   ·rename_i hb
    try rw [hb]
    try simp only
    split at h
    ·rename_i hd
     try rw [hd]
     simp only [A8] at h ⊢
     exact hK _ _ h
    ·exact h.elim
   ·exact h.elim
 | 0,h=>exact h.elim
 | 6,h =>
   change (ey _ _ _ _ _).sat R at h
   show (ey _ _ _ _ _).sat R
   unfold ey at h ⊢
   split at h
   ·rename_i hb
    try rw [hb]
    try simp only
    split at h
    ·rename_i hd
     try rw [hd]
     simp only [AK,A8] at h ⊢
     exact hK _ _ h
    ·exact h.elim
   ·exact h.elim
 | 7,h =>
   change (R4 _ _ _ _ _).sat R at h
   show (R4 _ _ _ _ _).sat R
   unfold R4 at h ⊢
   split at h
   ·rename_i hb
    try rw [hb]
    simp only [A8] at h ⊢
    exact ⟨h.1,hK _ _ h.2⟩
   ·exact h.elim
 | 5,h=>exact h.elim
 | n+8,h =>
   simp only at h ⊢
   split at h
   ·rename_i hd
    try rw [hd]
    try simp only
    unfold Ng at h ⊢
    split at h
    ·rename_i hb hs
     try rw [hb,hs]
     simp only [A8] at h ⊢
     exact ⟨h.1,hK _ _ h.2⟩
    ·exact h.elim
   ·exact h.elim
theorem Fq {lo:Nat} {K K':List AV->A0->VC} (hK:∀ fr hp,(K fr hp).sat R->(K' fr hp).sat R):∀ {l:List (Nat × TypeId × Nat)} {fr:List AV} {hp:A0},(I6 lo l fr hp K).sat R->(I6 lo l fr hp K').sat R
 | [],fr,hp,h=>hK _ _ h
 | (t,x,c)::l,fr,hp,h=>by
   unfold I6 at h ⊢
   split at h
   ·rename_i hc
    try rw [hc]
    try simp only
    split at h
    ·rename_i hr
     try rw [hr]
     exact YC (fun _ _ h=>Fq hK h) h
    ·rename_i hr
     try rw [hr]
     exact P3 (fun _ h=>Fq hK h) h
   ·rename_i hc
    try rw [hc]
    try simp only
    split at h
    ·rename_i hg
     try rw [hg]
     try simp only
     split at h
     ·rename_i hb
      try rw [hb]
      try simp only
      split at h
      ·rename_i hn hj
       try rw [hn,hj]
       simp only [AK,A8] at h ⊢
       exact Fq hK h
      ·exact h.elim
     ·exact h.elim
    ·rename_i hg
     try rw [hg]
     try simp only
     split at h
     ·rename_i hb
      try rw [hb]
      try simp only
      split at h
      ·rename_i hj
       try rw [hj]
       simp only [AK,A8] at h ⊢
       exact Fq hK h
      ·exact h.elim
     ·exact h.elim
    ·rename_i hg
     try rw [hg]
     try simp only
     split at h
     ·rename_i hb
      try rw [hb]
      try simp only
      split at h
      ·rename_i hj
       try rw [hj]
       simp only [AK,A8] at h ⊢
       exact Fq hK h
      ·exact h.elim
     ·exact h.elim
    ·exact h.elim
theorem Yo {I:Cz} {lo id:Nat} {K:List AV->A0->VC} {KT:FT->A0->VC} (hK:∀ t hp,WT t->(KT t hp).sat R->(K (AH t) hp).sat R) {t:FT} {hp:A0} (hw:WT t) (h:(Yp I lo id t hp KT).sat R):(Wo I lo id (AH t) hp K).sat R:=by
 unfold Yp at h
 unfold Wo
 cases hf:AL I (id+2097152) with
 | none=>rw [hf] at h;exact hK _ _ hw h
 | some x =>
   obtain ⟨l,a⟩:=x
   rw [hf] at h
   simp only [FA,FK,SR,Fy] at h ⊢
   refine Fq (fun fr hp h=>?_) h
   obtain ⟨t',h1,_,h3,h4⟩:=FQ h
   have:=hK _ _ h1 h4
   rwa [h3] at this
theorem NT {k kT:Nat->VC} (hk:∀ i,(kT i).sat R->(k i).sat R):∀ {l:List Nat},(Jq l kT).sat R->(Jq l k).sat R
 | [],h=>h
 | i::l,h=>by
   unfold Jq at h ⊢
   exact ⟨hk i h.1,fun g hg=>NT hk (h.2 g hg)⟩
theorem G1 {all:List Oper} {K:List AV->A0->VC} {KT:FT->A0->VC} (hK:∀ t hp,WT t->(KT t hp).sat R->(K (AH t) hp).sat R):∀ {f:Nat} {D:List Nat} {t:FT} {hp:A0},WT t->(runAnyT P S all f D t hp KT).sat R->(FW P S all f D (AH t) hp K).sat R
 | 0,D,t,hp,hw,h=>h.elim
 | f+1,D,t,hp,hw,h=>by
   simp only [runAnyT,FW,Ee] at h ⊢
   rw [show H7 t=A4 (AH t) from funext fun i=>Dr hw i] at h
   split at h
   ·rename_i i o ps a e
    simp only [e]
    simp only [AT] at h
    refine EX (fun h=>?_) h
    exact ER (K:=fun fr'=>FW P S all f (i::D) fr' hp K) (fun t' hw'=>G1 hK hw') hw h
   ·rename_i e
    simp only [e]
    split at h
    ·rename_i d c e2
     simp only [e2]
     exact ⟨fun hc=>Df (K:=fun fr'=>FW P S all f D fr' hp K) (fun t' hw'=>G1 hK hw') hw (h.1 hc),fun hc=>Df (K:=fun fr'=>FW P S all f D fr' hp K) (fun t' hw'=>G1 hK hw') hw (h.2 hc)⟩
    ·rename_i e1
     simp only [e1]
     split at h
     ·rename_i e2
      simp only [e2]
      exact GS hK hw h
     ·rename_i i0 l0 e2
      simp only [e2]
      refine NT (fun i hh=>?_) h
      split at hh
      ·rename_i o e3
       split at hh
       ·rename_i e4
        simp only [e3,e4]
        exact Gx (K:=fun fr' hp'=>FW P S all f (i::D) fr' hp' K) (fun t' hp' hw'=>G1 hK hw') hw hh
       ·exact hh.elim
      ·exact hh.elim
theorem DU {U:Nat} {I:Cz}:∀ (c:Code) {Q:AE->List AV->A0->VC} {QT:AE->FT->A0->VC},(∀ e t hp,WT t->(QT e t hp).sat R->(Q e (AH t) hp).sat R) ->
  ∀ {t:FT} {hp:A0},WT t->(wpAT P S U I c t hp QT).sat R->(Hj P S U I c (AH t) hp Q).sat R
 | .skip,Q,QT,hQ,t,hp,hw,h=>by simp only [wpAT,Hj] at h ⊢;exact hQ _ _ _ hw h
 | .region id ops dr,Q,QT,hQ,t,hp,hw,h=>by
   simp only [wpAT,Hj,ES,Fk,Fi,Fo,FA,Gf,H2,KA,K_,Fy,AN,GZ,Hn,VK] at h ⊢
   refine Yo (fun t hp hw h=>?_) hw h
   cases dr with
   | true =>
     dsimp only at h ⊢
     cases h0:AL I (id+4194304) with
     | some x =>
       rw [h0] at h
       dsimp only at h ⊢
       split at h
       ·rename_i e
        simp only [e]
        exact G1 (hQ .normal) hw h
       ·exact h.elim
     | none =>
     rw [h0] at h
     dsimp only at h ⊢
     cases h1:QP ops.toList 0 ops.toList with
     | none =>
       rw [h1] at h
       dsimp only at h ⊢
       cases h3:ay S ops.toList with
       | true=>rw [h3] at h;exact VJ (hQ .normal) hw h
       | false =>
         rw [h3] at h
         dsimp only at h ⊢
         cases h2:az S ops.toList with
         | false=>rw [h2] at h;exact HO (hQ .normal) _ _ _ _ _ _ hw h
         | true =>
           rw [h2] at h
           exact KZ (fun t' hw' hh=>HO (hQ .normal) _ _ _ _ _ _ hw' hh) hw h
     | some z =>
       rw [h1] at h
       dsimp only at h ⊢
       cases h2:Nat.blt z.d (AH t).length with
       | false=>rw [h2] at h;exact h.elim
       | true =>
         rw [h2] at h
         exact Df (fun t' hw' hh=>IV (hQ .normal) hw' hh) hw h
   | false =>
     dsimp only at h ⊢
     rw [YT] at h
     cases h1:JP P ops.toList (AH t) with
     | none =>
       rw [h1] at h
       dsimp only at h ⊢
       rw [lG] at h
       cases h2:Yy P ops.toList (AH t) hp with
       | none=>rw [h2] at h;exact HO (hQ .normal) _ _ _ _ _ _ hw h
       | some z =>
         rw [h2] at h
         dsimp only at h ⊢
         unfold lE at h
         unfold lF
         rw [Dr hw] at h
         rw [A8] at h ⊢
         exact Df (K:=fun f=>EF f z.d2 .top fun f=>EF f z.d3 (A4 (AH t) z.s) fun f=>EF f z.d4 .top fun f=>Q .normal f (XJ z hp)) (fun t1 w1=>Df (K:=fun f=>EF f z.d3 (A4 (AH t) z.s) fun f=>EF f z.d4 .top fun f=>Q .normal f (XJ z hp)) (fun t2 w2=>Df (K:=fun f=>EF f z.d4 .top fun f=>Q .normal f (XJ z hp)) (fun t3 w3=>Df (K:=fun f=>Q .normal f (XJ z hp)) (fun t4 w4=>hQ .normal t4 _ w4) w3) w2) w1) hw h
     | some x =>
       obtain ⟨s,a,b,n⟩:=x
       rw [h1] at h
       dsimp only at h ⊢
       unfold jJ at h
       unfold sZ
       rw [Dr hw] at h
       have two:∀ v:AV,(Eu t a (A4 (AH t) s) fun f=>Eu f b v fun f=>QT .normal f hp).sat R->(EF (AH t) a (A4 (AH t) s) fun f=>EF f b v fun f=>Q .normal f hp).sat R:=fun v hh =>
        Df (K:=fun f=>EF f b v fun f=>Q .normal f hp) (fun t' hw' h'=>Df (K:=fun f=>Q .normal f hp) (fun t'' hw''=>hQ .normal t'' hp hw'') hw' h') hw hh
       exact ⟨⟨fun hb=>two _ (h.1.1 hb),h.1.2⟩,fun g hg=>two _ (h.2 g hg)⟩
 | .seq a b,Q,QT,hQ,t,hp,hw,h=>by
   simp only [wpAT,Hj,ES,Fk,Fi,Fo,FA,Gf,H2,KA,K_,Fy,AN,GZ,Hn] at h ⊢
   cases hcut:AL I (qb b) with
   | none =>
     rw [hcut] at h
     dsimp only at h ⊢
     refine DU a (fun e t' hp' hw' hh=>?_) hw h
     cases e with
     | normal=>exact DU b hQ hw' hh
     | exit j=>exact hQ _ _ _ hw' hh
     | ret=>exact hQ _ _ _ hw' hh
   | some x =>
     obtain ⟨nl,ann⟩:=x
     rw [hcut] at h
     dsimp only at h ⊢
     rw [FK] at h
     refine ⟨DU a (fun e t' hp' hw' hh=>?_) hw h.1,fun g hg=>?_⟩
     ·cases e with
      | normal =>
        dsimp only at hh ⊢
        rw [FK] at hh
        exact hh
      | exit j=>exact hQ _ _ _ hw' hh
      | ret=>exact hQ _ _ _ hw' hh
     ·have h2:=h.2 g hg
      dsimp only at h2 ⊢
      rw [Ae] at h2 ⊢
      rw [A8] at h2 ⊢
      obtain ⟨t',h3,_,h4,h5⟩:=FQ h2
      rw [<- h4]
      exact DU b hQ h3 h5
 | .cond c a b,Q,QT,hQ,t,hp,hw,h=>by
   simp only [wpAT,Hj,ES,Fk,Fi,Fo,FA,Gf,H2,KA,K_,Fy,AN,GZ,Hn] at h ⊢
   split at h
   ·try dsimp only at h ⊢
    refine UT (fun x t' hw' hh=>?_) hw h
    cases x with
    | true=>exact DU a hQ hw' hh
    | false=>exact DU b hQ hw' hh
   ·exact DU a hQ hw h
   ·exact DU b hQ hw h
   ·exact h.elim
 | .block id c,Q,QT,hQ,t,hp,hw,h=>by
   simp only [wpAT,Hj,ES,Fk,Fi,Fo,FA,Gf,H2,KA,K_,Fy,AN,GZ,Hn] at h ⊢
   refine DU c (fun e t' hp' hw' hh=>?_) hw h
   cases e with
   | normal=>exact hQ _ _ _ hw' hh
   | exit j =>
     dsimp only at hh ⊢
     cases hb:Nat.beq id j with
     | true=>rw [hb] at hh;exact hQ _ _ _ hw' hh
     | false=>rw [hb] at hh;exact hQ _ _ _ hw' hh
   | ret=>exact hQ _ _ _ hw' hh
 | .loop c,Q,QT,hQ,t,hp,hw,h=>by
   simp only [wpAT,Hj,ES,Fk,Fi,Fo,FA,Gf,H2,KA,K_,Fy,AN,GZ,Hn] at h ⊢
   cases h1:AL I (Cv c) with
   | none =>
     rw [h1] at h
     exact PV (fun {_ _} hQ' {_ _} hw' hh=>DU c hQ' hw' hh) hQ hw h
   | some x =>
     obtain ⟨nils,ann⟩:=x
     rw [h1] at h
     dsimp only at h ⊢
     rw [FK] at h
     refine Hw (fun fr hp' hh=>?_) h
     refine ⟨hh.1,fun g hg=>?_⟩
     have h2:=hh.2 g hg
     dsimp only at h2 ⊢
     rw [Ae] at h2 ⊢
     rw [A8] at h2 ⊢
     obtain ⟨t',h3,_,h4,h5⟩:=FQ h2
     rw [<- h4]
     refine DU c (fun e t'' hp'' hw'' h6=>?_) h3 h5
     cases e with
     | normal =>
       dsimp only at h6 ⊢
       rw [FK] at h6
       exact h6
     | exit j=>exact hQ _ _ _ hw'' h6
     | ret=>exact hQ _ _ _ hw'' h6
 | .rangeFunc g ps assign body,Q,QT,hQ,t,hp,hw,h=>by
   simp only [wpAT,Hj,ES,Fk,Fi,Fo,FA,Gf,H2,KA,K_,Fy,AN,GZ,Hn] at h ⊢
   have key:∀ (x:Items) (cap:Option (Nat × Nat × List AV)),((match AL I (eQ assign body) with
     | none=>VC.fail
     | some (nils,ann)=>flatTK t fun fr=>KJ nils fr hp fun fr hp =>
       let A:=ann fr hp
       .loop (A:=A) A.dat (fA S.lo A 0 fr hp) fun g=>Av (A.st g).fr fun fr=>forceH (A.st g).hp fun hp=>Q6 cap fr hp (
        .branch (mI (A.mu g) x.n)
         (Q7 cap (x.it (A.mu g)) (setPs ps.toList (x.it (A.mu g)) fr fun fr1=>toTK 64 fr1 fun t1=>wpAT P S U I assign t1 hp fun e t2 hp2=>match e with
          | .normal=>wpAT P S U I body t2 hp2 fun e t3 hp3=>flatTK t3 fun fr3=>topM (Nat.lor (Kj ps.toList) (Nat.lor (EY assign) (EY body))) fr3 0 fun fr4=>match e with
            | .normal=>fA S.lo A (Ii (A.mu g) 1) fr4 hp3
            | e=>toTK 64 fr4 fun t4=>QT e t4 hp3
          | _=>.fail))
         (toTK 64 fr fun t=>QT .normal t hp))):VC).sat R->((match AL I (eQ assign body) with
     | none=>VC.fail
     | some (nils,ann)=>KJ nils (AH t) hp fun fr hp =>
       let A:=ann fr hp
       .loop (A:=A) A.dat (fA S.lo A 0 fr hp) fun g=>Av (A.st g).fr fun fr=>forceH (A.st g).hp fun hp=>Q6 cap fr hp (
        .branch (mI (A.mu g) x.n)
         (Q7 cap (x.it (A.mu g)) (setPs ps.toList (x.it (A.mu g)) fr fun fr1=>Hj P S U I assign fr1 hp fun e fr2 hp2=>match e with
          | .normal=>Hj P S U I body fr2 hp2 fun e fr3 hp3=>topM (Nat.lor (Kj ps.toList) (Nat.lor (EY assign) (EY body))) fr3 0 fun fr4=>match e with
            | .normal=>fA S.lo A (Ii (A.mu g) 1) fr4 hp3
            | e=>Q e fr4 hp3
          | _=>.fail))
         (Q .normal fr hp))):VC).sat R:=fun x cap h=>by
    cases h1:AL I (eQ assign body) with
    | none=>rw [h1] at h;exact h.elim
    | some y =>
      obtain ⟨nils,ann⟩:=y
      rw [h1] at h
      dsimp only at h ⊢
      rw [FK] at h
      refine Hw (fun fr hp' hh=>?_) h
      refine ⟨hh.1,fun g hg=>?_⟩
      have h2:=hh.2 g hg
      dsimp only at h2 ⊢
      rw [Ae] at h2 ⊢
      rw [A8] at h2 ⊢
      refine fM (fun h2=>?_) h2
      refine ⟨fun hb=>?_,fun hb=>?_⟩
      ·refine fN (fun h2=>?_) (h2.1 hb)
       refine OP (fun fr1 h3=>?_) h2
       obtain ⟨t1,g1,_,g2,g3⟩:=FQ h3
       rw [<- g2]
       refine DU assign (fun e t2 hp2 hw2 h4=>?_) g1 g3
       cases e with
       | normal =>
         refine DU body (fun e t3 hp3 hw3 h5=>?_) hw2 h4
         rw [FK] at h5
         refine dF (fun fr4 h6=>?_) h5
         cases e with
         | normal=>exact h6
         | exit j =>
           dsimp only at h6 ⊢
           obtain ⟨t4,k1,_,k2,k3⟩:=FQ h6
           rw [<- k2];exact hQ _ _ _ k1 k3
         | ret =>
           dsimp only at h6 ⊢
           obtain ⟨t4,k1,_,k2,k3⟩:=FQ h6
           rw [<- k2];exact hQ _ _ _ k1 k3
       | exit j=>exact h4.elim
       | ret=>exact h4.elim
      ·obtain ⟨t1,g1,_,g2,g3⟩:=FQ (h2.2 hb)
       rw [<- g2];exact hQ _ _ _ g1 g3
   unfold cc at h
   simp only [FG] at h
   unfold Z5
   cases g with
   | tmp d =>
     dsimp only at h ⊢
     rw [Dr hw] at h
     split at h
     ·rename_i gf caps e
      rw [e]
      dsimp only at h ⊢
      refine Yg (fun it cv cap h=>?_) h
      split at h
      ·rename_i x e3
       rw [e3]
       exact EX (key x cap) h
      ·exact h.elim
     ·exact h.elim
   | const v=>exact h.elim
   | global v=>exact h.elim
   | func v=>exact h.elim
 | .exit id,Q,QT,hQ,t,hp,hw,h=>by simp only [wpAT,Hj] at h ⊢;exact hQ _ _ _ hw h
 | .ret,Q,QT,hQ,t,hp,hw,h=>by simp only [wpAT,Hj] at h ⊢;exact hQ _ _ _ hw h
 | .scope _,Q,QT,hQ,t,hp,hw,h=>by simp only [wpAT] at h;exact h.elim
theorem LH {t:FT} (hw:WT t) (hp:A0):∀ (l:List ResultVar) (k:List AV->VC),resKT P t hp l k=TY P (AH t) hp l k
 | [],_=>rfl
 | .tmp i::l,k=>by simp only [resKT,TY,LH hw hp l,Dr hw]
 | .cell a ty::l,k=>by
   simp only [resKT,TY,LH hw hp l,Dr hw]
   rfl
theorem Un {U:Nat} {I:Cz} {fn:Func} {args:List AV} {hp:A0} (h:(mR P S U I fn args hp).sat R):(wpF P S U I fn args hp).sat R:=by
 unfold mR at h
 simp only [Fy,g9,dY] at h
 unfold wpF
 cases hb:fn.body with
 | none=>rw [hb] at h;exact h.elim
 | some c =>
   rw [hb] at h
   dsimp only at h ⊢
   rw [Ae] at h ⊢
   obtain ⟨t,h1,_,h2,h3⟩:=FQ h
   rw [<- h2]
   refine DU c (fun e t' hp' hw' hh=>?_) h1 h3
   cases e with
   | exit j=>exact hh.elim
   | normal=>dsimp only at hh ⊢;rw [LH hw'] at hh;exact hh
   | ret=>dsimp only at hh ⊢;rw [LH hw'] at hh;exact hh
end
end
end Abs
end Go.Proofs.YtccgngldoinokaaGreat

namespace Go.Proofs.YtccgngldoinokaaGreat
namespace Abs
open Go Go.RowKit
section
variable {P:Program} {S:Sums} {C C':Cx} {w w':World} {H hp:A0}
theorem Fb:∀ {l m:List Cd},(∀ p∈Nf l m,p.ok)->(∀ p∈l,p.ok)/\∀ p∈m,p.ok
 | [],m,h=>⟨fun p hp=>by simp at hp,h⟩
 | p::l,m,h=>by
   obtain ⟨h1,h2⟩:=Fb (l:=l) (m:=m) fun q hq=>h q (List.mem_cons_of_mem _ hq)
   exact ⟨fun q hq=>by
    rcases List.mem_cons.1 hq with rfl|hq
    ·exact h _ (List.mem_cons_self ..)
    ·exact h1 q hq,h2⟩
theorem qQ:∀ {s:Sh} {x:fj s},Z3 s=true->LX (enc s x)=true
 | .int k,x,_=>by simp [enc,LX]
 | .bool,x,_=>by simp [enc,LX]
 | .slice sz e,x,_=>by simp [enc,LX]
 | .agg l,x,h=>by cases h
 | .fn _ _ _,x,h=>by cases h
 | .ptr _,x,h=>by cases h
 | .own _ _,x,h=>by cases h
 | .rowr _,x,h=>by cases h
 | .mpr _,x,h=>by cases h
 | .any,x,h=>by cases h
theorem Lz:∀ {l:List Sh} {x:Ad l},GU l=true->DV (Ab l x)=true
 | [],_,_=>by simp [Ab,DV]
 | s::l,x,h=>by
   simp [GU] at h
   simp [Ab,DV,qQ h.1,Lz h.2]
theorem G7:∀ {l:List Sh} {x:Ad l},(Ab l x).length=l.length
 | [],_=>by simp [Ab]
 | s::l,x=>by simp [Ab,G7]
mutual
theorem fD:∀ {s:Sh} {x:fj s},aa s=true->ownIn (enc s x)=false
 | .int k,x,_=>by simp [enc,ownIn]
 | .bool,x,_=>by simp [enc,ownIn]
 | .slice sz e,x,_=>by simp [enc,ownIn]
 | .agg l,x,h=>by
   unfold aa at h
   simp only [enc,ownIn]
   exact H9 h
 | .fn _ a b,x,h=>by
   unfold aa at h
   simp only [Bool.and_eq_true] at h
   simp only [enc,ownIn]
   rw [H9 h.1,H9 h.2];rfl
 | .ptr _,x,_=>by simp [enc,ownIn]
 | .own _ _,x,h=>by cases h
 | .rowr _,x,h=>by cases h
 | .mpr _,x,h=>by cases h
 | .any,x,h=>by cases h
theorem H9:∀ {l:List Sh} {x:Ad l},Kf l=true->ownIn.ownInL (Ab l x)=false
 | [],_,_=>by simp [Ab,ownIn.ownInL]
 | s::l,x,h=>by
   unfold Kf at h
   simp only [Bool.and_eq_true] at h
   simp only [Ab,ownIn.ownInL]
   rw [fD h.1,H9 h.2];rfl
end
theorem VZ:∀ (l:List Sh) (m:List AV),(KG l m).length<=m.length
 | [],_=>Nat.zero_le _
 | _::_,[]=>Nat.le_refl _
 | _::l,_::m=>by
   have:=VZ l m
   simp only [KG,List.length_cons];omega
theorem VY:∀ (l:List Sh) {m:List AV} {vs:List Value},RelL C w m vs->RelL C w (KG l m) (vs.take (KG l m).length)
 | [],_,_,_=>by simp only [KG,List.length_nil,List.take_zero];exact .nil
 | _::_,_,_,.nil=>by simp only [KG,List.length_nil,List.take_zero];exact .nil
 | _::l,_,_,.cons _ _ _ _ h h'=>by
   simp only [KG,List.length_cons,List.take_succ_cons]
   exact .cons _ _ _ _ h (VY l h')
mutual
theorem qR:∀ {s:Sh} {a:AV} {v:Value},D1 s a=true->BL s a->Rel C w a v->Rel C w (enc s (NO s a)) v
 | .int k,a,v,h,_,hr=>by
   unfold D1 at h
   split at h
   ·rename_i k' hk
    have h:=of_decide_eq_true h
    subst h
    rw [AJ hr hk]
    simp only [enc,NO]
    exact .si _ _
   ·cases h
 | .bool,a,v,h,_,hr=>by
   unfold D1 at h
   simp only [enc,NO]
   cases a<;>simp [K4] at h
   ·cases hr;exact .sb _
   ·cases hr;exact .sb _
 | .slice sz e,a,v,h,hc,hr=>by
   unfold D1 at h
   simp only [Bool.and_eq_true] at h
   obtain ⟨hcs,h⟩:=h
   split at h
   ·rename_i n sz' el
    obtain rfl:=Nat.eq_of_beq_eq_true h
    unfold BL at hc
    unfold enc NO
    cases hr with
    | slc _ _ _ A cap vs hcap hA hr hl hn =>
      exact .slc (.sym n.val) sz _ A cap vs hcap hA (fun k hk=>E1 (hc k hk) (hr k hk)) hl (fun k hk=>Lz hcs)
   ·cases hr
    unfold enc NO
    exact .slc (.sym 0) sz _ none 0 (fun _=>[]) (Nat.le_refl _) (fun h=>by simp [LN.val] at h) (fun k hk=>by simp [LN.val] at hk) (fun k hk=>by simp [LN.val] at hk) (fun k hk=>by simp [LN.val] at hk)
   ·cases h
 | .agg l,a,v,h,hc,hr=>by
   unfold BL at hc
   split at hc
   ·rename_i m
    cases hr with
    | agg _ vs hr =>
      unfold enc NO
      exact .agg _ vs (E1 hc hr)
   ·exact hc.elim
 | .fn f a b,x,v,h,hc,hr=>by
   unfold D1 at h
   unfold BL at hc
   split at h
   ·rename_i g l m
    simp only [Bool.and_eq_true] at h
    obtain rfl:=Nat.eq_of_beq_eq_true h.1.1
    cases hr with
    | fn _ _ _ vs ws h1 h2 =>
      unfold enc NO
      exact .fn _ _ _ vs ws (E1 hc.1 h1) (E1 hc.2 h2)
   ·cases h
 | .ptr l,a,v,h,hc,hr=>by
   unfold D1 at h
   unfold BL at hc
   split at h
   ·rename_i m
    simp only [Bool.and_eq_true] at h
    cases hr with
    | xp _ ad vs hr hI hcl hn =>
      unfold enc NO
      show Rel C w (.xp (Ab l (DP l (KG l m)))) _
      have h0:=VY l hr
      have h1:=E1 hc h0
      have h2:=h1.len
      have h3:=h0.len
      have h5:=VZ l m
      refine .xp _ ad (vs.take (KG l m).length) h1 (fun hne=>hI fun e=>hne ?_) (fun j hj=>?_) (H9 h.1)
      ·have h4:m.length=0:=by rw [e];rfl
       exact List.length_eq_zero_iff.1 (by omega)
      ·have h6:j<(KG l m).length:=by omega
       rw [hcl j (by omega),List.getElem?_take_of_lt h6]
   ·cases h
 | .own i off,a,v,h,_,hr=>by
   unfold D1 at h
   split at h
   ·simp only [Bool.and_eq_true] at h
    obtain rfl:=Nat.eq_of_beq_eq_true h.1
    obtain rfl:=Nat.eq_of_beq_eq_true h.2
    unfold enc;exact hr
   ·cases h
 | .rowr i,a,v,h,_,hr=>by
   unfold D1 at h
   split at h
   ·obtain rfl:=Nat.eq_of_beq_eq_true h
    unfold enc;exact hr
   ·cases h
 | .mpr i,a,v,h,_,hr=>by
   unfold D1 at h
   split at h
   ·obtain rfl:=Nat.eq_of_beq_eq_true h
    unfold enc;exact hr
   ·cases h
 | .any,a,v,_,_,hr=>by unfold enc NO;exact hr
theorem E1:∀ {l:List Sh} {m:List AV} {vs:List Value},EO l m->RelL C w m vs->RelL C w (Ab l (DP l m)) vs
 | [],m,vs,h,hr=>by
   unfold EO at h
   split at h
   ·cases hr;unfold Ab;exact .nil
   ·exact h.elim
 | s::l,m,vs,h,hr=>by
   unfold EO at h
   split at h
   ·rename_i a m
    cases hr with
    | cons _ _ v vs h1 h2 =>
      unfold Ab DP
      exact .cons _ _ _ _ (qR h.1 h.2.1 h1) (E1 h.2.2 h2)
   ·exact h.elim
end
mutual
theorem wv:∀ {s:Sh} {a:AV},D1 s a=true->(∀ p∈Q8 s a,p.ok)->BL s a
 | .int k,a,_,_=>by unfold BL;trivial
 | .bool,a,_,_=>by unfold BL;trivial
 | .any,a,_,_=>by unfold BL;trivial
 | .own _ _,a,_,_=>by unfold BL;trivial
 | .rowr _,a,_,_=>by unfold BL;trivial
 | .mpr _,a,_,_=>by unfold BL;trivial
 | .slice sz e,a,h,hc=>by
   unfold BL
   split
   ·rename_i n sz' el
    exact hc ⟨MI e,(n.val,el)⟩ (by unfold Q8;exact List.mem_singleton.2 rfl)
   ·trivial
 | .agg l,a,h,hc=>by
   unfold D1 at h
   unfold BL
   split at h
   ·rename_i m
    exact Fx h (fun p hp=>hc p (by unfold Q8;exact hp))
   ·cases h
 | .fn f a b,v,h,hc=>by
   unfold D1 at h
   unfold BL
   split at h
   ·rename_i g l m
    simp only [Bool.and_eq_true] at h
    obtain ⟨h1,h2⟩:=Fb (l:=canShL a l) (m:=canShL b m) fun p hp=>hc p (by unfold Q8;exact hp)
    exact ⟨Fx h.1.2 h1,Fx h.2 h2⟩
   ·cases h
 | .ptr l,a,h,hc=>by
   unfold D1 at h
   unfold BL
   split at h
   ·rename_i m
    simp only [Bool.and_eq_true] at h
    exact Fx h.2 (fun p hp=>hc p (by unfold Q8;exact hp))
   ·cases h
theorem Fx:∀ {l:List Sh} {m:List AV},okShL l m=true->(∀ p∈canShL l m,p.ok)->EO l m
 | [],m,h,_=>by
   unfold okShL at h
   unfold EO
   split at h
   ·trivial
   ·cases h
 | s::l,m,h,hc=>by
   unfold okShL at h
   unfold EO
   split at h
   ·rename_i a m
    simp only [Bool.and_eq_true] at h
    obtain ⟨h1,h2⟩:=Fb (l:=Q8 s a) (m:=canShL l m) fun p hp=>hc p (by unfold canShL;exact hp)
    exact ⟨h.1,wv h.1 h1,Fx h.2 h2⟩
   ·cases h
end
structure Spec (shs:List Sh) where
 pre:Ad shs->Prop
 res:Ad shs->AV
noncomputable def A_ (shs:List Sh) (sp:Spec shs):Kz:=fun args=>match Kc shs args with
 | true=>Jm shs args fun x=>some ⟨Nf (Iv shs args) [⟨sp.pre,x⟩],sp.res x,[]⟩
 | false=>none
mutual
theorem qW {β:Type 1}:∀ {s:Sh} {a:AV} {f:fj s->β},D1 s a=true->M3 s a f=f (NO s a)
 | .int k,a,f,h=>by
   unfold D1 at h
   cases a<;>simp [AD] at h<;>simp [M3,NO,AA]
 | .bool,a,f,h=>by
   unfold D1 at h
   cases a<;>simp [K4] at h<;>simp [M3,NO,Fu]
 | .slice sz e,a,f,h=>by
   unfold D1 at h
   simp only [Bool.and_eq_true] at h
   obtain ⟨_,h⟩:=h
   split at h
   ·rename_i n _ el;unfold M3 NO;cases n<;>rfl
   ·unfold M3 NO;rfl
   ·cases h
 | .agg l,a,f,h=>by
   unfold D1 at h
   split at h
   ·unfold M3 NO;exact Ex h
   ·cases h
 | .fn _ x y,a,f,h=>by
   unfold D1 at h
   split at h
   ·simp only [Bool.and_eq_true] at h
    unfold M3 NO
    simp only
    rw [Ex h.1.2,Ex h.2]
   ·cases h
 | .ptr l,a,f,h=>by
   unfold D1 at h
   split at h
   ·simp only [Bool.and_eq_true] at h
    unfold M3 NO;exact Ex h.2
   ·cases h
 | .own _ _,a,f,_=>by unfold M3 NO;rfl
 | .rowr _,a,f,_=>by unfold M3 NO;rfl
 | .mpr _,a,f,_=>by unfold M3 NO;rfl
 | .any,a,f,_=>by unfold M3 NO;rfl
theorem Ex {β:Type 1}:∀ {l:List Sh} {m:List AV} {f:Ad l->β},okShL l m=true->decKL l m f=f (DP l m)
 | [],m,f,h=>by unfold decKL DP;rfl
 | s::l,m,f,h=>by
   unfold okShL at h
   split at h
   ·simp only [Bool.and_eq_true] at h
    unfold decKL DP
    simp only
    rw [qW h.1,Ex h.2]
   ·cases h
end
theorem Fn.weaken {f:FuncId} {args args':List AV} {r:AV} {H':A0} (h:Fn P f args' H r H') (hw:∀ (C:Cx) (w:World) (vs:List Value),RelL C w args vs->RelL C w args' vs):Fn P f args H r H' :=
 fun C w vs hO hH ha=>h C w vs hO hH (hw C w vs ha)
def FnSpec (P:Program) (f:FuncId) (shs:List Sh) (sp:Spec shs):Prop:=∀ x:Ad shs,sp.pre x->Fn P f (Ab shs x) [] (sp.res x) []
theorem WI {f:FuncId} {shs:List Sh} {sp:Spec shs} (h:FnSpec P f shs sp):∀ args pre res new,A_ shs sp args=some ⟨pre,res,new⟩->(∀ p∈pre,p.ok)->Fn P f args [] res new:=by
 intro args pre res new hm hp
 unfold A_ at hm
 simp only [Gc,IF,HB] at hm
 split at hm
 ·rename_i hok
  rw [Ex hok] at hm
  injection hm with hm;injection hm with h1 h2 h3
  subst h1 h2 h3
  obtain ⟨h4,h5⟩:=Fb hp
  exact (h _ (h5 _ (List.mem_singleton.2 rfl))).weaken fun C w vs ha=>E1 (Fx hok h4) ha
 ·cases hm
theorem SumsOK.nil (P:Program) (lo:Nat) (eqs:List (Nat × List (Option IntKind))) (h:∀ t ks,AL eqs t=some ks->EqOK P t ks):SumsOK P ⟨[],[],lo,eqs,[],[]⟩ :=
 ⟨(fun _ _ h=>by cases h),(fun _ _ h=>by cases h),h,(fun _ _ h=>by cases h),(fun _ _ h=>by cases h),(fun _ _ h=>by cases h)⟩
theorem SumsOK.addIt {one : List (Nat × Kz)} {two : List (Nat × Ey)} {lo : Nat} {eqs : List (Nat × List (Option IntKind))} {its : List (Nat × IN)} {imm : List Nat} (hS : SumsOK P ⟨one, two, lo, eqs, its, imm⟩) {f : FuncId} {fn : Func} (hf : P.funcs[f]? = some fn) (hn : (fn.name == "runtime.NumGoroutine") = false) (hb : fn.body.isNone = false)
  {it:IN} (h:IterOK P f it) (hlt:f<1048576:=by decide):SumsOK P ⟨one,two,lo,eqs,(f,it)::its,imm⟩:=by
 refine ⟨hS.one,hS.two,hS.eqs,hS.bodyOne,hS.bodyTwo,fun g s1 hg=>?_⟩
 simp only [AL] at hg
 split at hg
 ·rename_i e
  injection hg with hg;subst hg
  obtain rfl:=Nat.eq_of_beq_eq_true e
  exact ⟨fun _=>⟨h,fn,hf,hn,hb⟩,fun g hg=>absurd hlt (Nat.not_lt.2 (by rw [hg];exact Nat.le_add_left _ _))⟩
 ·exact hS.its g s1 hg
theorem SumsOK.cons {one : List (Nat × Kz)} {two : List (Nat × Ey)} {lo : Nat} {eqs : List (Nat × List (Option IntKind))} {its : List (Nat × IN)} {imm : List Nat} (hS : SumsOK P ⟨one, two, lo, eqs, its, imm⟩) {f : FuncId} {fn : Func} (hf : P.funcs[f]? = some fn) (hn : (fn.name == "runtime.NumGoroutine") = false) (hb : fn.body.isNone = false)
  {shs:List Sh} {sp:Spec shs} (h:FnSpec P f shs sp):SumsOK P ⟨(f,A_ shs sp)::one,two,lo,eqs,its,imm⟩:=by
 refine ⟨fun g s1 hg=>?_,hS.two,hS.eqs,fun g s1 hg=>?_,hS.bodyTwo,hS.its⟩
 ·simp only [AL] at hg
  split at hg
  ·rename_i e
   injection hg with hg;subst hg
   obtain rfl:=Nat.eq_of_beq_eq_true e
   exact WI h
  ·exact hS.one g s1 hg
 ·simp only [AL] at hg
  split at hg
  ·rename_i e
   obtain rfl:=Nat.eq_of_beq_eq_true e
   exact ⟨fn,hf,hn,hb⟩
  ·exact hS.bodyOne g s1 hg
def A2 (P:Program) (S:Sums) (U:Nat) (I:Cz) (fn:Func) (args:List AV) (H:A0) (r:AV) (H':A0):Prop :=
 (mR P S U I fn args H).sat fun a hp=>(ya H.length [a] hp ⟨[r],H'⟩).sat fun _ _=>True
theorem Fn.of (hS:SumsOK P S) (hm:P.follows .mixedOrders=true) {U:Nat} {I:Cz} {f:FuncId} {fn:Func} {c:Code} (hf:P.funcs[f]? = some fn) (hb:fn.body=some c) (hok:Cu c=true) {args:List AV} {r:AV} {H':A0}
  (AQ:S.lo=H.length) (hng:∀ t,EW (A4 args t)) (hn:args.length<=fn.ntmps) (h:A2 P S U I fn args H r H'):Fn P f args H r H':=by
 intro C w vs hO hH ha
 refine (Sr hS hm hf hb hok (by omega) hH ha hng hn (Un h)).mono ?_
 rintro e w' ⟨v,a,hp',C1,he,hle,h1,h2,h3,h4⟩
 rw [AQ] at h1 h4
 obtain ⟨h5,h6,h7,h8⟩:=UA hle h2 h1
 have h9:Rel (C1.cut H.length H') w' r v:=by
  unfold ya at hle
  unfold SL at hle
  exact ((UB hle).2 C1 w' h2 v h3).1
 refine ⟨v,_,he,h5,h9,((Since.refl (fun i hi=>?_) hO).step h4).step h8⟩
 cases hc:C.ρ i with
 | none=>rfl
 | some p=>have:=hH.lt hc;omega
structure SpecN (shs:List Sh) where
 pre:Ad shs->Prop
 res:Ad shs->AV
 new:Ad shs->A0
noncomputable def U4 (shs:List Sh) (sp:SpecN shs):Kz:=fun args=>match Kc shs args with
 | true=>Jm shs args fun x=>some ⟨Nf (Iv shs args) [⟨sp.pre,x⟩],sp.res x,sp.new x⟩
 | false=>none
def FnSpecN (P:Program) (f:FuncId) (shs:List Sh) (sp:SpecN shs):Prop:=∀ x:Ad shs,sp.pre x->Fn P f (Ab shs x) [] (sp.res x) (sp.new x)
theorem SB {f:FuncId} {shs:List Sh} {sp:SpecN shs} (h:FnSpecN P f shs sp):∀ args pre res new,U4 shs sp args=some ⟨pre,res,new⟩->(∀ p∈pre,p.ok)->Fn P f args [] res new:=by
 intro args pre res new hm hp
 unfold U4 at hm
 simp only [Gc,IF,HB] at hm
 split at hm
 ·rename_i hok
  rw [Ex hok] at hm
  injection hm with hm;injection hm with h1 h2 h3
  subst h1 h2 h3
  obtain ⟨h4,h5⟩:=Fb hp
  exact (h _ (h5 _ (List.mem_singleton.2 rfl))).weaken fun C w vs ha=>E1 (Fx hok h4) ha
 ·cases hm
def xS (P:Program) (f:FuncId) (s:Kz):Prop:=∀ args pre res new,s args=some ⟨pre,res,new⟩->(∀ p∈pre,p.ok)->Fn P f args [] res new
theorem SumsOK.add {one : List (Nat × Kz)} {two : List (Nat × Ey)} {lo : Nat} {eqs : List (Nat × List (Option IntKind))} {its : List (Nat × IN)} {imm : List Nat} (hS : SumsOK P ⟨one, two, lo, eqs, its, imm⟩) {f : FuncId} {fn : Func} (hf : P.funcs[f]? = some fn) (hn : (fn.name == "runtime.NumGoroutine") = false) (hb : fn.body.isNone = false)
  {s:Kz} (h:xS P f s):SumsOK P ⟨(f,s)::one,two,lo,eqs,its,imm⟩:=by
 refine ⟨fun g s1 hg=>?_,hS.two,hS.eqs,fun g s1 hg=>?_,hS.bodyTwo,hS.its⟩
 ·simp only [AL] at hg
  split at hg
  ·rename_i e
   injection hg with hg;subst hg
   obtain rfl:=Nat.eq_of_beq_eq_true e
   exact h
  ·exact hS.one g s1 hg
 ·simp only [AL] at hg
  split at hg
  ·rename_i e
   obtain rfl:=Nat.eq_of_beq_eq_true e
   exact ⟨fn,hf,hn,hb⟩
  ·exact hS.bodyOne g s1 hg
def La:List Sh->Bool
 | []=>true
 | .any::_=>false
 | _::l=>La l
theorem HU:∀ {l:List Sh} {x:Ad l},La l=true->∀ t,EW (A4 (Ab l x) t)
 | [],_,_,t=>by simp only [Ab,A4];trivial
 | s::l,x,h,0=>by
   simp only [Ab,A4]
   cases s<;>simp [enc,EW]
   cases h
 | s::l,x,h,t+1=>by
   simp only [Ab,A4]
   exact HU (by cases s<;>first|exact h|cases h) t
theorem FnSpec.of (hS:SumsOK P S) (hm:P.follows .mixedOrders=true) {shs:List Sh} {U:Nat} {I:Ad shs->Cz} {f:FuncId} {fn:Func} {c:Code} (hf:P.funcs[f]? = some fn) (hb:fn.body=some c) (hok:Cu c=true) {sp:Spec shs}
  (AQ:S.lo=0) (hany:La shs=true) (hn:shs.length<=fn.ntmps) (h:∀ x,sp.pre x->A2 P S U (I x) fn (Ab shs x) [] (sp.res x) []):FnSpec P f shs sp :=
 fun x hx=>Fn.of hS hm hf hb hok AQ (HU hany) (by rw [G7];exact hn) (h x hx)
theorem FnSpecN.of (hS:SumsOK P S) (hm:P.follows .mixedOrders=true) {shs:List Sh} {U:Nat} {I:Ad shs->Cz} {f:FuncId} {fn:Func} {c:Code} (hf:P.funcs[f]? = some fn) (hb:fn.body=some c) (hok:Cu c=true) {sp:SpecN shs}
  (AQ:S.lo=0) (hany:La shs=true) (hn:shs.length<=fn.ntmps) (h:∀ x,sp.pre x->A2 P S U (I x) fn (Ab shs x) [] (sp.res x) (sp.new x)):FnSpecN P f shs sp :=
 fun x hx=>Fn.of hS hm hf hb hok AQ (HU hany) (by rw [G7];exact hn) (h x hx)
end
end Abs
end Go.Proofs.YtccgngldoinokaaGreat

namespace Go.Proofs.YtccgngldoinokaaGreat
namespace Abs
open Go
@[simp]theorem AO9 (a b:Int):k_ a b=a+b:=by unfold k_;rfl
@[simp]theorem AO1 (a b:Int):UC a b=a-b:=by unfold UC;rfl
@[simp]theorem AO5 (a b:Int):po a b=a*b:=by unfold po;rfl
@[simp]theorem AO4 (a b:Int):eY a b=a.tdiv b:=by unfold eY;rfl
@[simp]theorem AO3 (a b:Int):Yi a b=a.tmod b:=by unfold Yi;rfl
@[simp]theorem AT7 (a b:Int):Yl a b=(a == b):=by unfold Yl;rfl
@[simp]theorem AT5 (a b:Int):ilt a b=decide (a<b):=by unfold ilt;rfl
@[simp]theorem AT6 (a b:Int):Mi a b=decide (a<=b):=by unfold Mi;rfl
@[simp]theorem AO6 (a b:Int):k8 a b=min a b:=by unfold k8;split<;>omega
@[simp]theorem AO7 (a b:Int):k9 a b=max a b:=by unfold k9;split<;>omega
@[simp]theorem AG1 (k:IntKind) (a:Int):NJ k a=k.wrap a:=by unfold NJ;rfl
@[simp]theorem AH1 (a:Bool):MA a = !a:=ce a
@[simp]theorem AH3 (a b:Bool):Jp a b=(a&&b):=MD a b
@[simp]theorem AO8 (a b:Bool):bor a b=(a||b):=lY a b
@[simp]theorem AP2 (a b:Bool):Z9 a b=(a == b):=by unfold Z9;rfl
@[simp]theorem AH2 (c a b:Bool):Z7 c a b=if c then a else b:=MB c a b
@[simp]theorem AS8 (a:Int):Iz a=a.toNat:=by unfold Iz;rfl
@[simp]theorem AH0 (a:Nat):Em a=(a:Int):=by unfold Em;rfl
@[simp]theorem AN9 (a b:Nat):Ii a b=a+b:=by unfold Ii;rfl
@[simp]theorem AS7 (a b:Nat):mI a b=decide (a<b):=by unfold mI;rfl
@[simp]theorem AN6 (a b:Nat):Hb a b=a-b:=by unfold Hb;rfl
@[simp]theorem AV9 (n:Int):O2 .i64 n ↔ -9223372036854775808<=n/\n<=9223372036854775807:=by
 unfold O2;simp [IntKind.min,IntKind.max,IntKind.signed,IntKind.bits]
inductive Ins where
 | k (n:Nat)
 | s (a:AV)
 | t (n:Nat)
noncomputable def AG0 (n:Nat):(List AV->List AV)->List AV->List AV :=
 Nat.rec (motive:=fun _=>(List AV->List AV)->List AV->List AV) (fun f l=>f l) (fun _ ih f l=>List.rec (motive:=fun _=>List AV) [] (fun x l _=>x::ih f l) l) n
noncomputable def AV1 (n:Nat):(List AV->List AV)->List AV->List AV :=
 Nat.rec (motive:=fun _=>(List AV->List AV)->List AV->List AV) (fun f l=>f l) (fun _ ih f l=>List.rec (motive:=fun _=>List AV) [] (fun _ l _=>.top::ih f l) l) n
noncomputable def J1:List Ins->List AV->List AV
 | [],l=>l
 | .k n::is,l=>AG0 n (J1 is) l
 | .s a::is,l=>(match l with|_::l=>a::J1 is l|[]=>[])
 | .t n::is,l=>AV1 n (J1 is) l
def ze (hp:A0) (i:Nat) (l:List AV):A0:=match A3 hp i with|.cells t _=>AM hp i (.cells t l)|_=>hp
def AR8 (hp:A0) (i:Nat) (n:LN) (el:Nat->List AV):A0:=match A3 hp i with|.row e sz _ _=>AM hp i (.row e sz n el)|_=>hp
def pd:A0->Nat
 | []=>0
 | _::l=>pd l+1
@[simp]theorem ym (G α:Type) (st:G->AS) (dat:G->α) (q:α->Prop) (mu:G->Nat) (g:G):Ann.pre ⟨G,st,α,dat,q,mu⟩ g=q (dat g):=rfl
section
variable {R:AV->A0->Prop}
@[simp]theorem zV:VC.sat R .fail↔False:=Iff.rfl
@[simp]theorem zT (p:Cd) (k:VC):VC.sat R (.need p k)↔p.ok/\k.sat R:=Iff.rfl
@[simp]theorem u_ (b:Bool) (t e:VC):VC.sat R (.branch b t e)↔(b=true->t.sat R)/\(b=false->e.sat R):=Iff.rfl
@[simp]theorem AM7 (r:AV) (hp:A0):VC.sat R (.out r hp)↔R r hp:=Iff.rfl
@[simp]theorem zW:VC.sat R .done↔True:=Iff.rfl
@[simp]theorem zU (A:Ann) (d:A.G->A.α) (e:VC) (b:A.G->VC):VC.sat R (.loop d e b)↔e.sat R/\∀ g,A.q (d g)->(b g).sat R:=Iff.rfl
@[simp]theorem AR7 (A:Ann) (d:A.G->A.α) (m:Option Nat) (k:A.G->VC):VC.sat R (.ex d m k)↔∃ g,(k g).sat R/\A.q (d g)/\(match m with|some n=>A.mu g<n|none=>True) :=
 ⟨fun ⟨g,h1,h2,h3⟩=>⟨g,h3,h1,h2⟩,fun ⟨g,h1,h2,h3⟩=>⟨g,h2,h3,h1⟩⟩
end
@[simp]theorem zx:E3 []=[]:=rfl
@[simp]theorem yV (a:AV) (l:List AV):E3 (a::l)=LY a::E3 l:=rfl
@[simp]theorem AS2 (k:IntKind) (n:Int):LY (.si k n)=.si k n:=rfl
@[simp]theorem AS4 (k:IntKind) (n:Int):LY (.li k n)=.si k n:=rfl
@[simp]theorem AS3 (b:Bool):LY (.sb b)=.sb b:=rfl
@[simp]theorem AS5 (b:Bool):LY (.lb b)=.sb b:=rfl
@[simp]theorem AN7 (n:LN) (sz:Nat) (el:Nat->List AV):LY (.slc n sz el)=.slc n sz el:=rfl
@[simp]theorem AV7 (x:Value):LY (.v x)=.v x:=rfl
@[simp]theorem AN8 (n sz:Nat) (el:Nat->List AV):LY (.pa (n+1) sz el)=.pa (n+1) sz el:=rfl
@[simp]theorem AS1 (l:List AV):LY (.xp l)=.xp l:=rfl
@[simp]theorem AM5 (k j:Nat) (a b:Int):iQ k j a b=if j=k then a else b:=by unfold iQ;rfl
@[simp]theorem AM6 (k j:Nat) (a b:Bool):iR k j a b=if j=k then a else b:=by unfold iR;rfl
theorem r8 (n:Nat) (f g:Nat->List AV) (k:Nat):Ft n f g k=if k<n then f k else g (k-n):=by unfold Ft;rfl
theorem rG {sz g j:Nat} {F:Nat->List AV} {c r:List AV} (h:j<g+1) (h1:j<g->E3 (F j)=r) (h2:j=g->E3 (AW c sz)=r):E3 (Ft g F (AZ sz c) j)=r:=by
 rw [r8]
 by_cases hj:j<g
 ·rw [if_pos hj];exact h1 hj
 ·rw [if_neg hj,show j-g=0 by omega]
  exact h2 (by omega)
@[simp]theorem AI7:EO [] []↔True:=by unfold EO;exact Iff.rfl
@[simp]theorem yi (s:Sh) (l:List Sh) (a:AV) (m:List AV):EO (s::l) (a::m)↔D1 s a=true/\BL s a/\EO l m:=by rw [EO]
@[simp]theorem AN2 (k:IntKind) (n:Int):D1 (.int k) (.si k n)=true:=by simp [D1,AD]
@[simp]theorem AN4 (k:IntKind) (n:Int):D1 (.int k) (.li k n)=true:=by simp [D1,AD]
@[simp]theorem AN3 (b:Bool):D1 .bool (.sb b)=true:=by simp [D1,K4]
@[simp]theorem AN5 (b:Bool):D1 .bool (.lb b)=true:=by simp [D1,K4]
@[simp]theorem zw (sz:Nat) (e:List Sh) (n:LN) (el:Nat->List AV):D1 (.slice sz e) (.slc n sz el)=GU e:=by simp [D1]
@[simp]theorem yh (k:IntKind) (a:AV):BL (.int k) a↔True:=by unfold BL;exact Iff.rfl
@[simp]theorem wx (a:AV):BL .bool a↔True:=by unfold BL;exact Iff.rfl
@[simp]theorem yg (sz sz':Nat) (e:List Sh) (n:LN) (el:Nat->List AV):BL (.slice sz e) (.slc n sz' el)↔∀ k,k<n.val->EO e (el k):=by rw [BL]
@[simp]theorem yj (e:List Sh) (n:Nat) (el:Nat->List AV):MI e (n,el)↔∀ k,k<n->EO e (el k):=Iff.rfl
attribute [simp] GU Z3
@[simp]theorem pp (n:Nat):(∀ k:Nat,k<n->True)↔True:=by simp
attribute [simp] ya SL Np eK yb Cd.ok AD AA LN.val
end Abs
end Go.Proofs.YtccgngldoinokaaGreat

namespace Go.Proofs.YtccgngldoinokaaGreat
namespace Abs
open Go Go.RowKit
def FZ (rc:TypeId->Option (List (Option IntKind))):List Field->Nat->Option (List (Option IntKind))
 | [],_=>some []
 | f :: fs, off => (match f.name == "_", Nat.beq f.offset off, rc f.type with
   | false,true,some ks=>(match FZ rc fs (off+ks.length) with|some ks'=>some (ks++ks')|none=>none)
   | _,_,_=>none)
def GD (P:Program):Nat->TypeId->Option (List (Option IntKind))
 | 0,_=>none
 | d+1,t=>(match P.underlying t with
   | some (.int k)=>some [some k]
   | some .bool=>some [none]
   | some (.struct fs)=>(match P.stoodInHeld t,FZ (GD P d) fs.toList 0 with
     | false,some ks=>(match Nat.beq (A9 P t) ks.length with|true=>some ks|false=>none)
     | _,_=>none)
   | some (.array n e)=>(match GD P d e with
     | some ks=>(match Nat.beq (A9 P e) ks.length&&Nat.beq (A9 P t) (n*ks.length) with|true=>some (List.replicate n ks).flatten|false=>none)
     | none=>none)
   | _=>none)
inductive Kd:List (Option IntKind)->List Value->Prop
 | nil:Kd [] []
 | int (k:IntKind) (n:Int) (ks:List (Option IntKind)) (vs:List Value) (h:Kd ks vs):Kd (some k::ks) (.int k n::vs)
 | bool (b:Bool) (ks:List (Option IntKind)) (vs:List Value) (h:Kd ks vs):Kd (none::ks) (.bool b::vs)
def eq1:Value->Value->Bool
 | .int _ a,.int _ b=>a == b
 | .bool a,.bool b=>a == b
 | _,_=>false
def Sj:List Value->List Value->Bool
 | [],[]=>true
 | x::xs,y::ys=>eq1 x y&&Sj xs ys
 | _,_=>false
theorem Kd.len {ks:List (Option IntKind)} {vs:List Value} (h:Kd ks vs):vs.length=ks.length:=by induction h<;>simp [*]
theorem Kd.split {ks ks':List (Option IntKind)}:∀ {vs:List Value},Kd (ks++ks') vs->Kd ks (vs.take ks.length)/\Kd ks' (vs.drop ks.length):=by
 induction ks with
 | nil=>intro vs h;exact ⟨by simpa using Kd.nil,by simpa using h⟩
 | cons k ks ih =>
   intro vs h
   cases h with
   | int k n _ vs h=>obtain ⟨h1,h2⟩:=ih h;exact ⟨by simpa using Kd.int k n _ _ h1,by simpa using h2⟩
   | bool b _ vs h=>obtain ⟨h1,h2⟩:=ih h;exact ⟨by simpa using Kd.bool b _ _ h1,by simpa using h2⟩
theorem Kt:∀ {a b:List Value} {c d:List Value},a.length=b.length->Sj (a++c) (b++d)=(Sj a b&&Sj c d)
 | [],[],c,d,_=>by simp [Sj]
 | x::a,y::b,c,d,h=>by simp at h;simp [Sj,Kt h,Bool.and_assoc]
def QK (P:Program) (t:TypeId) (l:List Value):Value:=match isAgg P t with|some true=>.agg ⟨l⟩|_=>l.headD undef
section
variable {P:Program}
theorem Sk {d:Nat} {t:TypeId} {ks:List (Option IntKind)} (h:GD P d t=some ks):(isAgg P t=some true/\A9 P t=ks.length/\∃ i,P.info? t=some i)\/(isAgg P t=some false/\ks.length=1):=by
 cases d with
 | zero=>simp [GD] at h
 | succ d =>
   unfold GD at h
   split at h
   ·rename_i k hu;injection h with h;subst h;exact .inr ⟨by simp [isAgg,hu],rfl⟩
   ·rename_i hu;injection h with h;subst h;exact .inr ⟨by simp [isAgg,hu],rfl⟩
   ·rename_i fs hu
    split at h
    ·split at h
     ·rename_i hs;injection h with h;subst h
      exact .inl ⟨by simp [isAgg,hu],Nat.eq_of_beq_eq_true hs,DH hu⟩
     ·cases h
    ·cases h
   ·rename_i n e hu
    split at h
    ·split at h
     ·rename_i ks' _ _ hs
      simp only [Bool.and_eq_true] at hs
      injection h with h;subst h
      refine .inl ⟨by simp [isAgg,hu],?_,DH hu⟩
      rw [Nat.eq_of_beq_eq_true hs.2]
      simp
     ·cases h
    ·cases h
   ·cases h
theorem Gb {d:Nat} {t:TypeId} {ks:List (Option IntKind)} (h:GD P d t=some ks) (w:World) {xs:List Value} {off:Nat} (hk:Kd ks ((xs.drop off).take ks.length)) :
  (part t ⟨xs⟩ off).run P w=.ok (QK P t ((xs.drop off).take ks.length)) w:=by
 rcases Sk h with ⟨h1,h2,i,hi⟩|⟨h1,h2⟩
 ·simp [part,Eg h1,BP hi,QK,h1,h2]
 ·have hl:=hk.len
  rw [h2] at hl
  cases hd:xs.drop off with
  | nil=>rw [hd] at hl;simp at hl
  | cons v vs =>
    have hv:xs[off]? = some v:=by
     have:=congrArg (fun l=>l[0]?) hd
     simpa using this
    simp [part,Eg h1,QK,h1,h2,hv]
theorem Sd {d m:Nat} (IH:∀ (t:TypeId) (ks:List (Option IntKind)),GD P d t=some ks->∀ (w:World) (vs ws:List Value),Kd ks vs->Kd ks ws->(Op.equalIn (m+d) t (QK P t vs) (QK P t ws)).run P w=.ok (Sj vs ws) w) (w:World) (xs ys:List Value) :
  ∀ (fs:List Field) (off:Nat) (ks:List (Option IntKind)),FZ (GD P d) fs off=some ks->Kd ks ((xs.drop off).take ks.length)->Kd ks ((ys.drop off).take ks.length) ->
    (Op.eqFields (m+d) ⟨xs⟩ ⟨ys⟩ fs).run P w=.ok (Sj ((xs.drop off).take ks.length) ((ys.drop off).take ks.length)) w
 | [],off,ks,h,_,_=>by
   unfold FZ at h
   injection h with h;subst h
   simp [Op.eqFields,Sj]
 | f::fs,off,ks,h,hx,hy=>by
   unfold FZ at h
   split at h
   ·rename_i kf hn hoff hks
    split at h
    ·rename_i ks' hrest
     injection h with h;subst h
     have hoff:=Nat.eq_of_beq_eq_true hoff
     have e1:∀ l:List Value,(l.drop off).take (kf++ks').length=(l.drop off).take kf.length++(l.drop (off+kf.length)).take ks'.length:=fun l=>by
      rw [List.length_append,List.take_add,List.drop_drop]
     rw [e1] at hx hy
     obtain ⟨hx1,hx2⟩:=hx.split
     obtain ⟨hy1,hy2⟩:=hy.split
     have hlx:=hx.len
     have hly:=hy.len
     simp only [List.length_append] at hlx hly
     have hlx1:((xs.drop off).take kf.length).length=kf.length:=by
      have h1:=List.length_take_le kf.length (xs.drop off)
      have h2:=List.length_take_le ks'.length (xs.drop (off+kf.length))
      omega
     have hly1:((ys.drop off).take kf.length).length=kf.length:=by
      have h1:=List.length_take_le kf.length (ys.drop off)
      have h2:=List.length_take_le ks'.length (ys.drop (off+kf.length))
      omega
     rw [List.take_left' hlx1] at hx1
     rw [List.drop_left' hlx1] at hx2
     rw [List.take_left' hly1] at hy1
     rw [List.drop_left' hly1] at hy2
     rw [e1,e1,Kt (by rw [hlx1,hly1])]
     have hne : f.name ≠ "_" := by simpa using hn
     have ih:=Sd IH w xs ys fs (off+kf.length) ks' hrest hx2 hy2
     simp only [Op.eqFields,hne,ne_eq,not_false_eq_true,if_true,Sem.run_bind,hoff,Gb hks w hx1,Gb hks w hy1,Result.andThen_ok,IH _ _ hks w _ _ hx1 hy1]
     cases Sj ((xs.drop off).take kf.length) ((ys.drop off).take kf.length) with
     | false=>simp
     | true=>simpa using ih
    ·cases h
   ·cases h
theorem Wd {d m:Nat} {e:TypeId} {ks:List (Option IntKind)} (hks:GD P d e=some ks) (IH:∀ (w:World) (vs ws:List Value),Kd ks vs->Kd ks ws->(Op.equalIn (m+d) e (QK P e vs) (QK P e ws)).run P w=.ok (Sj vs ws) w) (w:World) (xs ys:List Value) :
  ∀ (n s:Nat),Kd (List.replicate n ks).flatten ((xs.drop (s*ks.length)).take (n*ks.length))->Kd (List.replicate n ks).flatten ((ys.drop (s*ks.length)).take (n*ks.length)) ->
    (Op.eqItems (m+d) e ks.length ⟨xs⟩ ⟨ys⟩ (List.range' s n)).run P w=.ok (Sj ((xs.drop (s*ks.length)).take (n*ks.length)) ((ys.drop (s*ks.length)).take (n*ks.length))) w
 | 0,s,_,_=>by simp [Op.eqItems,Sj]
 | n+1,s,hx,hy=>by
   have e1:∀ l:List Value,(l.drop (s*ks.length)).take ((n+1)*ks.length)=(l.drop (s*ks.length)).take ks.length++(l.drop ((s+1)*ks.length)).take (n*ks.length):=fun l=>by
    rw [Nat.add_mul,Nat.one_mul,Nat.add_comm,List.take_add,List.drop_drop,Nat.add_mul,Nat.one_mul]
   rw [e1,List.replicate_succ,List.flatten_cons] at hx hy
   obtain ⟨hx1,hx2⟩:=hx.split
   obtain ⟨hy1,hy2⟩:=hy.split
   have hlx:=hx.len
   have hly:=hy.len
   have hfl:(List.replicate n ks).flatten.length=n*ks.length:=by simp
   simp only [List.length_append,hfl] at hlx hly
   have hlx1:((xs.drop (s*ks.length)).take ks.length).length=ks.length:=by
    have h1:=List.length_take_le ks.length (xs.drop (s*ks.length))
    have h2:=List.length_take_le (n*ks.length) (xs.drop ((s+1)*ks.length))
    omega
   have hly1:((ys.drop (s*ks.length)).take ks.length).length=ks.length:=by
    have h1:=List.length_take_le ks.length (ys.drop (s*ks.length))
    have h2:=List.length_take_le (n*ks.length) (ys.drop ((s+1)*ks.length))
    omega
   rw [List.take_left' hlx1] at hx1
   rw [List.drop_left' hlx1] at hx2
   rw [List.take_left' hly1] at hy1
   rw [List.drop_left' hly1] at hy2
   rw [e1,e1,Kt (by rw [hlx1,hly1]),List.range'_succ]
   have ih:=Wd hks IH w xs ys n (s+1) hx2 hy2
   simp only [Op.eqItems,Sem.run_bind,Gb hks w hx1,Gb hks w hy1,Result.andThen_ok,IH w _ _ hx1 hy1]
   cases Sj ((xs.drop (s*ks.length)).take ks.length) ((ys.drop (s*ks.length)).take ks.length) with
   | false=>simp
   | true=>simpa using ih
theorem Z2 {t:TypeId} {i:TypeInfo} (h:P.info? t=some i):P.cellsOf t=A9 P t:=by simp [Program.cellsOf,A9,h]
theorem Yv (m:Nat):∀ (d:Nat) (t:TypeId) (ks:List (Option IntKind)),GD P d t=some ks->∀ (w:World) (vs ws:List Value),Kd ks vs->Kd ks ws->(Op.equalIn (m+d) t (QK P t vs) (QK P t ws)).run P w=.ok (Sj vs ws) w:=by
 intro d
 induction d with
 | zero=>intro t ks h;simp [GD] at h
 | succ d ih =>
   intro t ks h w vs ws hv hw
   have hsz:=Sk h
   unfold GD at h
   split at h
   ·rename_i k hu
    injection h with h;subst h
    cases hv with|int _ a _ _ hv=>cases hv
                                  cases hw with|int _ b _ _ hw=>cases hw
                                                                simp only [QK,isAgg,hu,List.headD_cons,<- Nat.add_assoc]
                                                                rw [run_equalIn_int w (m+d) t k k a b hu]
                                                                simp [Sj,eq1]
   ·rename_i hu
    injection h with h;subst h
    cases hv with|bool a _ _ hv=>cases hv
                                 cases hw with|bool b _ _ hw=>cases hw
                                                              simp only [QK,isAgg,hu,List.headD_cons,<- Nat.add_assoc]
                                                              rw [run_equalIn_bool' w (m+d) t a b hu]
                                                              simp [Sj,eq1]
   ·rename_i fs hu
    split at h
    ·rename_i ks' hst hf
     split at h
     ·injection h with h;subst h
      have hfs:P.fieldsOf t=fs:=by simp [Program.fieldsOf,hu]
      have hag:isAgg P t=some true:=by simp [isAgg,hu]
      simp only [QK,hag,<- Nat.add_assoc]
      rw [run_equalIn_struct w (m+d) t _ _ (by rw [hfs];exact hu) hst,hfs]
      have e1:∀ l:List Value,Kd ks' l->(l.drop 0).take ks'.length=l:=fun l hl=>by rw [List.drop_zero,<- hl.len,List.take_length]
      have:=Sd (m:=m) ih w vs ws fs.toList 0 ks' hf (by rw [e1 _ hv];exact hv) (by rw [e1 _ hw];exact hw)
      rw [e1 _ hv,e1 _ hw] at this
      exact this
     ·cases h
    ·cases h
   ·rename_i n e hu
    split at h
    ·rename_i ks' hks
     split at h
     ·rename_i hs
      simp only [Bool.and_eq_true] at hs
      injection h with h;subst h
      have hag:isAgg P t=some true:=by simp [isAgg,hu]
      have hse:=Nat.eq_of_beq_eq_true hs.1
      have hlen:(List.replicate n ks').flatten.length=n*ks'.length:=by simp
      simp only [QK,hag,<- Nat.add_assoc]
      have e1:∀ l:List Value,Kd (List.replicate n ks').flatten l->(l.drop (0*ks'.length)).take (n*ks'.length)=l:=fun l hl=>by
       rw [Nat.zero_mul,List.drop_zero,<- hlen,<- hl.len,List.take_length]
      have key:=Wd (m:=m) hks (ih e ks' hks) w vs ws n 0 (by rw [e1 _ hv];exact hv) (by rw [e1 _ hw];exact hw)
      rw [e1 _ hv,e1 _ hw] at key
      have hie:∃ i,P.info? e=some i:=by
       cases d with
       | zero=>simp [GD] at hks
       | succ d =>
         unfold GD at hks
         cases hue:P.underlying e with
         | none=>simp [hue] at hks
         | some _=>exact DH hue
      obtain ⟨i,hi⟩:=hie
      rw [run_equalIn_array w (m+d) _ _ hu hi,Z2 hi,hse,List.range_eq_range']
      exact key
     ·cases h
    ·cases h
   ·cases h
theorem fB {d:Nat} {e:TypeId} {ks:List (Option IntKind)} (hks:GD P d e=some ks):∃ i,P.info? e=some i:=by
 cases d with
 | zero=>simp [GD] at hks
 | succ d =>
   unfold GD at hks
   cases hue:P.underlying e with
   | none=>simp [hue] at hks
   | some _=>exact DH hue
theorem XM {em:Bool} {m d:Nat} (IH:∀ (t:TypeId) (ks:List (Option IntKind)),GD P d t=some ks->∀ (w:World) (vs:List Value),Kd ks vs->(Instr.checkKey em (m+d) t (QK P t vs)).run P w=.ok () w) (w:World) (xs:List Value) :
  ∀ (fs:List Field) (off:Nat) (ks:List (Option IntKind)),FZ (GD P d) fs off=some ks->Kd ks ((xs.drop off).take ks.length) ->
    ∀ f∈fs,∃ a,(part f.type ⟨xs⟩ f.offset).run P w=.ok a w/\(Instr.checkKey em (m+d) f.type a).run P w=.ok () w
 | [],off,ks,h,_,f,hf=>by simp at hf
 | f0::fs,off,ks,h,hx,f,hf=>by
   unfold FZ at h
   split at h
   ·rename_i kf hn hoff hks
    split at h
    ·rename_i ks' hrest
     injection h with h;subst h
     have hoff:=Nat.eq_of_beq_eq_true hoff
     have e1:(xs.drop off).take (kf++ks').length=(xs.drop off).take kf.length++(xs.drop (off+kf.length)).take ks'.length:=by
      rw [List.length_append,List.take_add,List.drop_drop]
     rw [e1] at hx
     obtain ⟨hx1,hx2⟩:=hx.split
     have hlx:=hx.len
     simp only [List.length_append] at hlx
     have hlx1:((xs.drop off).take kf.length).length=kf.length:=by
      have h1:=List.length_take_le kf.length (xs.drop off)
      have h2:=List.length_take_le ks'.length (xs.drop (off+kf.length))
      omega
     rw [List.take_left' hlx1] at hx1
     rw [List.drop_left' hlx1] at hx2
     rcases List.mem_cons.1 hf with rfl|hf
     ·exact ⟨_,by rw [hoff];exact Gb hks w hx1,IH _ _ hks w _ hx1⟩
     ·exact XM IH w xs fs (off+kf.length) ks' hrest hx2 f hf
    ·cases h
   ·cases h
theorem cZ {em:Bool} {m d:Nat} {e:TypeId} {ks:List (Option IntKind)} (hks:GD P d e=some ks) (IH:∀ (w:World) (vs:List Value),Kd ks vs->(Instr.checkKey em (m+d) e (QK P e vs)).run P w=.ok () w) (w:World) (xs:List Value) :
  ∀ (n s:Nat),Kd (List.replicate n ks).flatten ((xs.drop (s*ks.length)).take (n*ks.length)) ->
    ∀ j∈List.range' s n,∃ a,(part e ⟨xs⟩ (j*ks.length)).run P w=.ok a w/\(Instr.checkKey em (m+d) e a).run P w=.ok () w
 | 0,s,_,j,hj=>by simp at hj
 | n+1,s,hx,j,hj=>by
   have e1:(xs.drop (s*ks.length)).take ((n+1)*ks.length)=(xs.drop (s*ks.length)).take ks.length++(xs.drop ((s+1)*ks.length)).take (n*ks.length):=by
    rw [Nat.add_mul,Nat.one_mul,Nat.add_comm,List.take_add,List.drop_drop,Nat.add_mul,Nat.one_mul]
   rw [e1,List.replicate_succ,List.flatten_cons] at hx
   obtain ⟨hx1,hx2⟩:=hx.split
   have hlx:=hx.len
   have hfl:(List.replicate n ks).flatten.length=n*ks.length:=by simp
   simp only [List.length_append,hfl] at hlx
   have hlx1:((xs.drop (s*ks.length)).take ks.length).length=ks.length:=by
    have h1:=List.length_take_le ks.length (xs.drop (s*ks.length))
    have h2:=List.length_take_le (n*ks.length) (xs.drop ((s+1)*ks.length))
    omega
   rw [List.take_left' hlx1] at hx1
   rw [List.drop_left' hlx1] at hx2
   rw [List.range'_succ] at hj
   rcases List.mem_cons.1 hj with rfl|hj
   ·exact ⟨_,Gb hks w hx1,IH w _ hx1⟩
   ·exact cZ hks IH w xs n (s+1) hx2 j hj
theorem AI5 (em:Bool) (m:Nat):∀ (d:Nat) (t:TypeId) (ks:List (Option IntKind)),GD P d t=some ks->∀ (w:World) (vs:List Value),Kd ks vs->(Instr.checkKey em (m+d) t (QK P t vs)).run P w=.ok () w:=by
 intro d
 induction d with
 | zero=>intro t ks h;simp [GD] at h
 | succ d ih =>
   intro t ks h w vs hv
   rw [<- Nat.add_assoc,Instr.checkKey]
   unfold GD at h
   split at h
   ·rename_i k hu
    injection h with h;subst h
    cases hv with|int _ a _ _ hv=>cases hv
                                  simp [QK,isAgg,hu,run_underlying hu]
   ·rename_i hu
    injection h with h;subst h
    cases hv with|bool a _ _ hv=>cases hv
                                 simp [QK,isAgg,hu,run_underlying hu]
   ·rename_i fs hu
    split at h
    ·rename_i ks' hst hf
     split at h
     ·injection h with h;subst h
      have hag:isAgg P t=some true:=by simp [isAgg,hu]
      have e1:(vs.drop 0).take ks'.length=vs:=by rw [List.drop_zero,<- hv.len,List.take_length]
      have each:=XM (em:=em) (m:=m) ih w vs fs.toList 0 ks' hf (by rw [e1];exact hv)
      have hnm : ∀ (l : List Field) (off : Nat) (ks : List (Option IntKind)), FZ (GD P d) l off = some ks → ∀ f ∈ l, f.name ≠ "_" := by
       intro l
       induction l with
       | nil=>intro off ks _ f hf;simp at hf
       | cons f0 l ihl =>
         intro off ks h f hf
         unfold FZ at h
         split at h
         ·rename_i kf hn hoff hks
          split at h
          ·rename_i ks2 hrest
           rcases List.mem_cons.1 hf with rfl|hf
           ·simpa using hn
           ·exact ihl _ _ hrest f hf
          ·cases h
         ·cases h
      have hnm:=hnm _ _ _ hf
      simp only [QK,hag,Sem.run_bind,run_underlying hu,Result.andThen_ok]
      rw [<- Array.forIn_toList]
      clear hf
      generalize fs.toList=L at each hnm
      induction L with
      | nil=>simp
      | cons f L ihL =>
        obtain ⟨a,p1,p2⟩:=each f (by simp)
        have hn:=hnm f (by simp)
        simp only [List.forIn_cons,Sem.run_bind,hn,ne_eq,not_false_eq_true,if_true,Result.andThen_ok,p1,p2,Sem.run_pure]
        exact ihL (fun y hy=>each y (by simp [hy])) (fun y hy=>hnm y (by simp [hy]))
     ·cases h
    ·cases h
   ·rename_i n e hu
    split at h
    ·rename_i ks' hks
     split at h
     ·rename_i hs
      simp only [Bool.and_eq_true] at hs
      injection h with h;subst h
      have hag:isAgg P t=some true:=by simp [isAgg,hu]
      have hse:=Nat.eq_of_beq_eq_true hs.1
      have hlen:(List.replicate n ks').flatten.length=n*ks'.length:=by simp
      have e1:(vs.drop (0*ks'.length)).take (n*ks'.length)=vs:=by
       rw [Nat.zero_mul,List.drop_zero,<- hlen,<- hv.len,List.take_length]
      have each:=cZ (em:=em) (m:=m) hks (ih e ks' hks) w vs n 0 (by rw [e1];exact hv)
      obtain ⟨i,hi⟩:=fB hks
      have hsz:=BP hi w
      simp only [QK,hag,Sem.run_bind,run_underlying hu,Result.andThen_ok]
      simp only [Std.Legacy.Range.forIn_eq_forIn_range',Std.Legacy.Range.size,Nat.sub_zero,Nat.add_one_sub_one,Nat.div_one]
      generalize List.range' 0 n=is at each
      induction is with
      | nil=>simp
      | cons j is ihs =>
        obtain ⟨a,p1,p2⟩:=each j (by simp)
        simp only [List.forIn_cons,Sem.run_bind,hsz,hse,Result.andThen_ok,p1,p2,Sem.run_pure]
        exact ihs (fun y hy=>each y (by simp [hy]))
     ·cases h
    ·cases h
   ·cases h
theorem LW {C:Cx} {w:World}:∀ {ks:List (Option IntKind)} {l:List AV} {vs:List Value},Dv ks l=true->RelL C w l vs->Kd ks vs
 | [],[],_,_,h=>by cases h;exact .nil
 | some k::ks,a::l,_,h,hr=>by
   simp only [Dv] at h
   cases hr with
   | cons _ _ v vs h0 h1 =>
     split at h
     ·rename_i k' hk
      simp only [Bool.and_eq_true] at h
      have:=of_decide_eq_true h.1
      subst this
      rw [AJ h0 hk]
      exact .int _ _ _ _ (LW h.2 h1)
     ·cases h
 | none::ks,a::l,_,h,hr=>by
   simp only [Dv,Bool.and_eq_true] at h
   cases hr with
   | cons _ _ v vs h0 h1 =>
     have:∃ b,v=.bool b:=by
      cases a<;>simp [Ll] at h
      ·cases h0;exact ⟨_,rfl⟩
      ·cases h0;exact ⟨_,rfl⟩
     obtain ⟨b,rfl⟩:=this
     exact .bool _ _ _ (LW h.2 h1)
 | [],_::_,_,h,_=>by simp [Dv] at h
 | some _::_,[],_,h,_=>by simp [Dv] at h
 | none::_,[],_,h,_=>by simp [Dv] at h
theorem Pu {C:Cx} {w:World}:∀ {l m:List AV} {vs ws:List Value} {r:Bool},F0 l m=some r->RelL C w l vs->RelL C w m ws->Sj vs ws=r
 | [],[],_,_,r,h,h1,h2=>by
   cases h1;cases h2
   simp [F0] at h;subst h;rfl
 | a::l,b::m,_,_,r,h,h1,h2=>by
   cases h1 with
   | cons _ _ x xs h1 h3 =>
   cases h2 with
   | cons _ _ y ys h2 h4 =>
   have one:∀ r,wF a b=some r->eq1 x y=r:=fun r he=>by
    rcases qP h1 h2 he with ⟨k,p,q,rfl,rfl,rfl⟩|⟨p,q,rfl,rfl,rfl⟩
    ·rfl
    ·rfl
   unfold F0 at h
   split at h
   ·cases h3;cases h4
    simp [Sj,one _ h]
   ·split at h
    ·rename_i r1 s1 e1 e2
     injection h with h;subst h
     rw [MD,Sj,one _ e1,Pu e2 h3 h4]
    ·cases h
 | [],_::_,_,_,r,h,_,_=>by simp [F0] at h
 | _::_,[],_,_,r,h,_,_=>by simp [F0] at h
theorem EqOK.of {t:TypeId} {ks:List (Option IntKind)} (d:Nat) (hd:d<=10000) (hg:P.eqGuardType P.depth t=false) (ha:isAgg P t=some true) (h:GD P d t=some ks) (ht:t<1048576:=by decide):EqOK P t ks:=by
 refine ⟨fun _=>⟨hg,fun C w l m vs ws r h1 h2 h3 h4 he=>?_⟩,fun h=>absurd (Nat.lt_of_lt_of_le ht h) (Nat.lt_irrefl _),fun _ em C w l vs h1 h2=>?_⟩
 rotate_left
 ·have:=AI5 em (10000-d) d t ks h w vs (LW h1 h2)
  rw [show 10000-d+d=10000 by omega] at this
  simpa [QK,ha] using this
 have:=Yv (10000-d) d t ks h w vs ws (LW h1 h3) (LW h2 h4)
 rw [show 10000-d+d=10000 by omega,Pu he h3 h4] at this
 simpa [QK,ha] using this
theorem EqOK.zero {t n:Nat} {z:AV} {ks:List (Option IntKind)} (hb:UV P t=some (n,z)) (h:ZeroIs P (t,n,z)):EqOK P (t+1048576) ks:=by
 refine ⟨fun h=>absurd h (Nat.not_lt.2 (Nat.le_add_left _ _)),fun _ n' z' hb'=>?_,fun h=>absurd h (Nat.not_lt.2 (Nat.le_add_left _ _))⟩
 rw [Nat.add_sub_cancel] at hb' ⊢
 rw [hb] at hb'
 injection hb' with hb';injection hb' with e1 e2;subst e1 e2
 exact h
end
end Abs
end Go.Proofs.YtccgngldoinokaaGreat

namespace Go.Proofs.YtccgngldoinokaaGreat
namespace Abs
open Go Go.RowKit Go.ChangeShapes Go.WideShapes
def Ji (rc:TypeId->Option (List Sh)):List Field->Nat->Option (List Sh)
 | [],_=>some []
 | f::fs,off=>(match Nat.beq f.offset off,rc f.type with
   | true,some l=>(match Ji rc fs (off+l.length) with|some l'=>some (l++l')|none=>none)
   | _,_=>none)
def KF (P:Program):Nat->TypeId->Option (List Sh)
 | 0,_=>none
 | d+1,t=>(match P.underlying t with
   | some (.int k)=>(match Nat.beq (A9 P t) 1 with|true=>some [.int k]|false=>none)
   | some .bool=>(match Nat.beq (A9 P t) 1 with|true=>some [.bool]|false=>none)
   | some (.slice e)=>(match KF P d e with
     | some l=>(match Nat.beq (A9 P t) 1&&GU l&&Nat.blt 0 l.length with|true=>some [.slice l.length l]|false=>none)
     | none=>none)
   | some (.struct fs)=>(match Ji (KF P d) fs.toList 0 with
     | some l=>(match Nat.beq (A9 P t) l.length with|true=>some l|false=>none)
     | none=>none)
   | some (.array n e)=>(match KF P d e with
     | some l=>(match Nat.beq (A9 P t) (n*l.length) with|true=>some (List.replicate n l).flatten|false=>none)
     | none=>none)
   | _=>none)
def ll (P:Program) (d:Nat) (t:TypeId):Option Sh:=match KF P d t with
 | none=>none
 | some l=>(match isAgg P t with
   | some true=>some (.agg l)
   | some false=>(match l with|[s]=>some s|_=>none)
   | none=>none)
def QB (P:Program) (d:Nat):List TypeId->Option (List Sh)
 | []=>some []
 | t::ts=>(match ll P d t,QB P d ts with|some s,some l=>some (s::l)|_,_=>none)
mutual
def lx:(s:Sh)->fj s->Prop
 | .int k,n=>O2 k n
 | .bool,_=>True
 | .slice _ e,x=>x.1<=maxLen/\∀ k,k<x.1->Cb e (x.2 k)
 | .agg l,x=>Cb l x
 | .fn _ a b,x=>Cb a x.1/\Cb b x.2
 | .ptr l,x=>Cb l x
 | .own _ _,_=>True
 | .rowr _,_=>True
 | .mpr _,_=>True
 | .any,_=>True
def Cb:(l:List Sh)->Ad l->Prop
 | [],_=>True
 | s::l,x=>lx s x.1/\Cb l x.2
end
theorem Hs {P:Program} {d:Nat} {t:TypeId} {l:List Sh} (h:KF P d t=some l):A9 P t=l.length:=by
 cases d with
 | zero=>simp [KF] at h
 | succ d =>
   unfold KF at h
   split at h
   ·split at h
    ·rename_i hs;injection h with h;subst h;exact Nat.eq_of_beq_eq_true hs
    ·cases h
   ·split at h
    ·rename_i hs;injection h with h;subst h;exact Nat.eq_of_beq_eq_true hs
    ·cases h
   ·split at h
    ·split at h
     ·rename_i hs
      simp only [Bool.and_eq_true] at hs
      injection h with h;subst h;exact Nat.eq_of_beq_eq_true hs.1.1
     ·cases h
    ·cases h
   ·split at h
    ·split at h
     ·rename_i hs;injection h with h;subst h;exact Nat.eq_of_beq_eq_true hs
     ·cases h
    ·cases h
   ·split at h
    ·split at h
     ·rename_i hs;injection h with h;subst h;rw [Nat.eq_of_beq_eq_true hs];simp
     ·cases h
    ·cases h
   ·cases h
theorem Fz (P:Program) (t:TypeId):P.cellsOf t=A9 P t:=by
 unfold Program.cellsOf A9
 cases P.info? t<;>rfl
theorem QC:∀ (l l':List Sh) (y:Ad l) (y':Ad l'),∃ z:Ad (l++l'),Ab (l++l') z=Ab l y++Ab l' y'/\(Cb l y->Cb l' y'->Cb (l++l') z)
 | [],l',y,y'=>⟨y',by simp [Ab],fun _ h=>h⟩
 | s::l,l',y,y'=>by
   obtain ⟨z,h1,h2⟩:=QC l l' y.2 y'
   refine ⟨(y.1,z),?_,?_⟩
   ·show enc s y.1::Ab (l++l') z=_
    rw [h1];simp [Ab]
   ·intro h h'
    unfold Cb at h
    show Cb (s::(l++l')) (y.1,z)
    unfold Cb
    exact ⟨h.1,h2 h.2 h'⟩
section
variable {H:Type} {enc':TypeId × Value->H} {P:Program} {w:World}
def Cx.all (w:World):Cx:=⟨fun _=>none,fun b=>b<w.heap.size,fun _=>none⟩
theorem vr (w:World):HR (Cx.all w) [] w:=⟨fun i p h=>by simp [Cx.all] at h,fun i j b c n b' c' n' h=>by simp [Cx.all] at h,fun i b c n h=>by simp [Cx.all] at h,fun b hb=>hb,fun b x h=>by simp [Cx.all] at h⟩
theorem fJ {α:Type} (d:α) {n:Nat} {p:Nat->α->Prop} (h:∀ i,i<n->∃ x,p i x):∃ f:Nat->α,∀ i,i<n->p i (f i):=by
 classical
 refine ⟨fun i=>if hi:i<n then Classical.choose (h i hi) else d,fun i hi=>?_⟩
 simp only [dif_pos hi]
 exact Classical.choose_spec (h i hi)
theorem NE {d:Nat} {base:Nat} {spare:Nat->Bool} {held:Bool} {cs:List Value}
  (IH:∀ (fuel:Nat) (t:TypeId) (cs:List Value) (x:DataW H × List MemPlace),DataW.trod enc' P w base spare held fuel t cs=some x->∀ l,KF P d t=some l->∃ y:Ad l,RelL (Cx.all w) w (Ab l y) cs/\Cb l y) :
  ∀ (fs:List Field) (off:Nat) (l:List Sh),Ji (KF P d) fs off=some l->(∀ f∈fs,∃ fuel x,DataW.trod enc' P w base spare held fuel f.type ((cs.drop f.offset).take (P.cellsOf f.type))=some x) ->
    ∃ y:Ad l,RelL (Cx.all w) w (Ab l y) ((cs.drop off).take l.length)/\Cb l y
 | [],off,l,h,_=>by
   unfold Ji at h
   injection h with h;subst h
   exact ⟨(),by simp [Ab];exact .nil,trivial⟩
 | f::fs,off,l,h,hx=>by
   unfold Ji at h
   split at h
   ·rename_i l1 hoff h1
    split at h
    ·rename_i l2 h2
     injection h with h;subst h
     obtain ⟨fuel,x,hx1⟩:=hx f (by simp)
     rw [Fz,Hs h1,Nat.eq_of_beq_eq_true hoff] at hx1
     obtain ⟨y1,hr1,hv1⟩:=IH _ _ _ _ hx1 l1 h1
     obtain ⟨y2,hr2,hv2⟩:=NE IH fs (off+l1.length) l2 h2 (fun g hg=>hx g (by simp [hg]))
     obtain ⟨z,hz1,hz2⟩:=QC l1 l2 y1 y2
     refine ⟨z,?_,hz2 hv1 hv2⟩
     rw [hz1,List.length_append,List.take_add,List.drop_drop]
     exact hr1.append hr2
    ·cases h
   ·cases h
theorem Og {d:Nat} {base:Nat} {spare:Nat->Bool} {held:Bool} {cs:List Value} {e:TypeId} {l:List Sh} (hl:KF P d e=some l)
  (IH:∀ (fuel:Nat) (t:TypeId) (cs:List Value) (x:DataW H × List MemPlace),DataW.trod enc' P w base spare held fuel t cs=some x->∀ l,KF P d t=some l->∃ y:Ad l,RelL (Cx.all w) w (Ab l y) cs/\Cb l y) :
  ∀ (n s:Nat),(∀ i,s<=i->i<s+n->∃ fuel x,DataW.trod enc' P w base spare held fuel e ((cs.drop (i*l.length)).take l.length)=some x) ->
    ∃ y:Ad (List.replicate n l).flatten,RelL (Cx.all w) w (Ab (List.replicate n l).flatten y) ((cs.drop (s*l.length)).take (n*l.length))/\Cb (List.replicate n l).flatten y
 | 0,s,_=>⟨(),by simp [Ab];exact .nil,trivial⟩
 | n+1,s,hx=>by
   obtain ⟨fuel,x,hx1⟩:=hx s (Nat.le_refl _) (by omega)
   obtain ⟨y1,hr1,hv1⟩:=IH _ _ _ _ hx1 l hl
   obtain ⟨y2,hr2,hv2⟩:=Og hl IH n (s+1) (fun i h1 h2=>hx i (by omega) (by omega))
   obtain ⟨z,hz1,hz2⟩:=QC l (List.replicate n l).flatten y1 y2
   refine ⟨z,?_,hz2 hv1 hv2⟩
   show RelL (Cx.all w) w (Ab (l++(List.replicate n l).flatten) z) _
   rw [hz1,Nat.add_mul,Nat.one_mul,Nat.add_comm (n*l.length),List.take_add,List.drop_drop]
   rw [Nat.add_mul,Nat.one_mul] at hr2
   exact hr1.append hr2
theorem Oh {base:Nat} {spare:Nat->Bool} {held:Bool}:∀ (d:Nat) (fuel:Nat) (t:TypeId) (cs:List Value) (x:DataW H × List MemPlace),DataW.trod enc' P w base spare held fuel t cs=some x ->
  ∀ l,KF P d t=some l->∃ y:Ad l,RelL (Cx.all w) w (Ab l y) cs/\Cb l y:=by
 intro d
 induction d with
 | zero=>intro fuel t cs x h l hl;simp [KF] at hl
 | succ d ih =>
   intro fuel t cs x h l hl
   have hsz:=Hs hl
   unfold KF at hl
   split at hl
   ·rename_i k hu
    split at hl
    ·injection hl with hl;subst hl
     obtain ⟨n,rfl,_,hw⟩:=DataW.trod_int hu h
     refine ⟨((n:Int),()),.cons _ _ _ _ (.si k n) .nil,?_,trivial⟩
     simp only [Lit.wf,Bool.and_eq_true,decide_eq_true_eq] at hw
     exact hw
    ·cases hl
   ·rename_i hu
    split at hl
    ·injection hl with hl;subst hl
     obtain ⟨b,rfl,_⟩:=DataW.trod_bool hu h
     exact ⟨((b:Bool),()),.cons _ _ _ _ (.sb b) .nil,trivial,trivial⟩
    ·cases hl
   ·rename_i e hu
    split at hl
    ·rename_i le hle
     split at hl
     ·rename_i hc
      simp only [Bool.and_eq_true] at hc
      injection hl with hl;subst hl
      have hpos:0<le.length:=by have:=Nat.le_of_ble_eq_true (show Nat.ble (0+1) le.length=true from hc.2);omega
      have hse:P.cellsOf e=le.length:=by rw [Fz,Hs hle]
      rcases Go.Deep.open_slice hu h with ⟨rfl,_⟩|⟨a,len,cap,m,n,D,Pl,rfl,hb,hlc,hcm,hm,_,hel⟩
      ·refine ⟨((0,fun _=>DP le []),()),.cons _ _ _ _ ?_ .nil,⟨Nat.zero_le _,fun k hk=>by simp at hk⟩,trivial⟩
       exact .slc (.sym 0) _ _ none 0 (fun _=>[]) (Nat.le_refl _) (fun h=>by simp [LN.val] at h) (fun k hk=>by simp [LN.val] at hk) (fun k hk=>by simp [LN.val] at hk) (fun k hk=>by simp [LN.val] at hk)
      ·have hle2:len<=m:=by rw [hm];split<;>omega
       obtain ⟨f,hf⟩:=fJ (DP le [],([]:List Value)) (n:=len) (p:=fun i (z:Ad le × List Value)=>RelL (Cx.all w) w (Ab le z.1) z.2/\Cb le z.1/\w.cells? base (a.add (i*le.length)) le.length=some z.2) (fun i hi=>by
        obtain ⟨cs',h1,h2⟩:=hel i (by omega)
        rw [hse] at h1
        obtain ⟨y,hr,hv⟩:=ih _ _ _ _ h2 le hle
        exact ⟨(y,cs'),hr,hv,h1⟩)
       refine ⟨((len,fun i=>(f i).1),()),.cons _ _ _ _ ?_ .nil,⟨by simp only;omega,fun k hk=>(hf k hk).2.1⟩,trivial⟩
       refine .slc (.sym len) _ _ (some a) cap (fun i=>(f i).2) hlc (fun h0=>⟨a,rfl,?_,fun k hk j hj=>?_⟩) (fun k hk=>(hf k hk).1) (fun k hk=>?_) (fun k hk=>Lz hc.1.2)
       ·obtain ⟨_,h1,h2⟩:=World.cells?_some (hf 0 h0).2.2
        have h3:=h2 0 (by omega)
        rw [List.getElem?_eq_getElem (by omega),Nat.zero_mul] at h3
        show a.block<w.heap.size
        rcases Nat.lt_or_ge a.block w.heap.size with h|h
        ·exact h
        ·exfalso
         unfold World.cell? at h3
         rw [BH,BH,Array.getElem?_eq_none h] at h3
         simp at h3
       ·obtain ⟨_,h1,h2⟩:=World.cells?_some (hf k hk).2.2
        rw [<- HW]
        exact h2 j hj
       ·exact (World.cells?_some (hf k hk).2.2).2.1
     ·cases hl
    ·cases hl
   ·rename_i fs hu
    split at hl
    ·rename_i lf hf
     split at hl
     ·injection hl with hl;subst hl
      obtain ⟨xs,n,_,_,hlen,hxl,hx⟩:=DataW.trod_struct hu h
      obtain ⟨y,hr,hv⟩:=NE ih fs.toList 0 lf hf (cs:=cs) (fun f hfm=>by
       obtain ⟨i,hi,hfi⟩:=List.getElem_of_mem hfm
       have h1:=hx i f (by simp at hi;simp [hi];simpa using hfi)
       have h2:xs[i]? = some (xs[i]'(by simp at hi;omega)):=List.getElem?_eq_getElem _
       exact ⟨n,_,by rw [h1,h2]⟩)
      refine ⟨y,?_,hv⟩
      rwa [List.drop_zero,List.take_of_length_le (by rw [hlen,Fz,hsz];exact Nat.le_refl _)] at hr
     ·cases hl
    ·cases hl
   ·rename_i n e hu
    split at hl
    ·rename_i le hle
     split at hl
     ·injection hl with hl;subst hl
      obtain ⟨xs,m,_,_,hlen,hxl,hx⟩:=DataW.trod_array hu h
      obtain ⟨y,hr,hv⟩:=Og (cs:=cs) hle ih n 0 (fun i _ hi=>by
       have h1:=hx i (by omega)
       rw [Fz,Hs hle] at h1
       exact ⟨m,_,by rw [h1,List.getElem?_eq_getElem (by omega)]⟩)
      refine ⟨y,?_,hv⟩
      rw [Nat.zero_mul,List.drop_zero,List.take_of_length_le (by rw [hlen,Fz,hsz];simp)] at hr
      exact hr
     ·cases hl
    ·cases hl
   ·cases hl
theorem ic {d base b0:Nat} {r:Reach} {spare:Nat->Bool} {held:Bool} {t:TypeId} {v:Value} {dd:DataW H} {ps:List MemPlace} {s:Sh} (hval:Value.okWide P w r b0 t v) (h:DataW.Trod enc' P w base spare held t v dd ps) (hs:ll P d t=some s) :
  ∃ y:fj s,Rel (Cx.all w) w (enc s y) v/\lx s y:=by
 obtain ⟨fuel,h⟩:=h
 unfold ll at hs
 split at hs
 ·cases hs
 ·rename_i l hl
  split at hs
  ·rename_i ha
   injection hs with hs;subst hs
   obtain ⟨y,hr,hv⟩:=Oh d _ _ _ _ h l hl
   have hagg:∃ cs,v=.agg cs:=by
    unfold Value.okWide at hval
    unfold isAgg at ha
    split at ha
    ·rename_i fs hu;rw [hu] at hval;obtain ⟨cs,h1,_⟩:=hval;exact ⟨cs,h1⟩
    ·rename_i n e hu;rw [hu] at hval;obtain ⟨cs,h1,_⟩:=hval;exact ⟨cs,h1⟩
    ·cases ha
    ·cases ha
   obtain ⟨cs,rfl⟩:=hagg
   refine ⟨y,?_,?_⟩
   ·unfold enc;exact .agg _ _ hr
   ·unfold lx;exact hv
  ·split at hs
   ·injection hs with hs;subst hs
    obtain ⟨y,hr,hv⟩:=Oh d _ _ _ _ h _ hl
    have ha:isAgg P t=some false:=by assumption
    have hone:v.cells.toList=[v]:=by
     unfold isAgg at ha
     have hsz:=Hs hl
     cases d with
     | zero=>simp [KF] at hl
     | succ d =>
       unfold KF at hl
       split at hl
       ·rename_i k hu;obtain ⟨n,h1,_⟩:=DataW.trod_int hu h
        unfold Value.okWide Cell.okWide Cell.ok at hval
        simp only [hu] at hval
        cases v<;>simp at hval<;>rfl
       ·rename_i hu;obtain ⟨n,h1,_⟩:=DataW.trod_bool hu h
        unfold Value.okWide Cell.okWide Cell.ok at hval
        simp only [hu] at hval
        cases v<;>simp at hval<;>rfl
       ·rename_i e hu
        unfold Value.okWide Cell.okWide Cell.ok at hval
        simp only [hu] at hval
        cases v<;>simp at hval<;>rfl
       ·rename_i fs hu;simp [hu] at ha
       ·rename_i n e hu;simp [hu] at ha
       ·cases hl
    rw [hone] at hr
    cases hr with
    | cons _ _ _ _ h1 h2 =>
      unfold Cb at hv
      exact ⟨y.1,h1,hv.1⟩
   ·cases hs
  ·cases hs
theorem VU {d base b0:Nat} {r:Reach} {spare:Nat->Bool} {held:Bool}:∀ {ts:List TypeId} {vs:List Value} {ds:List (DataW H)} {ps:List MemPlace} {shs:List Sh},DataW.TrodAll enc' P w base spare held ts vs ds ps ->
  (∀ (j:Nat) (t:TypeId) (v:Value),ts[j]? = some t->vs[j]? = some v->Value.okWide P w r b0 t v)->QB P d ts=some shs->∃ x:Ad shs,RelL (Cx.all w) w (Ab shs x) vs/\Cb shs x
 | [],vs,ds,ps,shs,h,_,hs=>by
   unfold QB at hs
   injection hs with hs;subst hs
   obtain ⟨rfl,_,_⟩:=trodAll_nil h
   exact ⟨(),by unfold Ab;exact .nil,trivial⟩
 | t::ts,vs,ds,ps,shs,h,hok,hs=>by
   unfold QB at hs
   split at hs
   ·rename_i s l h1 h2
    injection hs with hs;subst hs
    obtain ⟨v,vs,dd,ds,p,q,rfl,rfl,rfl,h3,h4⟩:=trodAll_cons h
    obtain ⟨y,hr,hv⟩:=ic (hok 0 t v rfl rfl) h3 h1
    obtain ⟨x,hrs,hvs⟩:=VU h4 (fun j t' v' ht hv=>hok (j+1) t' v' (by simpa using ht) (by simpa using hv)) h2
    exact ⟨(y,x),by unfold Ab;exact .cons _ _ _ _ hr hrs,by unfold Cb;exact ⟨hv,hvs⟩⟩
   ·cases hs
end
end Abs
end Go.Proofs.YtccgngldoinokaaGreat

namespace Go.Proofs.YtccgngldoinokaaGreat
namespace Abs
open Go Go.RowKit Go.ChangeShapes Go.WideShapes
section
variable {H:Type} {enc':TypeId × Value->H} {P:Program} {W W':World}
theorem KN (laid:laidOutB P=true) (hb:Below W.heap.size W W'):∀ {ts:List TypeId} {vs:List Value} {ds:List (DataW H)} {ps:List MemPlace},(ts.all fun t=>P.readableRec t&&decide (t<P.types.size))=true ->
  DataW.TrodAll enc' P W 0 (fun _=>true) true ts vs ds ps->(∀ x∈ps,x.block<W.heap.size)->DataW.TrodAll enc' P W' 0 (fun b=>decide (b<W.heap.size)) true ts vs ds ps
 | [],vs,ds,ps,_,h,_=>by
   obtain ⟨rfl,rfl,rfl⟩:=trodAll_nil h
   exact trodAll_mk0
 | t::ts,vs,ds,ps,hr,h,hlt=>by
   obtain ⟨v,vs,d,ds,p,q,rfl,rfl,rfl,h1,h2⟩:=trodAll_cons h
   simp only [List.all_cons,Bool.and_eq_true,decide_eq_true_eq] at hr
   exact trodAll_cons_mk (Below.trod laid hr.1.1 hr.1.2 h1 hb fun x hx=>hlt x (List.mem_append_left _ hx)) (KN laid hb hr.2 h2 fun x hx=>hlt x (List.mem_append_right _ hx))
theorem N7:∀ {ts:List TypeId} {vs:List Value} {ds:List (DataW H)} {ps:List MemPlace} {base:Nat} {sp:Nat->Bool} {held:Bool},DataW.TrodAll enc' P W base sp held ts vs ds ps->ds.length=ts.length
 | [],vs,ds,ps,_,_,_,h=>by
   obtain ⟨rfl,rfl,rfl⟩:=trodAll_nil h
   rfl
 | t::ts,vs,ds,ps,_,_,_,h=>by
   obtain ⟨v,vs,d,ds,p,q,rfl,rfl,rfl,h1,h2⟩:=trodAll_cons h
   simp [N7 h2]
theorem law_post {f:Func} {s:ChangeSpec} {tb:TypeId} {apart handsOn fresh:Bool} (laid:laidOutB P=true) (hrt:f.resultTypes = #[tb]) (hub:P.underlying tb=some .bool) (hpar:(f.params.toList.all fun t=>P.readableRec t&&decide (t<P.types.size))=true)
  (hsv:s.vars=[]) {args:Array Value} {ds gs:List (DataW H)} {before:List MemPlace} (n:Nat) (hn:f.params.toList.length=n) (hsf0:∀ ds:List (DataW H),ds.length=n->(s.fn H ds).results=[.lit (.bool true)]/\(s.fn H ds).args=ds/\(s.fn H ds).vars=[])
  (hW:DataW.Whole enc' P f.params.toList s.vars apart W args.toList ds gs before) (hb:Below W.heap.size W W'):s.post enc' P f apart fresh handsOn false W args (.bool true) W':=by
 have hlt:=hW.lt
 have hW':=hW
 obtain ⟨p,q,hA,hV,rfl,hfz,hnd⟩:=hW
 have hsf:=hsf0 ds ((N7 hA).trans hn)
 rw [hsv] at hV
 obtain ⟨rfl,rfl⟩:=trodVars_none hV
 rw [List.append_nil] at hlt hW'
 refine ⟨ds,[],p,[],p,[],hW',?_,?_,?_,hb.frame _,fun h=>by cases h⟩
 ·rw [List.append_nil,hsf.1,hrt]
  exact trodAll_mk1 (shut_bool hub true)
 ·rw [List.append_nil,hsf.2.1]
  exact KN laid hb hpar hA hlt
 ·rw [hsv,List.append_nil,hsf.2.2]
  exact rfl
def tD (P:Program) (f:FuncId) (shs:List Sh):Prop:=FnSpec P f shs ⟨Cb shs,fun _=>.sb true⟩
theorem law_calls {f:FuncId} {fn:Func} {shs:List Sh} (hl:tD P f shs) {d:Nat} {args:Array Value} {ds:List (DataW H)} {ps:List MemPlace} (hs:QB P d fn.params.toList=some shs)
  (hA:DataW.TrodAll enc' P W 0 (fun _=>true) true fn.params.toList args.toList ds ps) {r:Reach} {base:Nat} (hval:∀ (j:Nat) t v,fn.params[j]? = some t->args[j]? = some v->Value.okWide P W r base t v) :
  Calls P f args W fun e W'=>e=.returned (.bool true)/\Below W.heap.size W W':=by
 obtain ⟨x,hr,hv⟩:=VU (d:=d) hA (fun j t v ht hv=>hval j t v (by simpa using ht) (by simpa using hv)) hs
 have:=hl x hv (Cx.all W) W args.toList (fun _=>rfl) (vr W) hr
 refine Calls.mono this ?_
 rintro e w' ⟨v,C',he,h1,h2,h3⟩
 cases h2
 exact ⟨he,h3.os,h3.tape,h3.output,h3.size,fun k hk=>h3.keep k hk fun i b c n hi=>by simp at hi⟩
end
end Abs
end Go.Proofs.YtccgngldoinokaaGreat

namespace Go.Proofs.YtccgngldoinokaaGreat
namespace Abs
open Go Go.RowKit
def renA (f:Nat->Nat):AV->AV
 | .own i off=>.own (f i) off
 | .row i=>.row (f i)
 | .mp i=>.mp (f i)
 | .agg l=>.agg (renL f l)
 | .tup l=>.tup (renL f l)
 | .fn g a b=>.fn g (renL f a) (renL f b)
 | a=>a
where renL (f:Nat->Nat):List AV->List AV
 | []=>[]
 | a::l=>renA f a::renL f l
def okR (p:Nat->Bool):AV->Bool
 | .own i _=>p i
 | .row i=>p i
 | .mp i=>p i
 | .elt _ _ _ _=>false
 | .lsl _ _ _=>false
 | .gd _ _=>false
 | .agg l=>okRL p l
 | .tup l=>okRL p l
 | .fn _ a b=>okRL p a&&okRL p b
 | _=>true
where okRL (p:Nat->Bool):List AV->Bool
 | []=>true
 | a::l=>okR p a&&okRL p l
noncomputable section
def renA_renLP:{g:(Nat->Nat)->List AV->List AV // renA.renL=g}:=⟨_,by delta renA.renL;rfl⟩
def EU:(Nat->Nat)->List AV->List AV:=renA_renLP.1
theorem HY:EU=renA.renL:=renA_renLP.2.symm
def renAP:{g:(Nat->Nat)->AV->AV // renA=g}:=⟨_,by delta renA;rfl⟩
def ia:(Nat->Nat)->AV->AV:=renAP.1
theorem VP:ia=renA:=renAP.2.symm
def okR_okRLP:{g:(Nat->Bool)->List AV->Bool // okR.okRL=g}:=⟨_,by delta okR.okRL;rfl⟩
def Jz:(Nat->Bool)->List AV->Bool:=okR_okRLP.1
theorem Ig:Jz=okR.okRL:=okR_okRLP.2.symm
def okRP:{g:(Nat->Bool)->AV->Bool // okR=g}:=⟨_,by delta okR;rfl⟩
def uT:(Nat->Bool)->AV->Bool:=okRP.1
theorem aY:uT=okR:=okRP.2.symm
end
attribute [simp] HY VP Ig aY
noncomputable section
def VO (f:Nat->Nat):Blk->Blk
 | .cells t l=>.cells t (EU f l)
 | b=>b
def YN (p:Nat->Bool):Blk->Bool
 | .cells _ l=>Jz p l
 | .rows _ _ _ _ _ _ _ _=>false
 | _=>true
def YM (p:Nat->Bool):A0->Bool
 | []=>true
 | b::l=>YN p b&&YM p l
def KH:List Nat->Nat->Nat
 | [],_=>0
 | j::l,i=>(match Nat.beq j i with|true=>0|false=>KH l i+1)
def JM:List Nat->Bool
 | []=>true
 | j::l=>!(Eh j l)&&JM l
def NV (js:List Nat) (hp:A0):List Nat->A0
 | []=>[]
 | j::l=>VO (KH js) (A3 hp j)::NV js hp l
def Ou (js:List Nat) (hp:A0):List Nat->Bool
 | []=>true
 | j::l=>YN (fun i=>Eh i js) (A3 hp j)&&Ou js hp l
def NY (js:List Nat) (n:Nat) (k:Nat):Nat:=match js[k]? with|some i=>i|none=>n+(k-js.length)
def YH (js:List Nat) (f:Nat->Nat) (h1:A0):Nat->A0->A0
 | _,[]=>[]
 | i,b::l=>(match Eh i js with|true=>VO f (A3 h1 (KH js i))|false=>b)::YH js f h1 (i+1) l
def dt (f:Nat->Nat):Nat->A0->A0
 | _,[]=>[]
 | 0,b::l=>VO f b::dt f 0 l
 | m+1,_::l=>dt f m l
end
section
variable {P:Program} {S:Sums} {C C' C1:Cx} {w w':World} {H hp:A0}
theorem Zw {f:Nat->Nat} {p:Nat->Bool} (hρ:∀ i q,p i=true->C.ρ i=some q->C'.ρ (f i)=some q) (hI:∀ b,C.I b->C'.I b) {a:AV} {v:Value} (h:Rel C w a v):okR p a=true->Rel C' w (renA f a) v:=by
 refine Rel.rec (C:=C) (w:=w) (motive_1:=fun a v _=>okR p a=true->Rel C' w (renA f a) v) (motive_2:=fun l vs _=>okR.okRL p l=true->RelL C' w (renA.renL f l) vs)
  ?_ ?_ ?_ ?_ ?_ ?_ ?_ ?_ ?_ ?_ ?_ ?_ ?_ ?_ ?_ ?_ ?_ ?_ ?_ ?_ ?_ h
 ·exact fun v _=>.top v
 ·exact fun k a v ho=>by simp [okR] at ho
 ·exact fun k n _=>.li k n
 ·exact fun k n _=>.si k n
 ·exact fun b _=>.lb b
 ·exact fun b _=>.sb b
 ·exact fun x _=>.v x
 ·exact fun l vs _ h ho=>.agg _ vs (h (by simpa [okR] using ho))
 ·exact fun l vs _ h ho=>.tup _ vs (h (by simpa [okR] using ho))
 ·exact fun i off b c n h ho=>.own _ _ _ _ _ (hρ _ _ (by simpa [okR] using ho) h)
 ·exact fun i sz k off b c n h hk ho=>by simp [okR] at ho
 ·exact fun i b c n h ho=>.row _ _ _ _ (hρ _ _ (by simpa [okR] using ho) h)
 ·exact fun i n sz b c m h ho=>by simp [okR] at ho
 ·exact fun i h ho=>.rown _ (hρ _ _ (by simpa [okR] using ho) h)
 ·intro n sz el A cap vs hcap hA hr hl hn _ _
  exact (Rel.slc n sz el A cap vs hcap hA hr hl hn).change hI rfl
 ·intro l ad vs hr hI' hc hn _ _
  exact (Rel.xp l ad vs hr hI' hc hn).change hI rfl
 ·exact fun g l m vs ws _ _ h h' ho=>by
   simp [okR] at ho
   exact .fn _ _ _ vs ws (h ho.1) (h' ho.2)
 ·intro n sz el ad vs hI' hc hr hl hn _ _
  exact (Rel.pa n sz el ad vs hI' hc hr hl hn).change hI rfl
 ·exact fun i b c n h ho=>.mp _ _ _ _ (hρ _ _ (by simpa [okR] using ho) h)
 ·exact fun _=>.nil
 ·exact fun a l v vs _ _ h h' ho=>by
   simp [okR.okRL] at ho
   exact .cons _ _ v vs (h ho.1) (h' ho.2)
theorem Ob {f:Nat->Nat} {p:Nat->Bool} (hρ:∀ i q,p i=true->C.ρ i=some q->C'.ρ (f i)=some q) (hI:∀ b,C.I b->C'.I b):∀ {l:List AV} {vs:List Value},RelL C w l vs->okR.okRL p l=true->RelL C' w (renA.renL f l) vs
 | _,_,.nil,_=>.nil
 | _,_,.cons a l v vs h h',ho=>by
   simp [okR.okRL] at ho
   exact .cons _ _ _ _ (Zw hρ hI h ho.1) (Ob hρ hI h' ho.2)
theorem Oc {f:Nat->Nat} {p:Nat->Bool} (hρ:∀ i q,p i=true->C.ρ i=some q->C'.ρ (f i)=some q) (hI:∀ b,C.I b->C'.I b) {b:Blk} {q:Pl} (h:BRel C w q b) (ho:YN p b=true):BRel C' w q (VO f b):=by
 cases b with
 | dead=>cases q<;>exact h.elim
 | cells t l =>
   cases q with
   | nil=>exact h.elim
   | «at» x cap n =>
     obtain ⟨vs,hr,hh⟩:=h
     unfold YN at ho
     rw [Ig] at ho
     unfold VO
     rw [HY]
     exact ⟨vs,Ob hρ hI hr ho,hh⟩
 | row e sz m el =>
   cases q with
   | nil=>exact h
   | «at» x cap n =>
     obtain ⟨h1,h2,h3,cs,vs,hh,hs,hc⟩:=h
     exact ⟨h1,h2,h3,cs,vs,hh,hs,fun k hk=>⟨(hc k hk).1.change hI (Ca (hc k hk).2.1),(hc k hk).2⟩⟩
 | mat t wd m f =>
   cases q with
   | nil=>exact h.elim
   | «at» x cap n =>
     obtain ⟨h1,h2,h3,cs,hh,hs,hc⟩:=h
     exact ⟨h1,h2,h3,cs,hh,hs,fun k hk j hj=>by
      obtain ⟨ho,v,hv,hr⟩:=hc k hk j hj
      exact ⟨ho,v,hv,hr.change hI (LP ho)⟩⟩
 | rows=>unfold YN at ho;cases ho
 | tab m sz el =>
   cases q with
   | nil=>exact h.elim
   | «at» x cap n =>
     obtain ⟨es,ck,vs,hh,hs,hc⟩:=h
     exact ⟨es,ck,vs,hh,hs,fun k hk=>⟨(hc k hk).1.change hI (Ca (hc k hk).2.1),(hc k hk).2⟩⟩
theorem Tg:∀ {js:List Nat} {i:Nat},Eh i js=true->js[KH js i]? = some i
 | [],i,h=>by simp [Eh] at h
 | j::l,i,h=>by
   unfold Eh at h
   unfold KH
   split at h
   ·rename_i e;rw [e];have:=Nat.eq_of_beq_eq_true e;subst this;rfl
   ·rename_i e;rw [e];simpa using Tg h
theorem Nm:∀ {js:List Nat} {k i:Nat},js[k]? = some i->Eh i js=true
 | [],k,i,h=>by simp at h
 | j::l,0,i,h=>by
   simp at h;subst h
   unfold Eh;rw [Nat.beq_refl]
 | j::l,k+1,i,h=>by
   simp at h
   unfold Eh
   split
   ·rfl
   ·exact Nm h
theorem R2:∀ {js:List Nat} {k k' i:Nat},JM js=true->js[k]? = some i->js[k']? = some i->k=k'
 | [],k,k',i,_,h,_=>by simp at h
 | j::l,0,0,i,_,_,_=>rfl
 | j::l,0,k'+1,i,hn,h,h'=>by
   simp at h h';subst h
   simp [JM,Nm h'] at hn
 | j::l,k+1,0,i,hn,h,h'=>by
   simp at h h';subst h'
   simp [JM,Nm h] at hn
 | j::l,k+1,k'+1,i,hn,h,h'=>by
   simp at h h'
   simp [JM] at hn
   rw [R2 hn.2 h h']
theorem Ww (js:List Nat) (hp:A0):∀ (l:List Nat) (k i:Nat),l[k]? = some i->A3 (NV js hp l) k=VO (KH js) (A3 hp i)
 | [],k,i,h=>by simp at h
 | j::l,0,i,h=>by simp at h;subst h;rfl
 | j::l,k+1,i,h=>by simp at h;exact Ww js hp l k i h
theorem be (js:List Nat) (hp:A0):∀ l:List Nat,(NV js hp l).length=l.length
 | []=>rfl
 | _::l=>by simp [NV,be js hp l]
theorem jC (js:List Nat) (hp:A0):∀ (l:List Nat) (k i:Nat),Ou js hp l=true->l[k]? = some i->YN (fun i=>Eh i js) (A3 hp i)=true
 | [],k,i,_,h=>by simp at h
 | j::l,0,i,ho,h=>by simp at h;subst h;simp [Ou] at ho;exact ho.1
 | j::l,k+1,i,ho,h=>by simp at h;simp [Ou] at ho;exact jC js hp l k i ho.2 h
theorem bf (js:List Nat) (f:Nat->Nat) (h1:A0):∀ (i:Nat) (l:A0),(YH js f h1 i l).length=l.length
 | _,[]=>rfl
 | i,_::l=>by simp [YH,bf js f h1 (i+1) l]
theorem Wx (js:List Nat) (f:Nat->Nat) (h1:A0):∀ (i k:Nat) (l:A0),k<l.length->A3 (YH js f h1 i l) k=(match Eh (i+k) js with|true=>VO f (A3 h1 (KH js (i+k)))|false=>A3 l k)
 | i,k,[],h=>by simp at h
 | i,0,b::l,_=>rfl
 | i,k+1,b::l,h=>by
   have:=Wx js f h1 (i+1) k l (by simpa using h)
   rw [show i+1+k=i+(k+1) by omega] at this
   exact this
theorem PZ (f:Nat->Nat):∀ (m k:Nat) (l:A0),A3 (dt f m l) k=VO f (A3 l (k+m))
 | m,k,[]=>by cases m<;>rfl
 | 0,0,b::l=>rfl
 | 0,k+1,b::l=>by have:=PZ f 0 k l;exact this
 | m+1,k,b::l=>by have:=PZ f m k l;rw [show k+(m+1)=(k+m)+1 by omega];exact this
theorem Ov {p:Nat->Bool}:∀ {l:A0} {k:Nat},YM p l=true->YN p (A3 l k)=true
 | [],_,_=>rfl
 | b::l,0,h=>by simp [YM] at h;exact h.1
 | b::l,k+1,h=>by simp [YM] at h;exact Ov (l:=l) h.2
theorem Fn.focus {f:FuncId} {args:List AV} {js:List Nat} {res:AV} {h1:A0} (hnd:JM js=true) (hoa:okR.okRL (fun i=>Eh i js) args=true) (hoh:Ou js hp js=true)
  (hor:okR (fun _=>true) res=true) (ho1:YM (fun _=>true) h1=true)
  (h:Fn P f (renA.renL (KH js) args) (NV js hp js) res h1) :
  Fn P f args hp (renA (NY js hp.length) res) (YH js (NY js hp.length) h1 0 hp++dt (NY js hp.length) js.length h1):=by
 intro C w vs hO hH ha
 have hpos:∀ i q,Eh i js=true->C.ρ i=some q->(⟨fun k=>match js[k]? with|some i=>C.ρ i|none=>none,C.I,fun _=>none⟩:Cx).ρ (KH js i)=some q:=fun i q hm hq=>by
  simp only [Tg hm];exact hq
 have hC0:∀ k q,(⟨fun k=>match js[k]? with|some i=>C.ρ i|none=>none,C.I,fun _=>none⟩:Cx).ρ k=some q->∃ i,js[k]? = some i/\C.ρ i=some q:=fun k q hq=>by
  simp only at hq
  split at hq
  ·rename_i i hi;exact ⟨i,hi,hq⟩
  ·cases hq
 have hH0:HR (⟨fun k=>match js[k]? with|some i=>C.ρ i|none=>none,C.I,fun _=>none⟩:Cx) (NV js hp js) w:=by
  refine ⟨fun k q hq=>?_,fun k k' b c n b' c' n' hq hq' hne=>?_,fun k b c n hq=>?_,hH.ilt,fun b x h=>by cases h⟩
  ·obtain ⟨i,hi,hq⟩:=hC0 k q hq
   rw [Ww js hp js k i hi]
   exact Oc hpos (fun _ h=>h) (hH.live i q hq) (jC js hp js k i hoh hi)
  ·obtain ⟨i,hi,hq⟩:=hC0 _ _ hq
   obtain ⟨i',hi',hq'⟩:=hC0 _ _ hq'
   exact hH.inj i i' _ _ _ _ _ _ hq hq' fun e=>hne (by subst e;exact R2 hnd hi hi')
  ·obtain ⟨i,hi,hq⟩:=hC0 _ _ hq
   exact hH.fresh _ _ _ _ hq
 refine (h _ w vs (fun _=>rfl) hH0 (Ob hpos (fun _ h=>h) ha hoa)).mono ?_
 rintro e w' ⟨v,C1,he,h2,h3,h4⟩
 rw [be] at h4
 have hlt:∀ {i:Nat} {p:Pl},C.ρ i=some p->i<hp.length:=fun hi=>hH.lt hi
 have hkeep:∀ b,b<w.heap.size->(∀ i c n,Eh i js=true->C.ρ i≠some (.at b c n))->w'.heap[b]? = w.heap[b]?:=fun b hb hn=>h4.keep b hb fun k b' c n hk hq e=>by
  subst e
  obtain ⟨i,hi,hq⟩:=hC0 _ _ hq
  exact hn i c n (Nm hi) hq
 let C':Cx:=⟨fun i=>if i<hp.length then C.ρ i else C1.ρ (i-hp.length+js.length),C1.I,C1.O⟩
 have hρ1:∀ k i,js[k]? = some i->C1.ρ k=C.ρ i:=fun k i hi=>by
  rw [h4.rho k (List.getElem?_eq_some_iff.1 hi).1];simp only [hi]
 have hout:∀ k q,(fun _:Nat=>true) k=true->C1.ρ k=some q->C'.ρ (NY js hp.length k)=some q:=fun k q _ hq=>by
  unfold NY
  cases hk:js[k]? with
  | some i =>
    rw [hρ1 k i hk] at hq
    show (if i<hp.length then C.ρ i else _)=_
    rw [if_pos (hlt hq)];exact hq
  | none =>
    have:=List.getElem?_eq_none_iff.1 hk
    show (if hp.length+(k-js.length)<hp.length then _ else C1.ρ (hp.length+(k-js.length)-hp.length+js.length))=_
    rw [if_neg (by omega),show hp.length+(k-js.length)-hp.length+js.length=k by omega];exact hq
 have hx:Cext C w C' w':=⟨fun i p hi=>by show (if i<hp.length then _ else _)=_;rw [if_pos (hlt hi)];exact hi,fun b hb=>h4.imm b hb,fun b hb=>hkeep b (hH.ilt b hb) fun i c n _ hq=>(hH.fresh _ _ _ _ hq).2 hb⟩
 have hold:∀ {i:Nat} {q:Pl},i<hp.length->C'.ρ i=some q->C.ρ i=some q:=fun hi hq=>by
  have hq:(if _<hp.length then C.ρ _ else C1.ρ _)=some _:=hq
  rwa [if_pos hi] at hq
 have hnew:∀ {i:Nat} {q:Pl},¬ i<hp.length->C'.ρ i=some q->C1.ρ (i-hp.length+js.length)=some q:=fun hi hq=>by
  have hq:(if _<hp.length then C.ρ _ else C1.ρ _)=some _:=hq
  rwa [if_neg hi] at hq
 have hlen:=bf js (NY js hp.length) h1 0 hp
 refine ⟨v,C',he,⟨fun i q hi=>?_,fun i j b c n b' c' n' hi hj hne=>?_,fun i b c n hi=>?_,h2.ilt,fun b x hb=>?_⟩,Zw hout (fun _ h=>h) h3 hor,?_⟩
 ·by_cases hin:i<hp.length
  ·have hq:=hold hin hi
   rw [Ds,List.getD_eq_getElem?_getD,List.getElem?_append_left (by omega),<- List.getD_eq_getElem?_getD,<- Ds,Wx _ _ _ _ _ _ hin,Nat.zero_add]
   cases hm:Eh i js with
   | true =>
     have hk:=Tg hm
     have:=h2.live (KH js i) q (by rw [hρ1 _ _ hk];exact hq)
     exact Oc hout (fun _ h=>h) this (Ov ho1)
   | false =>
     refine (hH.live i q hq).mono hx (fun b c n e=>?_) fun b x hb=>by rw [hO b] at hb;cases hb
     subst e
     refine hkeep b (hH.fresh _ _ _ _ hq).1 fun j c' n' hj hq'=>?_
     have:i≠j:=fun e=>by subst e;rw [hm] at hj;cases hj
     exact hH.inj _ _ _ _ _ _ _ _ hq hq' this rfl
  ·have hq:=hnew hin hi
   rw [Ds,List.getD_eq_getElem?_getD,List.getElem?_append_right (by omega),<- List.getD_eq_getElem?_getD,<- Ds,hlen,PZ]
   exact Oc hout (fun _ h=>h) (h2.live _ q hq) (Ov ho1)
 ·by_cases hi':i<hp.length<;>by_cases hj':j<hp.length
  ·exact hH.inj _ _ _ _ _ _ _ _ (hold hi' hi) (hold hj' hj) hne
  ·have h5:=(hH.fresh _ _ _ _ (hold hi' hi)).1
   have h6:=h4.own _ _ _ _ (by omega) (hnew hj' hj)
   omega
  ·have h5:=(hH.fresh _ _ _ _ (hold hj' hj)).1
   have h6:=h4.own _ _ _ _ (by omega) (hnew hi' hi)
   omega
  ·exact h2.inj _ _ _ _ _ _ _ _ (hnew hi' hi) (hnew hj' hj) (by omega)
 ·by_cases hi':i<hp.length
  ·have h5:=hH.fresh _ _ _ _ (hold hi' hi)
   refine ⟨Nat.lt_of_lt_of_le h5.1 h4.size,fun hI=>?_⟩
   rcases h4.imm' b hI with h6|h6
   ·exact h5.2 h6
   ·omega
  ·exact h2.fresh _ _ _ _ (hnew hi' hi)
 ·obtain ⟨s1,s2,s3,s4⟩:=h2.sub b x hb
  refine ⟨s1,s2,fun i b' c n hi=>?_,s4⟩
  by_cases hi':i<hp.length
  ·have h5:=hH.fresh _ _ _ _ (hold hi' hi)
   have h6:=h4.sub b x hb
   omega
  ·exact s3 _ _ _ _ (hnew hi' hi)
 ·refine ⟨h4.os,h4.tape,h4.output,h4.size,fun k hk hno=>hkeep k hk fun i c n _ hq=>?_,h4.imm,h4.imm',fun i hi=>?_,fun i b c n hi hq=>h4.own _ _ _ _ (by omega) (hnew (by omega) hq),h4.sub⟩
  ·exact hno i k c n (hlt hq) hq rfl
  ·show (if i<hp.length then _ else _)=_;rw [if_pos hi]
end
end Abs
end Go.Proofs.YtccgngldoinokaaGreat
