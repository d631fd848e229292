/- A part of the proof: no statement of its own. -/
import Derived.Test.YtlacopdaibhkkaaGreatQG40764910
import Derived.Deep.LoopGhost
import Derived.KernelRfl
import Derived.ChangeKeysEq
import Derived.ProofKit
import Derived.OpenShut
import Derived.Deep.Slices
set_option linter.unusedSimpArgs false
set_option linter.unusedVariables false
namespace Go.Proofs.YtlacopdaibhkkaaGreat
namespace Abs
open Go Go.RowKit
section
variable {P : Program} {S : Sums} {C C' : Cx} {w w' : World} {H hp : Heap} {T T1 T' : List Cnd} {all : List Oper} {I : Act -> World -> Prop}
theorem gi_rel {j : Nat} {t : TypeId} {l : List AV} (hH : HR C hp w) (hb : getB hp j = .cells t l) (hn : ownIn.ownInL l = false) {x : AV} {v : Value} (h : Rel C w x v) : Rel (givC C j) w (giA j l x) v:=by
 have hI : ∀ b,C.I b -> (givC C j).I b:=fun b h=>.inl h
 have hbk : ∀ b,C.I b -> w.heap[b]? = w.heap[b]?:=fun _ _=>rfl
 refine Rel.rec (C:=C) (w:=w) (motive_1:=fun x v _=>Rel (givC C j) w (giA j l x) v) (motive_2:=fun m vs _=>RelL (givC C j) w (giA.giL j l m) vs)
  ?_ ?_ ?_ ?_ ?_ ?_ ?_ ?_ ?_ ?_ ?_ ?_ ?_ ?_ ?_ ?_ ?_ ?_ ?_ ?_ h
 ·exact fun v=>.top v
 ·exact fun k a v=>.gd k _ v
 ·exact fun k n=>.li k n
 ·exact fun k n=>.si k n
 ·exact fun b=>.lb b
 ·exact fun b=>.sb b
 ·exact fun x=>.v x
 ·exact fun l vs _ h=>.agg _ vs h
 ·exact fun l vs _ h=>.tup _ vs h
 ·intro i off b c n h
  simp only [giA]
  by_cases hi : i = j
  ·subst hi
   rw [show Nat.beq i i = true by simp]
   have hl:=hH.live _ _ h
   rw [hb] at hl
   obtain ⟨vs,hr,hh⟩:=hl
   simp only
   rw [dropL_eq]
   refine .xp _ _ (vs.drop off) ((hr.still hI hbk hn).drop _) (fun _=>.inr ⟨c,n,h⟩) (fun q hq=>?_) (own_drop _ hn)
   rw [add_lit]
   simp [World.cell?,hh]
  ·rw [beq_no hi]; exact .own i off b c n (by rw [givC_ne hi]; exact h)
 ·intro i sz k off b c n h hk
  simp only [giA]
  by_cases hi : i = j
  ·subst hi; rw [show Nat.beq i i = true by simp]; exact .top _
  ·rw [beq_no hi]; exact .elt i sz k off b c n (by rw [givC_ne hi]; exact h) hk
 ·intro i b c n h
  simp only [giA]
  by_cases hi : i = j
  ·subst hi; rw [show Nat.beq i i = true by simp]; exact .top _
  ·rw [beq_no hi]; exact .row i b c n (by rw [givC_ne hi]; exact h)
 ·intro i n sz b c m h
  simp only [giA]
  by_cases hi : i = j
  ·subst hi; rw [show Nat.beq i i = true by simp]; exact .top _
  ·rw [beq_no hi]; exact .lsl i n sz b c m (by rw [givC_ne hi]; exact h)
 ·intro i h
  simp only [giA]
  by_cases hi : i = j
  ·subst hi; rw [show Nat.beq i i = true by simp]; exact .top _
  ·rw [beq_no hi]; exact .rown i (by rw [givC_ne hi]; exact h)
 ·intro n sz el A cap vs hcap hA hr hl hn _
  exact (Rel.slc n sz el A cap vs hcap hA hr hl hn).still hI hbk rfl
 ·intro l ad vs hr hI' hc hn _
  exact (Rel.xp l ad vs hr hI' hc hn).still hI hbk rfl
 ·exact fun f l m vs ws _ _ h h'=>.fn f _ _ vs ws h h'
 ·intro n sz el ad vs hI' hc hr hl hn _
  exact (Rel.pa n sz el ad vs hI' hc hr hl hn).still hI hbk rfl
 ·exact .nil
 ·exact fun a l v vs _ _ h h'=>.cons _ _ v vs h h'
theorem gi_relL {j : Nat} {t : TypeId} {l : List AV} (hH : HR C hp w) (hb : getB hp j = .cells t l) (hn : ownIn.ownInL l = false) : ∀ {m : List AV} {vs : List Value},RelL C w m vs -> RelL (givC C j) w (giA.giL j l m) vs
 | _,_,.nil=>.nil
 | _,_,.cons _ _ _ _ h h'=>.cons _ _ _ _ (gi_rel hH hb hn h) (gi_relL hH hb hn h')
theorem getB_giH (j : Nat) (m : List AV) : ∀ (l : Heap) (i : Nat),getB (giH j m l) i = giB j m (getB l i)
 | [],_=>rfl
 | _ :: _,0=>rfl
 | _ :: l,i + 1=>getB_giH j m l i
theorem len_giH (j : Nat) (m : List AV) : ∀ l : Heap,(giH j m l).length = l.length
 | []=>rfl
 | _ :: l=>by simp [giH,len_giH j m l]
theorem gi_brel {j : Nat} {t : TypeId} {l : List AV} (hH : HR C hp w) (hb : getB hp j = .cells t l) (hn : ownIn.ownInL l = false) {p : Pl} {b : Blk} (h : BRel C w p b) : BRel (givC C j) w p (giB j l b):=by
 have hm : BRel (givC C j) w p (mapB (at1 j .top) b):=(givC_turn C w j).brel (fun _ _ _ _=>rfl) (fun b x hb=>⟨hb,rfl⟩) h
 match p,b,h with
 | .at q c m,.cells ty l',h =>
   obtain ⟨vs,hr,hh⟩:=h
   exact ⟨vs,gi_relL hH hb hn hr,hh⟩
 | .at q c m,.row e sz k el,_=>exact hm
 | .at q c m,.mat _ _ _ _,_=>exact hm
 | .at q c m,.rows _ _ _ _ _ _ _ _,_=>exact hm
 | .nil,.row e sz k el,_=>exact hm
theorem gi_hr {j : Nat} {t : TypeId} {l : List AV} (hH : HR C hp w) (hb : getB hp j = .cells t l) (hn : ownIn.ownInL l = false) : HR (givC C j) (setB (giH j l hp) j .dead) w :=
 givC_hr hH fun i p hi h=>by
  rw [getB_set_ne hi,getB_giH]
  exact gi_brel hH hb hn (hH.live i p h)
theorem getL_giL (j : Nat) (l : List AV) : ∀ (fr : List AV) (t : Nat),getL (giA.giL j l fr) t = giA j l (getL fr t)
 | [],_=>rfl
 | _ :: _,0=>rfl
 | _ :: fr,t + 1=>getL_giL j l fr t
theorem len_giL (j : Nat) (l : List AV) : ∀ fr : List AV,(giA.giL j l fr).length = fr.length
 | []=>rfl
 | _ :: fr=>by simp [giA.giL,len_giL j l fr]
theorem gi_ng {j : Nat} {l : List AV} {a : AV} (h : ∀ k b,a ≠ .gd k b) : ∀ k b,giA j l a ≠ .gd k b:=by
 intro k b e
 cases a <;> simp only [giA] at e <;> first | (cases e; done) | skip
 all_goals first | (split at e <;> cases e; done) | skip
 exact h _ _ rfl
theorem gi_fr {j : Nat} {t : TypeId} {l : List AV} (hH : HR C hp w) (hb : getB hp j = .cells t l) (hn : ownIn.ownInL l = false) {fr : List AV} {tm : Array Value} (h : FR [] C w fr tm) : FR [] (givC C j) w (giA.giL j l fr) tm :=
 ⟨by rw [len_giL]; exact h.len,fun t=>by
  rw [getL_giL]
  refine ⟨gi_rel hH hb hn (h.get t).1,fun k b e=>?_⟩
  exact absurd e (gi_ng (fun k b e'=>by obtain ⟨x,hx,_⟩:=(h.get t).2 k b e'; simp at hx) k b)⟩
theorem rel_nils (C : Cx) (w : World) (sz : Nat) : Rel C w (.slc (.sym 0) sz (fun _=>[])) (.slice none 0 0) :=
 Rel.slc (.sym 0) sz (fun _=>[]) none 0 (fun _=>[]) (Nat.le_refl _) (fun h=>absurd h (Nat.lt_irrefl _)) (fun k h=>absurd h (Nat.not_lt_zero _)) (fun k h=>absurd h (Nat.not_lt_zero _)) (fun k h=>absurd h (Nat.not_lt_zero _))
theorem brel_nils {e : TypeId} {sz : Nat} {n : LN} {el : Nat -> List AV} {p : Pl} (hel : ∀ k,k < n.val -> el k = [.v (.slice none 0 0)]) (h : BRel C w p (.row e 1 n el)) :
  BRel C w p (.row e 1 n (fun _=>[.slc (.sym 0) sz (fun _=>[])])):=by
 match p,h with
 | .at b c m,h =>
   obtain ⟨h1,h2,h3,cs,vs,hh,hs,hc⟩:=h
   refine ⟨h1,h2,h3,cs,vs,hh,hs,fun k hk=>?_⟩
   obtain ⟨g1,g2,g3,g4⟩:=hc k hk
   rw [hel k (by omega)] at g1
   refine ⟨?_,rfl,g3,g4⟩
   generalize vs k = u at g1
   cases g1 with
   | cons _ _ v vs' g6 g7 =>
     cases g6
     cases g7
     exact .cons _ _ _ _ (rel_nils C w sz) .nil
 | .nil,h=>exact h
theorem rowsK_sat {R : AV -> Heap -> Prop} {lo x c j : Nat} {fr : List AV} {hp : Heap} {C : Cx} {K : List AV -> Heap -> VC} {tm : Array Value} (h : (rowsK lo x c j fr hp K).sat R) (hlo : lo <= hp.length) (hH : HR C hp w) (hF : FR [] C w fr tm) :
  ∃ fr' hp' C',(K fr' hp').sat R /\ lo <= hp'.length /\ HR C' hp' w /\ FR [] C' w fr' tm /\ Tr lo C w C' w:=by
 have clo : ∀ stay,(closeK lo stay j fr hp K).sat R -> ∃ fr' hp' C',(K fr' hp').sat R /\ lo <= hp'.length /\ HR C' hp' w /\ FR [] C' w fr' tm /\ Tr lo C w C' w:=fun stay h=>by
  unfold closeK at h
  split at h
  ·rename_i e e' sz n fz ln el k h' hb
   split at h
   ·rename_i e2 sz2 m f hb2
    split at h
    ·rename_i hd
     rw [Bool.and_eq_true,Bool.and_eq_true,decide_eq_true_eq] at hd
     obtain ⟨⟨⟨rfl,rfl,hne⟩,hl1⟩,_⟩:=hd
     rw [forceLD_eq,forceH_eq] at h
     obtain ⟨C1,ht,h1,h2⟩:=close_ok (stay:=stay) hH hb hb2 hne (Nat.le_of_ble_eq_true hl1)
     exact ⟨_,_,C1,h,by rw [len_setB,len_setB,len_mapH]; exact hlo,h1,ht.frame (by trivial) hF,h2⟩
    ·exact h.elim
   ·exact h.elim
  ·exact h.elim
 unfold rowsK at h
 split at h
 ·-- opened
  unfold openK at h
  split at h
  ·rename_i e e' sz n fz ln el q hb hq
   obtain ⟨h1,h2,h⟩:=h
   rw [forceH_eq,appH_eq] at h
   have h1' : 0 <= q /\ q < (n.val : Int):=h1
   obtain ⟨C1,hx,k1,k2⟩:=open_ok (lo:=lo) (k:=nat q) hH hb (by have hz : nat q = q.toNat:=(by unfold nat; rfl); omega) h2 hlo
   exact ⟨fr,_,C1,h,by simp [len_setB]; omega,k1,hF.mono hx,k2⟩
  ·exact h.elim
 ·exact clo _ h
 ·exact clo _ h
 ·unfold restK at h
  split at h
  ·rename_i e e' sz n fz ln el hb
   split at h
   ·rw [forceH_eq] at h
    obtain ⟨C1,hx,k1,k2⟩:=rest_ok (lo:=lo) hH hb
    exact ⟨fr,_,C1,h,by rw [len_setB]; exact hlo,k1,hF.mono hx,k2⟩
   ·exact h.elim
  ·exact h.elim
 ·unfold frzK at h
  split at h
  ·rename_i e sz n el hb
   split at h
   ·rename_i hj
    have hj:=Nat.le_of_ble_eq_true hj
    rw [forceLD_eq,forceH_eq] at h
    obtain ⟨C1,ht,h1,h2⟩:=freeze hH hb hj
    exact ⟨_,_,C1,h,by rw [len_setB,len_mapH]; exact hlo,h1,ht.frame (by trivial) hF,h2⟩
   ·exact h.elim
  ·exact h.elim
 ·unfold nilsK at h
  split at h
  ·rename_i e n el hb
   obtain ⟨h1,h⟩:=h
   rw [forceH_eq] at h
   exact ⟨fr,_,C,h,by rw [len_setB]; exact hlo,hH.reb (getB_lt (by rw [hb]; simp)) (fun p hp=>by
    have hl:=hH.live j p hp
    rw [hb] at hl
    exact brel_nils h1 hl),hF,.refl _ _ _⟩
  ·exact h.elim
 ·split at h
  ·unfold toRowsK at h
   split at h
   ·rename_i e n el s hb hs
    obtain ⟨h1,h⟩:=h
    rw [forceH_eq] at h
    exact ⟨fr,_,C,h,by rw [len_setB]; exact hlo,hH.reb (getB_lt (by rw [hb]; simp)) (fun p hp=>by
     have hl:=hH.live j p hp
     rw [hb] at hl
     exact brel_toRows h1.1 h1.2 hl),hF,.refl _ _ _⟩
   ·exact h.elim
  ·exact h.elim
theorem relL_setNil {n : Nat} (hn : C.ρ n = some .nil) : ∀ {l : List AV} {vs : List Value} {off : Nat},RelL C w l vs -> isNilS (getL l off) = true -> RelL C w (setL l off (.row n)) vs
 | [],_,_,h,h0=>by simp [getL_nil,isNilS] at h0
 | a :: l,_,off,h,h0=>by
   cases h with
   | cons _ _ v vs ha hl =>
     cases off with
     | zero =>
       rw [getL_zero] at h0
       refine .cons _ _ _ _ ?_ hl
       unfold isNilS at h0
       split at h0
       ·cases ha; exact .rown _ hn
       ·cases h0
     | succ off=>exact .cons _ _ _ _ ha (relL_setNil hn hl h0)
theorem nilCK_sat {R : AV -> Heap -> Prop} {lo t x c : Nat} {fr : List AV} {hp : Heap} {C : Cx} {K : Heap -> VC} {tm : Array Value} (h : (nilCK t x c fr hp K).sat R) (hlo : lo <= hp.length) (hH : HR C hp w) (hF : FR [] C w fr tm) :
  ∃ hp' C',(K hp').sat R /\ lo <= hp'.length /\ HR C' hp' w /\ FR [] C' w fr tm /\ Tr lo C w C' w:=by
 unfold nilCK at h
 split at h
 ·rename_i i o hg hc
  split at h
  ·rename_i ty l hb
   split at h
   ·rename_i hn
    rw [forceL_eq,forceH_eq,appH_eq] at h
    have hnone : C.ρ hp.length = none:=by
     cases hc : C.ρ hp.length with
     | none=>rfl
     | some p=>have:=hH.lt hc; omega
    have h1 : HR (C.put hp.length .nil) (hp ++ [Blk.row x 1 (.lit 0) (fun _=>[])]) w:=by
     refine (hH.ext _).newNil hnone ?_
     rw [show getB (hp ++ [Blk.row x 1 (.lit 0) (fun _=>[])]) hp.length = .row x 1 (.lit 0) (fun _=>[]) by rw [getB_eq]; simp]
     exact ⟨rfl,Nat.succ_pos _⟩
    have g:=Grow.newNil C w hp.length
    have h2 : FR [] (C.put hp.length .nil) w fr tm:=g.frame (fun i a b=>(show i = hp.length by omega) ▸ hnone) hH.ilt hF
    have hil : i < hp.length:=getB_lt (by rw [hb]; simp)
    have hbe : getB (hp ++ [Blk.row x 1 (.lit 0) (fun _=>[])]) i = .cells ty l:=by rw [getB_append _ _ _ hil,hb]
    have h3 : HR (C.put hp.length .nil) (setB (hp ++ [Blk.row x 1 (.lit 0) (fun _=>[])]) i (.cells ty (setL l (o + c / 64) (.row hp.length)))) w:=by
     refine h1.reb (by simp; omega) (fun p hp'=>?_)
     have hl:=h1.live i p hp'
     rw [hbe] at hl
     cases p with
     | «at» b cap n =>
       obtain ⟨vs,hv,hw⟩:=hl
       exact ⟨vs,relL_setNil Cx.put_eq hv hn,hw⟩
     | nil=>exact hl.elim
    have e : setB (hp ++ [Blk.row x 1 (.lit 0) (fun _=>[])]) i (.cells ty (setL l (o + c / 64) (.row hp.length))) = setB hp i (.cells ty (setL l (o + c / 64) (.row hp.length))) ++ [Blk.row x 1 (.lit 0) (fun _=>[])]:=setB_app hil
    rw [e] at h3
    exact ⟨_,_,h,by rw [List.length_append,len_setB]; omega,h3,h2,g.tr hlo⟩
   ·exact h.elim
  ·exact h.elim
 ·exact h.elim
theorem giveK_sat {R : AV -> Heap -> Prop} {lo : Nat} : ∀ {l : List (Nat × TypeId × Nat)} {fr : List AV} {hp : Heap} {C : Cx} {K : List AV -> Heap -> VC} {tm : Array Value},(giveK lo l fr hp K).sat R -> lo <= hp.length -> HR C hp w -> FR [] C w fr tm ->
  ∃ fr' hp' C',(K fr' hp').sat R /\ lo <= hp'.length /\ HR C' hp' w /\ FR [] C' w fr' tm /\ Tr lo C w C' w
 | [],fr,hp,C,K,tm,h,hlo,hH,hF=>⟨fr,hp,C,h,hlo,hH,hF,.refl _ _ _⟩
 | (t,x,c) :: l,fr,hp,C,K,tm,h,hlo,hH,hF=>by
   unfold giveK at h
   split at h
   ·split at h
    ·obtain ⟨fr1,hp1,C1,g1,g2,g3,g4,g5⟩:=rowsK_sat h hlo hH hF
     obtain ⟨fr',hp',C',h4,h5,h6,h7,h8⟩:=giveK_sat (lo:=lo) (C:=C1) g1 g2 g3 g4
     exact ⟨fr',hp',C',h4,h5,h6,h7,g5.trans h8⟩
    ·obtain ⟨hp1,C1,g1,g2,g3,g4,g5⟩:=nilCK_sat h hlo hH hF
     obtain ⟨fr',hp',C',h4,h5,h6,h7,h8⟩:=giveK_sat (lo:=lo) (C:=C1) g1 g2 g3 g4
     exact ⟨fr',hp',C',h4,h5,h6,h7,g5.trans h8⟩
   ·split at h
    ·rename_i j o hg
     split at h
     ·rename_i ty m hb
      split at h
      ·rename_i hn hj
       have hj:=Nat.le_of_ble_eq_true hj
       rw [forceLD_eq,forceH_eq] at h
       obtain ⟨fr',hp',C',h4,h5,h6,h7,h8⟩:=giveK_sat (lo:=lo) (C:=givC C j) h (by rw [len_setB,len_giH]; exact hlo) (gi_hr hH hb hn) (gi_fr hH hb hn hF)
       exact ⟨fr',hp',C',h4,h5,h6,h7,(givC_tr hj).trans h8⟩
      ·exact h.elim
     ·exact h.elim
    ·rename_i j hg
     split at h
     ·rename_i e sz n el hb
      split at h
      ·rename_i hj
       have hj:=Nat.le_of_ble_eq_true hj
       rw [forceLD_eq,forceH_eq] at h
       obtain ⟨C1,ht,h1,h2⟩:=freeze hH hb hj
       obtain ⟨fr',hp',C',h4,h5,h6,h7,h8⟩:=giveK_sat (lo:=lo) (C:=C1) h (by rw [len_setB,len_mapH]; exact hlo) h1 (ht.frame (by trivial) hF)
       exact ⟨fr',hp',C',h4,h5,h6,h7,h2.trans h8⟩
      ·exact h.elim
     ·exact h.elim
    ·rename_i j a q o hg
     split at h
     ·rename_i ty wd f hb
      split at h
      ·rename_i hj
       have hj:=Nat.le_of_ble_eq_true hj
       rw [forceLD_eq,forceH_eq] at h
       obtain ⟨fr',hp',C',h4,h5,h6,h7,h8⟩:=giveK_sat (lo:=lo) (C:=givC C j) h (by rw [len_setB,len_paH]; exact hlo) (pa_hr hH hb) (pa_fr hH hb hF)
       exact ⟨fr',hp',C',h4,h5,h6,h7,(givC_tr hj).trans h8⟩
      ·exact h.elim
     ·exact h.elim
    ·exact h.elim
theorem memN_iff {n : Nat} : ∀ {l : List Nat},memN n l = true ↔ n ∈ l
 | []=>by simp [memN]
 | m :: l=>by
   unfold memN
   split
   ·rename_i h; have:=Nat.eq_of_beq_eq_true h; simp [this]
   ·rename_i h
    have hne : n ≠ m:=fun e=>by subst e; simp at h
    rw [memN_iff]; simp [hne]
theorem allOrd_sat {R : AV -> Heap -> Prop} {k : Nat -> VC} : ∀ {l : List Nat},(allOrd l k).sat R -> ∀ i ∈ l,(k i).sat R
 | [],_,i,hi=>by cases hi
 | j :: l,h,i,hi=>by
   unfold allOrd at h
   obtain ⟨h1,h2⟩:=h
   rcases List.mem_cons.1 hi with rfl | hi
   ·exact h1
   ·exact allOrd_sat (h2 () trivial) i hi
theorem rdyN_spec {D : List Nat} {i : Nat} : rdyN all D i = true ↔ ¬ i ∈ D /\ ∃ o,all[i]? = some o /\ ∀ e ∈ o.after.toList,Region.binds .any e = true -> e.on ∈ D:=by
 unfold rdyN
 cases hm : memN i D with
 | true=>simp [memN_iff.1 hm]
 | false =>
   have hn : ¬ i ∈ D:=fun h=>by rw [memN_iff.2 h] at hm; cases hm
   simp only [hn,not_false_iff,true_and]
   cases ho : all[i]? with
   | none=>simp
   | some o =>
     simp only [Option.some.injEq,exists_eq_left',List.all_eq_true,Bool.or_eq_true,Bool.not_eq_true',memN_iff]
     constructor
     ·intro h e he hb
      rcases h e he with h' | h'
      ·rw [h'] at hb; cases hb
      ·exact h'
     ·intro h e he
      cases hb : Region.binds .any e with
      | false=>exact .inl rfl
      | true=>exact .inr (h e he hb)
theorem rdyL_mem {D : List Nat} {i : Nat} : ∀ {n : Nat},i ∈ rdyL all D n ↔ i < n /\ rdyN all D i = true
 | 0=>by simp [rdyL]
 | n + 1=>by
   unfold rdyL
   split
   ·rename_i h
    rw [List.mem_cons,rdyL_mem]
    constructor
    ·rintro (rfl | ⟨h1,h2⟩)
     ·exact ⟨by omega,h⟩
     ·exact ⟨by omega,h2⟩
    ·rintro ⟨h1,h2⟩
     by_cases e : i = n
     ·exact .inl e
     ·exact .inr ⟨by omega,h2⟩
   ·rename_i h
    rw [rdyL_mem]
    constructor
    ·rintro ⟨h1,h2⟩; exact ⟨by omega,h2⟩
    ·rintro ⟨h1,h2⟩
     refine ⟨?_,h2⟩
     by_cases e : i = n
     ·subst e; rw [h2] at h; cases h
     ·omega
theorem wantN_spec {fr : List AV} {o : Oper} {r : Bool} (h : wantN all (getL fr) o = some r) : Wants all [] fr o r:=by
 unfold wantN at h
 unfold Wants
 split at h
 ·rename_i hg; rw [hg]; injection h with h; exact h.symm
 ·rename_i j ww hg
  rw [hg]
  split at h
  ·rename_i d hd
   split at h
   ·rename_i b hb
    injection h with h
    refine ⟨d,hd,?_⟩
    rw [hb]; simp only [gW]; rw [h]
   ·cases h
  ·cases h
theorem fixN_spec {D : List Nat} {g : Nat -> AV} {i : Nat} {o : Oper} {ps : List Cd} {a : AV} (h : fixN P all D g i = some (o,ps,a)) : rdyN all D i = true /\ all[i]? = some o /\ fixV P all g o = some (ps,a) /\ apN all D i o = true:=by
 unfold fixN at h
 split at h
 ·rename_i o' h1 h2
  split at h
  ·rename_i ps' a' h3
   split at h
   ·rename_i h5
    simp only [Option.some.injEq,Prod.mk.injEq] at h
    obtain ⟨rfl,rfl,rfl⟩:=h
    exact ⟨h1,h2,h3,h5⟩
   ·cases h
  ·cases h
 ·cases h
theorem fixGo_spec {D : List Nat} {g : Nat -> AV} {i : Nat} {o : Oper} {ps : List Cd} {a : AV} : ∀ {n : Nat},fixGo P all D g n = some (i,o,ps,a) -> fixN P all D g i = some (o,ps,a)
 | 0,h=>by cases h
 | n + 1,h=>by
   unfold fixGo at h
   split at h
   ·rename_i o' ps' a' h1
    simp only [Option.some.injEq,Prod.mk.injEq] at h
    obtain ⟨rfl,rfl,rfl,rfl⟩:=h
    exact h1
   ·exact fixGo_spec h
theorem spGo_spec {D : List Nat} {g : Nat -> AV} {d : Nat} {c : Bool} : ∀ {n : Nat},spGo all D g n = some (d,c) -> g d = .sb c
 | 0,h=>by cases h
 | n + 1,h=>by
   unfold spGo at h
   split at h
   ·rename_i x h1
    injection h with h; subst h
    unfold spN at h1
    split at h1
    ·split at h1
     ·split at h1
      ·split at h1
       ·rename_i hg
        injection h1 with h1; injection h1 with e1 e2; subst e1 e2
        exact hg
       ·cases h1
      ·cases h1
     ·cases h1
    ·cases h1
   ·exact spGo_spec h
section
variable {F : Fence} {n : Nat} {Q : Exit -> Act -> World -> Prop} {J : World -> Prop}
theorem wpOpIn_k {i : Nat} {oi : Oper} {a0 : Act} (hi : all.toArray[i]? = some oi) (hw : Region.wanted oi (yielded all.toArray a0.tmps) = false) {K : Act -> World -> Prop} {a : Act} {w : World} (hF : ∀ f,F.fn f) (hE : SameAt all.toArray oi a0 a) (h : K (a.put oi.dst undef) w) :
  wpOpIn F n P all.toArray Q i K a w:=by
 unfold wpOpIn
 simp only [hi]
 rw [hE.wanted,hw]
 simp only [Bool.false_eq_true,if_false]
 exact ⟨fun f _=>hF f,h⟩
theorem s_firstG {I : Act -> World -> Prop} {i : Nat} {oi : Oper} {a0 : Act} {v : Value} (hop : ∀ {K : Act -> World -> Prop} {a : Act} {w : World},SameAt all.toArray oi a0 a -> J w -> K (a.put oi.dst v) w -> wpOpIn F n P all.toArray Q i K a w)
  (hsel : ∀ (j : Nat) (o : Oper) cs b,all.toArray[j]? = some o -> o.op ≠ .select cs b) (hQ : ∀ c a w,¬ Q (.panic c) a w) (hI : ∀ a w,I (a.put oi.dst v) w -> I a w) :
  ∀ (fuel : Nat) (listed : Array Bool) (a : Act) (w : World),
    (∀ j oj,all.toArray[j]? = some oj -> j ≠ i -> listed.getD j true = false -> (∀ e ∈ oj.after,Region.binds .any e = true -> e.on ≠ i) -> oi.apart all.toArray oj = true) ->
    i ∈ Region.ready .any all.toArray listed -> SameAt all.toArray oi a0 a -> I (a.put oi.dst v) w -> J w ->
    wpAnyI (fun a w=>I a w /\ J w) F n P all.toArray Q fuel (listed.setIfInBounds i true) (a.put oi.dst v) w -> wpAnyI I F n P all.toArray Q (fuel + 1) listed a w:=by
 intro fuel
 induction fuel with
 | zero =>
   intro listed a w _ hr hE hIp hJ H
   refine ⟨fun h=>(by rw [h] at hr; cases hr),fun j hj=>?_⟩
   by_cases hji : j = i
   ·subst hji; exact hop hE hJ ⟨hIp,wpAnyI_mono (fun _ _ h=>h.1) _ _ _ _ H⟩
   ·have:=ready_mono hj hji
    rw [H.1] at this
    cases this
 | succ fuel ih =>
   intro listed a w hfree hr hE hIp hJ H
   refine ⟨fun h=>(by rw [h] at hr; cases hr),fun j hj=>?_⟩
   by_cases hji : j = i
   ·subst hji; exact hop hE hJ ⟨hIp,wpAnyI_mono (fun _ _ h=>h.1) _ _ _ _ H⟩
   ·have h1:=H.2 j (ready_mono hj hji)
    obtain ⟨hjun,oj,hoj,hall⟩:=Go.mem_ready.1 hj
    have hnot : ∀ e ∈ oj.after,Region.binds .any e = true -> e.on ≠ i:=fun e he hb heq=>by
     have h1:=hall e he hb
     have h0:=(Go.mem_ready.1 hr).1
     rw [heq] at h1
     rcases Nat.lt_or_ge i listed.size with h' | h'
     ·simp [h'] at h0 h1; rw [h0] at h1; cases h1
     ·simp [Array.getElem?_eq_none h'] at h1
    have h2:=opIn_s (a0:=a0) (v:=v) hoj (hfree j oj hoj hji hjun hnot) (fun cs b=>hsel j oj cs b hoj) hQ hE h1
    have hfree' : ∀ k ok,all.toArray[k]? = some ok -> k ≠ i -> (listed.setIfInBounds j true).getD k true = false ->
      (∀ e ∈ ok.after,Region.binds .any e = true -> e.on ≠ i) -> oi.apart all.toArray ok = true:=fun k ok hk hki hun hno=>by
     refine hfree k ok hk hki ?_ hno
     by_cases hjk : j = k
     ·subst hjk; exact hjun
     ·rw [getD_set_ne true hjk] at hun; exact hun
    refine wpOpIn_mono (fun a' w' h3=>⟨hI _ _ h3.2.1.1,ih (listed.setIfInBounds j true) a' w' hfree' (ready_mono hr (Ne.symm hji)) h3.1 h3.2.1.1 h3.2.1.2 ?_⟩) h2
    rw [Array.setIfInBounds_comm _ _ hji]
    exact h3.2.2
end
theorem any_sat (hS : SumsOK P S) (hsel : ∀ o ∈ all,∀ cs b,o.op ≠ .select cs b) (hback : Back all) {R : AV -> Heap -> Prop} {K : List AV -> Heap -> VC} {Q : Exit -> Act -> World -> Prop} {ds : Act -> Prop} (hput : PutOK all ds) {ro : Option Nat} {rm : Nat} (hQ : ∀ c a w,¬ Q (.panic c) a w) :
  ∀ (f fuel : Nat) (I : Act -> World -> Prop) (D : List Nat) (A : Array Bool) (fr : List AV) (hp : Heap) (C : Cx) (w : World) (act : Act),IP all I -> (∀ k,Lst A k ↔ k ∈ D) -> A.size = all.length -> Closed all (Lst A) -> unl (fun i=>A.getD i false) all.length <= fuel ->
    S.lo <= hp.length -> HR C hp w -> FR [] C w fr act.tmps -> (runAny P S all f D fr hp K).sat R -> ds act -> GoalI I P S R K Q C w ds -> wpAnyI I (fen ro) rm P all.toArray Q fuel A act w:=by
 intro f
 induction f with
 | zero=>intro fuel I D A fr hp C w act _ _ _ _ _ _ _ _ h; exact h.elim
 | succ f ih =>
   intro fuel I D A fr hp C w act hIP hD hsize hclosed hfu hlo hH hF h hds hgoal
   have hrd : ∀ i,i ∈ Region.ready .any all.toArray A -> i ∈ rdyL all D all.length:=fun i hi=>by
    obtain ⟨o,h1,h2,h3,_⟩:=ready_facts hsize hclosed hi
    exact rdyL_mem.2 ⟨(List.getElem?_eq_some_iff.1 h1).1,rdyN_spec.2 ⟨fun hm=>h2 ((hD i).2 hm),o,h1,fun e he hb=>(hD _).1 (h3 e he hb)⟩⟩
   have hdr : ∀ i,rdyN all D i = true -> i ∈ Region.ready .any all.toArray A:=fun i hi=>by
    obtain ⟨h1,o,h2,h3⟩:=rdyN_spec.1 hi
    have hlt:=(List.getElem?_eq_some_iff.1 h2).1
    have hn : ¬ Lst A i:=fun hl=>h1 ((hD i).1 hl)
    refine mem_ready h2 ?_ fun e he hb=>(hD _).2 (h3 e he hb)
    rw [getD_tf (by rw [hsize]; exact hlt)]
    simpa [Lst] using hn
   have hpos : ∀ i,rdyN all D i = true -> ∃ fuel',fuel = fuel' + 1:=fun i hi=>by
    cases fuel with
    | succ k=>exact ⟨k,rfl⟩
    | zero =>
      exfalso
      obtain ⟨h1,o,h2,h3⟩:=rdyN_spec.1 hi
      have hz : unl (fun i=>A.getD i false) all.length = 0:=by omega
      exact h1 ((hD i).1 (unl_zero hz i (List.getElem?_eq_some_iff.1 h2).1))
   unfold runAny at h
   split at h
   ·-- one that yields one value
    rename_i i o ps a hfx
    obtain ⟨hps,h⟩:=needs_sat h
    obtain ⟨hry,ho,hfv,hap⟩:=fixN_spec (fixGo_spec hfx)
    obtain ⟨fuel,rfl⟩:=hpos i hry
    have hir:=hdr i hry
    obtain ⟨o',ho',hnl,hpre,hLst,hclosed',hfu1,hsz⟩:=ready_facts hsize hclosed hir
    rw [ho] at ho'; injection ho' with ho'; subst ho'
    rw [setK_eq] at h
    have hao : all.toArray[i]? = some o:=by simpa using ho
    obtain ⟨v,hv,hop⟩ : ∃ v,RelG [] C w a v /\ ∀ {K : Act -> World -> Prop} {a : Act} {w1 : World},SameAt all.toArray o act a -> Imm C w w1 -> K (a.put o.dst v) w1 -> wpOpIn (fen ro) rm P all.toArray Q i K a w1:=by
     unfold fixV at hfv
     split at hfv
     ·rename_i hwn
      split at hfv
      ·rename_i ps' a' hfr
       simp only [Option.some.injEq,Prod.mk.injEq] at hfv
       obtain ⟨rfl,rfl⟩:=hfv
       have hrho : ∀ x,Rel C w (evM ((tmpsO (opnds o.op)).map fun t=>(t,unGd [] (getL fr t))) x) (act.eval x):=fun x=>evM_ops (T:=[]) (fun t _=>hF.get t) x
       obtain ⟨v,hv,hdf,hsl,hrun⟩:=frVal_ok hH.ilt hrho (fun v=>rfl) hfr hps
       have hwt : Region.wanted o (yielded all.toArray act.tmps) = true:=wanted_eq (wantN_spec hwn) fun d _=>hF.get d
       have hfix : Fix P (Imm C w) all.toArray o act v:=⟨hdf,hsl,hwt,hrun⟩
       exact ⟨v,.plain (rel_noGd hv) (notGd_noGd _),fun hE hJ hk=>wpOpIn_s hao hfix (fun f=>trivial) hE hJ hk⟩
      ·cases hfv
     ·rename_i hwn
      simp only [Option.some.injEq,Prod.mk.injEq] at hfv
      obtain ⟨rfl,rfl⟩:=hfv
      have hwt : Region.wanted o (yielded all.toArray act.tmps) = false:=wanted_eq (wantN_spec hwn) fun d _=>hF.get d
      exact ⟨undef,.plain (.tup _ _ .nil) trivial,fun hE _ hk=>wpOpIn_k hao hwt (fun f=>trivial) hE hk⟩
     ·cases hfv
    have hds':=hput o (List.mem_of_getElem? ho) act v hds
    refine s_firstG (I:=I) (J:=Imm C w) (a0:=act) (v:=v) hop (fun k o' cs b hk=>hsel o' (List.mem_of_getElem? (by simpa using hk)) cs b) hQ (fun a' w' h=>hIP o (List.mem_of_getElem? ho) a' v w' h) fuel A act w
     (fun k ok hk hne hun hno=>?_) hir (fun t _=>rfl) (hgoal.2 _ _ _ (.refl _ _ _) hds') (fun _ _=>rfl) ?_
    ·have hk' : all[k]? = some ok:=by simpa using hk
     have hlt:=(List.getElem?_eq_some_iff.1 hk').1
     have h5:=allLt_spec hap k hlt
     simp only [hk',Bool.or_eq_true,List.any_eq_true,Bool.and_eq_true,memN_iff] at h5
     rcases h5 with ((h5 | h5) | ⟨e,h5,h6,h7⟩) | h5
     ·exact absurd (Nat.eq_of_beq_eq_true h5) hne
     ·have:=(hD k).2 h5
      rw [getD_tf (by rw [hsize]; exact hlt)] at hun
      unfold Lst at this
      rw [hun] at this; cases this
     ·exact absurd (Nat.eq_of_beq_eq_true h7) (hno e (by simpa using h5) h6)
     ·exact h5
    ·refine ih fuel (fun a' w'=>I a' w' /\ Imm C w w') (i :: D) _ (setO fr o.dst a) hp C w _ (fun o' ho' a' v' w' h=>⟨hIP o' ho' a' v' w' h.1,h.2⟩) (fun k=>?_) hsz hclosed' (hfu1 fuel hfu) hlo hH (hF.put hv _) h hds'
      ⟨hgoal.1,fun C2 w2 act2 t h=>⟨hgoal.2 _ _ _ t h,fun b hb=>Imm.tr hH t b hb⟩⟩
     rw [hLst,hD,List.mem_cons]; exact ⟨fun h=>h.symm,fun h=>h.symm⟩
   ·rename_i hnf
    split at h
    ·-- a guard,both ways
     rename_i d c hsp
     have hg:=spGo_spec hsp
     have hd:=(hF.get d).1
     rw [hg] at hd
     have hvt : act.tmps.getD d undef = .bool c:=by generalize act.tmps.getD d undef = u at hd; cases hd; rfl
     have hkn : FR [] C w (setL fr d (.lb c)) act.tmps:=⟨by rw [len_setL]; exact hF.len,fun t=>by
      rw [getL_set]
      split
      ·rename_i e
       rw [e.1,hvt]
       exact .plain (.lb _) trivial
      ·exact hF.get t⟩
     cases c with
     | true =>
       have h1:=h.1 rfl
       rw [setF_eq] at h1
       exact ih fuel I D A _ hp C w act hIP hD hsize hclosed hfu hlo hH hkn h1 hds hgoal
     | false =>
       have h1:=h.2 rfl
       rw [setF_eq] at h1
       exact ih fuel I D A _ hp C w act hIP hD hsize hclosed hfu hlo hH hkn h1 hds hgoal
    ·-- each in its turn
     split at h
     ·rename_i hnil
      rw [cleanF_eq] at h
      have hq : Q .normal act w:=hgoal.1 _ _ C w act h hlo hH hF.clean (.refl _ _ _) hds
      have hno : ∀ i,¬ i ∈ Region.ready .any all.toArray A:=fun i hi=>by
       have:=hrd i hi
       rw [hnil] at this; cases this
      cases fuel with
      | zero=>exact ⟨List.eq_nil_iff_forall_not_mem.2 hno,hq⟩
      | succ fuel=>exact ⟨fun _=>hq,fun i hi=>(hno i hi).elim⟩
     ·rename_i i0 l0 hl0
      have hr0:=(rdyL_mem.1 (show i0 ∈ rdyL all D all.length by rw [hl0]; simp)).2
      obtain ⟨fuel,rfl⟩:=hpos i0 hr0
      refine ⟨fun hr=>?_,fun i hir=>?_⟩
      ·have:=hdr i0 hr0
       rw [hr] at this; cases this
      ·have hh:=allOrd_sat h i (by have:=hrd i hir; rwa [hl0] at this)
       obtain ⟨o,ho,hnl,hpre,hLst,hclosed',hfu1,hsz⟩:=ready_facts hsize hclosed hir
       simp only [ho] at hh
       have hao : all.toArray[i]? = some o:=by simpa using ho
       unfold wpOpIn
       simp only [hao]
       split at hh
       ·rename_i hwn
        have hwt : Region.wanted o (yielded all.toArray act.tmps) = true:=wanted_eq (wantN_spec hwn) fun d _=>hF.get d
        rw [hwt]
        simp only [if_true]
        have hfu':=hfu1 fuel hfu
        have hDk : ∀ k,Lst (A.setIfInBounds i true) k ↔ k ∈ i :: D:=fun k=>by rw [hLst,hD,List.mem_cons]; exact ⟨fun h=>h.symm,fun h=>h.symm⟩
        rcases runOp_sat hS (T:=[]) (ctx:=none) trivial hh with ⟨b,new,h1,h2⟩ | ⟨_,_,htu,ρ,hρ,fr',hp',a,h1,h2⟩
        ·have hst : StepOK P all [] [] o fr hp ⟨none,false,b,new⟩:=⟨.refl _,wantN_spec hwn,fun _=>⟨h1,trivial⟩,fun h=>by cases h⟩
         have hfree:=hH.free new
         rcases run_info hst (.refl _) (act:=act) (hH.ext new) (fun i hi=>getB_append _ _ _ hi) hfree (fun x _=>evG_rel x fun t _=>hF.get t) (fun d _=>hF.get d) with ⟨_,hr⟩ | ⟨hw,_⟩
         ·refine Ran.wpIn (hr.mono fun v w' ⟨C',k1,k2,k3⟩=>?_)
          have hx:=k3.cext hfree.none hH.ilt
          have htr : Tr S.lo C w C' w':=k3.tr hlo
          have hds':=hput o (List.mem_of_getElem? ho) act v hds
          exact ⟨hgoal.2 _ _ _ htr hds',ih fuel I (i :: D) _ _ _ C' w' _ hIP hDk hsz hclosed' hfu' (by simp; omega) k1 ((hF.mono hx).put k2 _) h2 hds' (hgoal.step htr)⟩
         ·rw [hwt] at hw; cases hw
        ·refine Ran.wpIn ((exec_big hS o htu hρ hH hF hlo h1).mono fun v w' ⟨C',k1,k2,k3,k4⟩=>?_)
         have hds':=hput o (List.mem_of_getElem? ho) act v hds
         exact ⟨hgoal.2 _ _ _ k4 hds',ih fuel I (i :: D) _ _ _ C' w' _ hIP hDk hsz hclosed' hfu' (Nat.le_trans hlo h1.len) k1 (k3.put (.plain (rel_noGd k2) (notGd_noGd _)) _) h2 hds' (hgoal.step k4)⟩
       ·exact hh.elim
theorem giveI_sat {R : AV -> Heap -> Prop} {lo id : Nat} {I : List (Nat × List (Nat × TypeId × Nat) × (List AV -> Heap -> Ann))} {fr : List AV} {hp : Heap} {C : Cx} {K : List AV -> Heap -> VC} {tm : Array Value} (h : (giveI I lo id fr hp K).sat R) (hlo : lo <= hp.length) (hH : HR C hp w) (hF : FR [] C w fr tm) :
  ∃ fr' hp' C',(K fr' hp').sat R /\ lo <= hp'.length /\ HR C' hp' w /\ FR [] C' w fr' tm /\ Tr lo C w C' w:=by
 unfold giveI at h
 split at h
 ·exact ⟨fr,hp,C,h,hlo,hH,hF,.refl _ _ _⟩
 ·exact giveK_sat h hlo hH hF
theorem region_each (hS : SumsOK P S) {ro : Option Nat} {rm : Nat} (hm : P.follows .mixedOrders = true) {id : Nat} {ops : Array Oper} (hsel : (ops.toList.all fun o=>!(isSelO o.op)) = true) (hback : Back ops.toList) {R : AV -> Heap -> Prop} {K : List AV -> Heap -> VC} {Q : Exit -> Act -> World -> Prop} {fr : List AV} {act : Act}
  (hlo : S.lo <= hp.length) (hH : HR C hp w) (hF : FR [] C w fr act.tmps) (h : (runAny P S ops.toList (2 * ops.toList.length + 1) [] fr hp K).sat R) {ds : Act -> Prop} (hput : PutOK ops.toList ds) (hds : ds act) (hgoal : Goal P S R K Q C w ds) : (Code.region id ops true).wpIn (fen ro) rm P Q act w:=by
 refine Go.wpIn_mono (Q:=fun e a w=>(∀ c,e ≠ .panic c) /\ Q e a w) ?_ fun e a w h=>h.2
 apply wpIn_region_any hm
 have hsz : (Array.replicate ops.size false).size = ops.toList.length:=by simp
 have hno : ∀ i,¬ Lst (Array.replicate ops.size false) i:=fun i h=>by
  unfold Lst at h
  rw [Array.getD_eq_getD_getElem?,Array.getElem?_replicate] at h
  split at h <;> simp at h
 have hH1 : HR C hp { w with drawn:=w.drawn + 1 }:=HR.same (w:=w) rfl hH
 have hF1 : FR [] C { w with drawn:=w.drawn + 1 } fr act.tmps:=FR.mono (w:=w) (w':={ w with drawn:=w.drawn + 1 }) (.same rfl) hF
 have hunl : ∀ n,unl (fun i=>(Array.replicate ops.size false).getD i false) n <= n:=fun n=>by
  induction n with
  | zero=>exact Nat.le_refl _
  | succ n ih=>simp only [unl]; split <;> omega
 have hsel' : ∀ o ∈ ops.toList,∀ cs b,o.op ≠ .select cs b:=fun o ho cs b hc=>by
  have:=List.all_eq_true.1 hsel o ho
  rw [hc] at this; simp [isSelO] at this
 have:=wpAnyI_any _ _ _ _ <| any_sat (Q:=fun e a w=>(∀ c,e ≠ .panic c) /\ Q e a w) hS hsel' hback hput (ro:=ro) (rm:=rm) (fun c a w h=>h.1 c rfl) _ ops.size (fun _ _=>True) [] (Array.replicate ops.size false) fr hp C { w with drawn:=w.drawn + 1 } act (fun _ _ _ _ _ _=>trivial)
  (fun k=>⟨fun h=>(hno k h).elim,fun h=>by cases h⟩) hsz (fun i o _ hl=>(hno i hl).elim) (by have:=hunl ops.toList.length; simpa using this) hlo hH1 hF1 h hds (Goal.any fun fr' hp' C' w' act' h1 h2 h3 h4 h5 h6=>⟨fun c h=>by (cases h),(hgoal.step (.draw _ _ _ _)) fr' hp' C' w' act' h1 h2 h3 h4 h5 h6⟩)
 simpa using this
end
end Abs
end Go.Proofs.YtlacopdaibhkkaaGreat

namespace Go.Proofs.YtlacopdaibhkkaaGreat
namespace Abs
open Go Go.RowKit
def exitOf : AE -> Exit
 | .normal=>.normal
 | .exit id=>.exit id
 | .ret=>.ret
section
variable {P : Program} {S : Sums} {C C' : Cx} {w w' : World} {H hp : Heap}
def GoalE (S : Sums) (R : AV -> Heap -> Prop) (Qv : AE -> List AV -> Heap -> VC) (Q : Exit -> Act -> World -> Prop) (C : Cx) (w : World) (act : Act) (W : Nat) : Prop :=
 ∀ (e : AE) (fr' : List AV) (hp' : Heap) (C' : Cx) (w' : World) (act' : Act),(Qv e fr' hp').sat R -> S.lo <= hp'.length -> HR C' hp' w' -> FR [] C' w' fr' act'.tmps -> Tr S.lo C w C' w' -> Kept W act w act' w' -> Q (exitOf e) act' w'
theorem GoalE.step {R : AV -> Heap -> Prop} {Qv : AE -> List AV -> Heap -> VC} {Q : Exit -> Act -> World -> Prop} {act act' : Act} {W : Nat} (g : GoalE S R Qv Q C w act W) (t : Tr S.lo C w C' w') (k : Kept W act w act' w') (hH : HR C' hp w') : GoalE S R Qv Q C' w' act' W :=
 fun e fr' hp' C'' w'' act'' h1 h2 h3 h4 h5 h6=>g e fr' hp' C'' w'' act'' h1 h2 h3 h4 (t.trans h5) (k.trans h6 t.size fun _ _ hi ho=>h5.others hH hi ho)
theorem GoalE.sub {R : AV -> Heap -> Prop} {Qv : AE -> List AV -> Heap -> VC} {Q : Exit -> Act -> World -> Prop} {act : Act} {W W' : Nat} (g : GoalE S R Qv Q C w act W) (h : ∀ t,Nat.testBit W t = false -> Nat.testBit W' t = false) : GoalE S R Qv Q C w act W' :=
 fun e fr' hp' C' w' act' h1 h2 h3 h4 h5 h6=>g e fr' hp' C' w' act' h1 h2 h3 h4 h5 (h6.sub h)
theorem FR.known {fr : List AV} {tm : Array Value} (h : FR [] C w fr tm) {d : Nat} {a : AV} (ha : RelG [] C w a (tm.getD d undef)) : FR [] C w (setL fr d a) tm :=
 ⟨by rw [len_setL]; exact h.len,fun t=>by
  rw [getL_set]
  split
  ·rename_i hc; rw [hc.1]; exact ha
  ·exact h.get t⟩
def Snd (P : Program) (S : Sums) (U : Nat) (I : Anns) (c : Code) : Prop :=
 ∀ (ro : Option Nat) (rm : Nat) (R : AV -> Heap -> Prop) (fr : List AV) (hp : Heap) (Qv : AE -> List AV -> Heap -> VC) (C : Cx) (w : World) (act : Act) (Q : Exit -> Act -> World -> Prop),S.lo <= hp.length -> HR C hp w -> FR [] C w fr act.tmps -> RO ro w ->
   (wpA P S U I c fr hp Qv).sat R -> GoalE S R Qv Q C w act (mskC c) -> c.wpIn (fen ro) rm P Q act w
theorem snd_iter {ro : Option Nat} {rm : Nat} {U : Nat} {I : Anns} {c : Code} (hc : Snd P S U I c) {R : AV -> Heap -> Prop} {fr : List AV} {Qv : AE -> List AV -> Heap -> VC} {act : Act} {Q : Exit -> Act -> World -> Prop} (n : Nat)
  (hlo : S.lo <= hp.length) (hH : HR C hp w) (hF : FR [] C w fr act.tmps) (hro : RO ro w) (h : (iterL (wpA P S U I c) n fr hp Qv).sat R) (hgoal : GoalE S R Qv Q C w act (mskC c)) : (Code.loop c).wpIn (fen ro) rm P Q act w:=by
 refine wpIn_loop_ghost (fun k a w1=>∃ fr hp C1,S.lo <= hp.length /\ HR C1 hp w1 /\ FR [] C1 w1 fr a.tmps /\ RO ro w1 /\ (iterL (wpA P S U I c) k fr hp Qv).sat R /\ Tr S.lo C w C1 w1 /\ Kept (mskC c) act w a w1) n
  ⟨fr,hp,C,hlo,hH,hF,hro,h,.refl _ _ _,.refl _ _ _ _⟩ ?_
 rintro k a w1 ⟨fr,hp,C1,hlo,hH,hF,hro,h,ht,hk⟩
 cases k with
 | zero=>exact h.elim
 | succ k =>
   refine hc ro rm R fr hp _ C1 w1 a _ hlo hH hF hro h ?_
   intro e fr' hp' C' w' act' h1 h2 h3 h4 h5 h6
   have hk':=hk.trans h6 ht.size fun _ _ hi ho=>h5.others hH hi ho
   cases e with
   | normal=>exact ⟨k,by omega,fr',hp',C',h2,h3,h4,hro.tr h5 hH,h1,ht.trans h5,hk'⟩
   | exit id=>exact hgoal (.exit id) fr' hp' C' w' act' h1 h2 h3 h4 (ht.trans h5) hk'
   | ret=>exact hgoal .ret fr' hp' C' w' act' h1 h2 h3 h4 (ht.trans h5) hk'
theorem leLW_sat {R : AV -> Heap -> Prop} {lo : Nat} {src : Heap} {f : AV -> AV -> VC -> VC} (hf : ∀ a b k k',(k.sat R -> k'.sat R) -> (f a b k).sat R -> (leA lo src hp a b k').sat R) :
  ∀ (m l : List AV) (k k' : VC),(k.sat R -> k'.sat R) -> (leLW f l m k).sat R -> (leL lo src hp l m k').sat R
 | [],[],k,k',hk,h=>by unfold leL; exact hk h
 | [],_ :: _,k,k',hk,h=>h.elim
 | b :: m,[],k,k',hk,h=>h.elim
 | b :: m,a :: l,k,k',hk,h=>by
   unfold leL
   exact hf a b _ _ (leLW_sat hf m l k k' hk) h
theorem leAF_sat {R : AV -> Heap -> Prop} {lo : Nat} {src : Heap} : ∀ (d : Nat) (a b : AV) (k k' : VC),(k.sat R -> k'.sat R) -> (leAF d lo src hp a b k).sat R -> (leA lo src hp a b k').sat R:=by
 intro d
 induction d with
 | zero=>intro a b k k' _ h; exact h.elim
 | succ d ih =>
   intro a b k k' hk h
   have hl:=leLW_sat (hp:=hp) (R:=R) (lo:=lo) (src:=src) ih
   unfold leAF at h
   cases b <;> simp only at h <;> unfold leA
   all_goals repeat' (first | exact h.elim | exact hk h | exact ⟨h.1,hk h.2⟩ | exact ⟨h.1,h.2.1,hk h.2.2⟩ | exact hl _ _ _ _ hk h | exact hl _ _ _ _ (fun h=>hl _ _ _ _ hk h) h | (split at h <;> first | exact h.elim | (rename_i e; rw [e]) | skip))
theorem leBF_sat {R : AV -> Heap -> Prop} {lo n : Nat} {src : Heap} {a b : Blk} {k k' : VC} (hk : k.sat R -> k'.sat R) (h : (leBF lo n src hp a b k).sat R) : (leB lo n src hp a b k').sat R:=by
 unfold leBF at h
 unfold leB
 cases b <;> simp only at h ⊢
 ·cases hb : Nat.ble lo n <;> rw [hb] at h
  ·cases a <;> first | exact hk h | exact h.elim
  ·exact hk h
 ·split at h
  ·split at h
   ·exact leLW_sat (leAF_sat 6) _ _ _ _ hk h
   ·exact h.elim
  ·exact h.elim
 ·split at h
  ·split at h
   ·exact ⟨h.1,h.2.1,hk h.2.2⟩
   ·exact h.elim
  ·exact h.elim
 ·split at h
  ·split at h
   ·exact ⟨h.1,h.2.1,hk h.2.2⟩
   ·exact h.elim
  ·exact h.elim
 ·split at h
  ·split at h
   ·exact ⟨h.1,h.2.1,hk h.2.2⟩
   ·split at h
    ·exact ⟨h.1,h.2.1,h.2.2.1,hk h.2.2.2⟩
    ·split at h
     ·exact ⟨h.1,h.2.1,h.2.2.1,hk h.2.2.2⟩
     ·exact h.elim
    ·exact h.elim
   ·exact h.elim
  ·exact h.elim
theorem leHF_sat {R : AV -> Heap -> Prop} {lo : Nat} {src : Heap} : ∀ (n : Nat) (l m : Heap) (k k' : VC),(k.sat R -> k'.sat R) -> (leHF lo src hp n l m k).sat R -> (leH lo src hp n l m k').sat R
 | n,[],[],k,k',hk,h=>by unfold leHF at h; unfold leH; exact hk h
 | n,_ :: _,[],k,k',hk,h=>by
   unfold leHF at h; unfold leH
   cases hb : Nat.ble lo n <;> rw [hb] at h
   ·exact h.elim
   ·exact hk h
 | n,a :: l,b :: m,k,k',hk,h=>by
   unfold leHF at h; unfold leH
   exact leBF_sat (leHF_sat (n + 1) l m k k' hk) h
 | n,[],_ :: _,k,k',hk,h=>by unfold leHF at h; exact h.elim
theorem leSF_sat {R : AV -> Heap -> Prop} {lo : Nat} {fr : List AV} {s : AS} (h : (leSF lo fr hp s).sat R) : (leS lo fr hp s).sat R :=
 leLW_sat (leAF_sat 6) _ _ _ _ (leHF_sat 0 _ _ _ _ id) h
theorem swN_swN (i j k : Nat) : swN i j (swN i j k) = k:=by
 unfold swN
 have e : ∀ a b : Nat,Nat.beq a b = decide (a = b):=fun a b=>by
  cases h : Nat.beq a b with
  | true=>simp [Nat.eq_of_beq_eq_true h]
  | false =>
    have : a ≠ b:=fun e=>by subst e; simp at h
    simp [this]
 simp only [e]
 by_cases h1 : k = i
 ·subst h1
  simp only [decide_true]
  by_cases h2 : j = k
  ·subst h2; simp
  ·simp [h2]
 ·by_cases h2 : k = j
  ·subst h2; simp [h1]
  ·simp [h1,h2]
def Cx.sw (C : Cx) (i j : Nat) : Cx:=⟨fun k=>C.ρ (swN i j k),C.I,C.O⟩
theorem sw_rel {i j : Nat} {a : AV} {v : Value} (h : Rel C w a v) : Rel (C.sw i j) w (swA i j a) v:=by
 have hs : ∀ k,(C.sw i j).ρ (swN i j k) = C.ρ k:=fun k=>by show C.ρ (swN i j (swN i j k)) = _; rw [swN_swN]
 refine Rel.rec (C:=C) (w:=w) (motive_1:=fun a v _=>Rel (C.sw i j) w (swA i j a) v) (motive_2:=fun l vs _=>RelL (C.sw i j) w (swA.swL i j l) vs)
  ?_ ?_ ?_ ?_ ?_ ?_ ?_ ?_ ?_ ?_ ?_ ?_ ?_ ?_ ?_ ?_ ?_ ?_ ?_ ?_ h
 ·exact fun v=>.top v
 ·exact fun k a v=>.gd k _ v
 ·exact fun k n=>.li k n
 ·exact fun k n=>.si k n
 ·exact fun b=>.lb b
 ·exact fun b=>.sb b
 ·exact fun x=>.v x
 ·exact fun l vs _ h=>.agg _ vs h
 ·exact fun l vs _ h=>.tup _ vs h
 ·exact fun k off b c n h=>.own _ off b c n (by rw [hs]; exact h)
 ·exact fun k sz q off b c n h hk=>.elt _ sz q off b c n (by rw [hs]; exact h) hk
 ·exact fun k b c n h=>.row _ b c n (by rw [hs]; exact h)
 ·exact fun k n sz b c m h=>.lsl _ n sz b c m (by rw [hs]; exact h)
 ·exact fun k h=>.rown _ (by rw [hs]; exact h)
 ·exact fun n sz el A cap vs hcap hA hr hl hn _=>Rel.still (C:=C) (C':=C.sw i j) (w':=w) (fun _ h=>h) (fun _ _=>rfl) (.slc n sz el A cap vs hcap hA hr hl hn) rfl
 ·exact fun l ad vs hr hI hc hn _=>Rel.still (C:=C) (C':=C.sw i j) (w':=w) (fun _ h=>h) (fun _ _=>rfl) (.xp l ad vs hr hI hc hn) rfl
 ·exact fun f l m vs ws _ _ h h'=>.fn f _ _ vs ws h h'
 ·exact fun n sz el ad vs hI hc hr hl hn _=>Rel.still (C:=C) (C':=C.sw i j) (w':=w) (fun _ h=>h) (fun _ _=>rfl) (.pa n sz el ad vs hI hc hr hl hn) rfl
 ·exact .nil
 ·exact fun a l v vs _ _ h h'=>.cons _ _ v vs h h'
theorem sw_relL {i j : Nat} : ∀ {l : List AV} {vs : List Value},RelL C w l vs -> RelL (C.sw i j) w (swA.swL i j l) vs
 | _,_,.nil=>.nil
 | _,_,.cons _ _ _ _ h h'=>.cons _ _ _ _ (sw_rel h) (sw_relL h')
theorem getB_swM (i j : Nat) : ∀ (l : Heap) (k : Nat),getB (swM i j l) k = swB i j (getB l k)
 | [],_=>rfl
 | _ :: _,0=>rfl
 | _ :: l,k + 1=>getB_swM i j l k
theorem len_swM (i j : Nat) : ∀ l : Heap,(swM i j l).length = l.length
 | []=>rfl
 | _ :: l=>by simp [swM,len_swM i j l]
theorem getB_swH {i j : Nat} (hi : i < hp.length) (hj : j < hp.length) (k : Nat) : getB (swH i j hp) k = swB i j (getB hp (swN i j k)):=by
 unfold swH
 rw [getB_set,len_setB,len_swM]
 by_cases h1 : k = j
 ·subst h1
  rw [if_pos ⟨rfl,hj⟩]
  by_cases h2 : k = i
  ·subst h2; unfold swN; rw [show Nat.beq k k = true by simp]
  ·unfold swN; rw [show Nat.beq k i = false from nb_false h2,show Nat.beq k k = true by simp]
 ·rw [if_neg (fun e=>h1 e.1),getB_set,len_swM]
  by_cases h2 : k = i
  ·subst h2
   rw [if_pos ⟨rfl,hi⟩]
   unfold swN; rw [show Nat.beq k k = true by simp]
  ·rw [if_neg (fun e=>h2 e.1),getB_swM]
   unfold swN; rw [show Nat.beq k i = false from nb_false h2,show Nat.beq k j = false from nb_false h1]
theorem sw_brel {i j : Nat} {p : Pl} {b : Blk} (h : BRel C w p b) : BRel (C.sw i j) w p (swB i j b):=by
 match p,b,h with
 | .at q c m,.cells ty l,h =>
   obtain ⟨vs,hr,hh⟩:=h
   exact ⟨vs,sw_relL hr,hh⟩
 | .at q c m,.row e sz k el,h =>
   obtain ⟨h1,h2,h3,cs,vs,hh,hs,hc⟩:=h
   exact ⟨h1,h2,h3,cs,vs,hh,hs,fun k hk=>⟨RelL.still (C:=C) (w:=w) (C':=C.sw i j) (w':=w) (fun _ h=>h) (fun _ _=>rfl) (hc k hk).1 (own_ok (hc k hk).2.1),(hc k hk).2⟩⟩
 | .nil,.row e sz k el,h=>exact h
 | .at q c m,.mat t wd k f,h =>
   obtain ⟨h1,h2,h3,cs,hh,hs,hc⟩:=h
   exact ⟨h1,h2,h3,cs,hh,hs,fun k hk j' hj=>by
    obtain ⟨ho,v,hv,hr⟩:=hc k hk j' hj
    exact ⟨ho,v,hv,Rel.still (C:=C) (C':=C.sw i j) (w:=w) (w':=w) (fun _ h=>h) (fun _ _=>rfl) hr (own_okC ho)⟩⟩
 | .at q c m,.rows e e' sz k fz ln el ho,h =>
   have hsub : SubKeep C w (C.sw i j) w:=fun b x hb=>⟨hb,rfl⟩
   have core : ∀ ho2 : Option (Nat × Option Nat),(∀ k,holeB ho2 k ↔ holeB ho k) -> (∀ k g,ho2 = some (k,some g) -> ∃ g',ho = some (k,some g') /\ g = swN i j g') -> BRel (C.sw i j) w (.at q c m) (.rows e e' sz k fz ln el ho2):=by
    intro ho2 hh1 hh2
    obtain ⟨h1,h2,h3,cs,hh,hs,hc⟩:=h
    refine ⟨h1,h2,h3,cs,hh,hs,fun k hk=>?_⟩
    obtain ⟨v,hv,hr,hn⟩:=hc k hk
    refine ⟨v,hv,fun g hg=>?_,fun hno=>?_⟩
    ·obtain ⟨g',e1,rfl⟩:=hh2 k g hg
     exact sw_rel (hr g' e1)
    ·rw [hh1] at hno
     refine ⟨fun hf=>Rel.still (C:=C) (C':=C.sw i j) (w:=w) (w':=w) (fun _ h=>h) (fun _ _=>rfl) ((hn hno).1 hf) rfl,fun hf=>SubOwn.mono hsub (hx:=?_) ((hn hno).2 hf)⟩
     exact fun ok h=>RelL.still (C:=C) (C':=C.sw i j) (w:=w) (w':=w) (fun _ h=>h) (fun _ _=>rfl) h (own_ok ok)
   match ho with
   | none=>exact core none (fun _=>Iff.rfl) (fun k g hg=>by cases hg)
   | some (k,none)=>exact core _ (fun _=>Iff.rfl) (fun k g hg=>by injection hg with hg; injection hg with _ hg; cases hg)
   | some (k,some g) =>
     refine core _ (fun k'=>?_) (fun k' g' hg=>?_)
     ·unfold holeB
      constructor <;> rintro ⟨x,hx⟩ <;> injection hx with hx <;> injection hx with h1 h2 <;> exact ⟨_,by rw [h1]⟩
     ·injection hg with hg; injection hg with h1 h2; injection h2 with h2
      exact ⟨g,by rw [h1],h2.symm⟩
theorem sw_hr {i j : Nat} (hH : HR C hp w) (hi : i < hp.length) (hj : j < hp.length) : HR (C.sw i j) (swH i j hp) w:=by
 refine ⟨fun k p hp'=>?_,fun k k' b c n b' c' n' h h' hne=>hH.inj _ _ _ _ _ _ _ _ h h' fun e=>hne ?_,fun k b c n h=>hH.fresh _ _ _ _ h,hH.ilt,fun b x hb=>⟨(hH.sub b x hb).1,(hH.sub b x hb).2.1,fun k b' c n h=>(hH.sub b x hb).2.2.1 _ _ _ _ h,(hH.sub b x hb).2.2.2⟩⟩
 ·rw [getB_swH hi hj]
  exact sw_brel (hH.live _ p hp')
 ·have:=congrArg (swN i j) e
  rwa [swN_swN,swN_swN] at this
theorem swN_lo {i j lo k : Nat} (hi : lo <= i) (hj : lo <= j) : (k < lo -> swN i j k = k) /\ (lo <= k -> lo <= swN i j k):=by
 unfold swN
 constructor
 ·intro h
  rw [show Nat.beq k i = false from nb_false (by omega),show Nat.beq k j = false from nb_false (by omega)]
 ·intro h
  split
  ·exact hj
  ·split
   ·exact hi
   ·exact h
theorem sw_tr {i j lo : Nat} (hi : lo <= i) (hj : lo <= j) : Tr lo C w (C.sw i j) w :=
 ⟨rfl,rfl,rfl,Nat.le_refl _,fun _ _ _ _=>rfl,fun _ h=>h,fun _ h=>.inl h,fun k hk=>by show C.ρ (swN i j k) = _; rw [(swN_lo hi hj).1 hk],fun k b c n hk h=>.inl ⟨swN i j k,c,n,(swN_lo hi hj).2 hk,h⟩,fun b x hb=>.inl ⟨x,hb⟩⟩
theorem getL_swL (i j : Nat) : ∀ (l : List AV) (t : Nat),getL (swA.swL i j l) t = swA i j (getL l t)
 | [],_=>rfl
 | _ :: _,0=>rfl
 | _ :: l,t + 1=>getL_swL i j l t
theorem len_swL (i j : Nat) : ∀ l : List AV,(swA.swL i j l).length = l.length
 | []=>rfl
 | _ :: l=>by simp [swA.swL,len_swL i j l]
theorem sw_fr {i j : Nat} {fr : List AV} {tm : Array Value} (h : FR [] C w fr tm) : FR [] (C.sw i j) w (swA.swL i j fr) tm:=by
 refine ⟨by rw [len_swL]; exact h.len,fun t=>?_⟩
 rw [getL_swL]
 have h1:=h.get t
 refine .plain (sw_rel h1.1) ?_
 cases hx : getL fr t <;> simp [swA,notGd]
 obtain ⟨x,h2,_⟩:=h1.2 _ _ hx
 simp at h2
theorem misO_spec {lo n : Nat} : ∀ {m l : List AV} {i j : Nat},misO lo n m l = some (i,j) -> lo <= i /\ lo <= j /\ i < n /\ j < n
 | [],_,_,_,h=>by simp [misO] at h
 | b :: m,l,i,j,h=>by
   unfold misO at h
   split at h
   ·cases h
   ·split at h
    ·split at h
     ·split at h
      ·exact misO_spec h
      ·split at h
       ·rename_i hc
        injection h with h; injection h with h1 h2; subst h1 h2
        simp only [Bool.and_eq_true] at hc
        obtain ⟨⟨⟨h1,h2⟩,h3⟩,h4⟩:=hc
        exact ⟨Nat.le_of_ble_eq_true h1,Nat.le_of_ble_eq_true h2,by simpa [Nat.blt_eq] using h3,by simpa [Nat.blt_eq] using h4⟩
       ·cases h
     ·exact misO_spec h
    ·exact misO_spec h
def LeOK (lo : Nat) (fr : List AV) (hp : Heap) (s : AS) : Prop:=∀ (C : Cx) (w : World),HR C hp w -> lo <= hp.length -> ∃ C2,HR C2 s.hp w /\ (∀ tm,FR [] C w fr tm -> FR [] C2 w s.fr tm) /\ lo <= s.hp.length /\ Tr lo C w C2 w
theorem swK_sat {R : AV -> Heap -> Prop} {lo : Nat} {fr : List AV} {s : AS} (h : (swK lo s.fr fr hp fun fr hp=>leSF lo fr hp s).sat R) : LeOK lo fr hp s:=by
 intro C w hH hlo
 unfold swK at h
 split at h
 ·exact ⟨_,leS_sat (leSF_sat h) hH hlo⟩
 ·rename_i i j hm
  obtain ⟨h1,h2,h3,h4⟩:=misO_spec hm
  rw [forceLD_eq,forceH_eq] at h
  have hlen : (swH i j hp).length = hp.length:=by unfold swH; rw [len_setB,len_setB,len_swM]
  obtain ⟨g1,g2,g3,g4⟩:=leS_sat (leSF_sat h) (sw_hr (w:=w) hH h3 h4) (by rw [hlen]; exact hlo)
  exact ⟨_,g1,fun tm hF=>g2 tm (sw_fr hF),g3,(sw_tr h1 h2).trans g4⟩
theorem exK_sat {lo : Nat} {A : Ann} {m : Option Nat} {fr : List AV} {R : AV -> Heap -> Prop} (h : (exK lo A m fr hp).sat R) : ∃ g,A.pre g /\ (∀ n,m = some n -> A.mu g < n) /\ LeOK lo fr hp (A.st g):=by
 obtain ⟨g,h1,h2,h3⟩:=h
 simp only [forceL_eq,forceH_eq] at h3
 exact ⟨g,h1,fun n e=>by subst e; exact h2,swK_sat (s:=A.st g) h3⟩
theorem nilK_sat {R : AV -> Heap -> Prop} {lo : Nat} : ∀ {l : List (Nat × TypeId × Nat)} {fr : List AV} {hp : Heap} {C : Cx} {K : List AV -> Heap -> VC} {tm : Array Value},(nilK l fr hp K).sat R -> lo <= hp.length -> HR C hp w -> FR [] C w fr tm ->
  ∃ fr' hp' C',(K fr' hp').sat R /\ lo <= hp'.length /\ HR C' hp' w /\ FR [] C' w fr' tm /\ Tr lo C w C' w
 | [],fr,hp,C,K,tm,h,hlo,hH,hF=>⟨fr,hp,C,h,hlo,hH,hF,.refl _ _ _⟩
 | (t,e,sz) :: l,fr,hp,C,K,tm,h,hlo,hH,hF=>by
   unfold nilK at h
   split at h
   ·rename_i s hn
    rw [setF_eq,forceH_eq,appH_eq] at h
    have hnone : C.ρ hp.length = none:=by
     cases hc : C.ρ hp.length with
     | none=>rfl
     | some p=>have:=hH.lt hc; omega
    have h1 : HR (C.put hp.length .nil) (hp ++ [Blk.row e (s + 1) (.lit 0) (fun _=>[])]) w:=by
     refine (hH.ext _).newNil hnone ?_
     rw [show getB (hp ++ [Blk.row e (s + 1) (.lit 0) (fun _=>[])]) hp.length = .row e (s + 1) (.lit 0) (fun _=>[]) by rw [getB_eq]; simp]
     exact ⟨rfl,Nat.succ_pos _⟩
    have g:=Grow.newNil C w hp.length
    have h2 : FR [] (C.put hp.length .nil) w fr tm:=g.frame (fun i a b=>(show i = hp.length by omega) ▸ hnone) hH.ilt hF
    have h3 : FR [] (C.put hp.length .nil) w (setL fr t (.row hp.length)) tm:=h2.known (.plain (by
     have:=(hF.get t).1
     generalize getL fr t = a at this hn
     generalize tm.getD t undef = v at this
     unfold isNilS at hn
     split at hn
     ·cases this; exact .rown _ Cx.put_eq
     ·cases hn) trivial)
    obtain ⟨fr',hp',C',h4,h5,h6,h7,h8⟩:=nilK_sat (lo:=lo) (C:=C.put hp.length .nil) h (by simp; omega) h1 h3
    exact ⟨fr',hp',C',h4,h5,h6,h7,(g.tr hlo).trans h8⟩
   ·exact nilK_sat h hlo hH hF
theorem snd_ann {ro : Option Nat} {rm : Nat} {U : Nat} {I : Anns} {c : Code} (hc : Snd P S U I c) {A : Ann} {R : AV -> Heap -> Prop} {fr : List AV} {Qv : AE -> List AV -> Heap -> VC} {act : Act} {Q : Exit -> Act -> World -> Prop}
  (hlo : S.lo <= hp.length) (hH : HR C hp w) (hF : FR [] C w fr act.tmps) (hro : RO ro w)
  (h1 : ∃ g,A.pre g /\ LeOK S.lo fr hp (A.st g))
  (h2 : ∀ g,A.pre g -> (wpA P S U I c (A.st g).fr (A.st g).hp fun e fr' hp'=>match e with
      | .normal=>exK S.lo A (some (A.mu g)) fr' hp'
      | e=>Qv e fr' hp').sat R) (hgoal : GoalE S R Qv Q C w act (mskC c)) : (Code.loop c).wpIn (fen ro) rm P Q act w:=by
 obtain ⟨g,hg,hle⟩:=h1
 obtain ⟨C2,h3,h4,h5,h6⟩:=hle C w hH hlo
 refine wpIn_loop_ghost (fun k a w1=>∃ g C1,A.pre g /\ A.mu g = k /\ S.lo <= (A.st g).hp.length /\ HR C1 (A.st g).hp w1 /\ FR [] C1 w1 (A.st g).fr a.tmps /\ RO ro w1 /\ Tr S.lo C w C1 w1 /\ Kept (mskC c) act w a w1) (A.mu g)
  ⟨g,_,hg,rfl,h5,h3,h4 _ hF,hro,h6,.refl _ _ _ _⟩ ?_
 rintro k a w1 ⟨g,C1,hg,rfl,hlo,hH,hF,hro,ht,hk⟩
 refine hc ro rm R _ _ _ C1 w1 a _ hlo hH hF hro (h2 g hg) ?_
 intro e fr' hp' C' w' act' h1 h2 h3 h4 h5 h6
 have hk':=hk.trans h6 ht.size fun _ _ hi ho=>h5.others hH hi ho
 cases e with
 | normal =>
   obtain ⟨g',hg',hlt,hle⟩:=exK_sat h1
   have hlt:=hlt _ rfl
   obtain ⟨C3,h7,h8,h9,h10⟩:=hle C' w' h3 h2
   exact ⟨A.mu g',hlt,g',_,hg',rfl,h9,h7,h8 _ h4,hro.tr h5 hH,(ht.trans h5).trans h10,hk'⟩
 | exit id=>exact hgoal (.exit id) fr' hp' C' w' act' h1 h2 h3 h4 (ht.trans h5) hk'
 | ret=>exact hgoal .ret fr' hp' C' w' act' h1 h2 h3 h4 (ht.trans h5) hk'
theorem exR_sat {lo i : Nat} {A : Ann} {fr : List AV} {R : AV -> Heap -> Prop} (h : (exR lo A i fr hp).sat R) : ∃ g,A.pre g /\ A.mu g = i /\ LeOK lo fr hp (A.st g):=by
 obtain ⟨g,h1,_,h2,h3⟩:=h
 simp only [forceL_eq,forceH_eq] at h3
 exact ⟨g,h1,h2,swK_sat (s:=A.st g) h3⟩
def codeOf : AE -> Code
 | .exit id=>.exit id
 | _=>.ret
structure Mid (P : Program) (S : Sums) (C : Cx) (w : World) (act : Act) (A : Ann) (l : Nat) (rec : Loop) (ms : List Nat) (k : Nat) (W : World) : Prop where
 ex : ∃ g C2,A.mu g = k /\ A.pre g /\ S.lo <= (A.st g).hp.length /\ HR C2 (A.st g).hp W /\ FR [] C2 W (A.st g).fr act.tmps /\ Tr S.lo C w C2 W
 lr : W.heap[l]? = some (.loop rec)
 ms : ∀ D ∈ ms,W.heap[D]? = some (.deferred (some []))
structure Gone (P : Program) (S : Sums) (R : AV -> Heap -> Prop) (Qv : AE -> List AV -> Heap -> VC) (C : Cx) (w : World) (act : Act) (l : Nat) (rec : AE -> Loop) (ms : List Nat) (W : World) : Prop where
 ex : ∃ e fr' hp' C2,e ≠ AE.normal /\ (Qv e fr' hp').sat R /\ S.lo <= hp'.length /\ HR C2 hp' W /\ FR [] C2 W fr' act.tmps /\ Tr S.lo C w C2 W /\ W.heap[l]? = some (.loop (rec e))
 ms : ∀ D ∈ ms,W.heap[D]? = some (.deferred (some []))
theorem Quiet.at {W W' : World} (q : Quiet W W') {k : Nat} {o : Obj} (h : W.heap[k]? = some o) : W'.heap[k]? = some o:=(q.keep k (Array.getElem?_eq_some_iff.1 h).1).trans h
theorem Mid.quiet {act : Act} {A : Ann} {l : Nat} {rec : Loop} {ms : List Nat} {k : Nat} {W W' : World} (h : Mid P S C w act A l rec ms k W) (q : Quiet W W') : Mid P S C w act A l rec ms k W':=by
 obtain ⟨g,C2,h1,h2,h3,h4,h5,h6⟩:=h.ex
 exact ⟨⟨g,C2,h1,h2,h3,h4.cb q.cb,h5.cb q.cb,h6.quiet q⟩,q.at h.lr,fun D hD=>q.at (h.ms D hD)⟩
theorem Gone.quiet {R : AV -> Heap -> Prop} {Qv : AE -> List AV -> Heap -> VC} {act : Act} {l : Nat} {rec : AE -> Loop} {ms : List Nat} {W W' : World} (h : Gone P S R Qv C w act l rec ms W) (q : Quiet W W') : Gone P S R Qv C w act l rec ms W':=by
 obtain ⟨e,fr',hp',C2,h0,h1,h2,h3,h4,h5,h6⟩:=h.ex
 exact ⟨⟨e,fr',hp',C2,h0,h1,h2,h3.cb q.cb,h4.cb q.cb,h5.quiet q,q.at h6⟩,fun D hD=>q.at (h.ms D hD)⟩
set_option maxHeartbeats 800000 in
theorem snd_range (hS : SumsOK P S) {ro : Option Nat} {rm : Nat} {U : Nat} {I : Anns} {g : Operand} {ps : Array Tmp} {ca cb : Code} (hca : Snd P S U I ca) (hcb : Snd P S U I cb) {R : AV -> Heap -> Prop} {fr : List AV} {Qv : AE -> List AV -> Heap -> VC} {act : Act} {Q : Exit -> Act -> World -> Prop}
  (hlo : S.lo <= hp.length) (hH : HR C hp w) (hF : FR [] C w fr act.tmps) (hro : RO ro w) (h : (wpA P S U I (.rangeFunc g ps ca cb) fr hp Qv).sat R) (hgoal : GoalE S R Qv Q C w act 0) : (Code.rangeFunc g ps ca cb).wpIn (fen ro) rm P Q act w:=by
 simp only [wpA] at h
 unfold callIt at h
 split at h
 case h_2=>exact h.elim
 rename_i d
 split at h
 case h_2=>exact h.elim
 rename_i gf caps hd
 split at h
 case h_2=>exact h.elim
 rename_i it hit hown
 split at h
 case h_2=>exact h.elim
 rename_i x hx
 obtain ⟨hpre,h⟩:=needs_sat h
 split at h
 ·exact h.elim
 rename_i nils ann _
 obtain ⟨hiter,fn0,hfn0,hname0,hbody0⟩:=hS.its _ _ hit
 obtain ⟨ws,hev,hws⟩ : ∃ ws,act.tmps.getD d undef = .func (.func gf) ⟨[]⟩ ⟨ws⟩ /\ RelL C w caps ws:=by
  have:=(hF.get d).1
  rw [hd] at this
  generalize act.tmps.getD d undef = u at this
  cases this with
  | fn _ _ _ vs ws h1 h2=>cases h1; exact ⟨ws,rfl,h2⟩
 obtain ⟨Ci,hCi⟩ : ∃ Ci : Cx,Ci = ⟨fun _=>none,C.I,fun _=>none⟩:=⟨_,rfl⟩
 have hCiI : ∀ b,Ci.I b ↔ C.I b:=fun b=>by rw [hCi]
 have hwsI : RelL Ci w caps ws:=hws.change (fun b hb=>(hCiI b).2 hb) hown
 obtain ⟨fr,hp1,C1,h,hlo1,hH1,hF1,htr1⟩:=nilK_sat h hlo hH hF
 obtain ⟨A,hA⟩ : ∃ A,A = ann fr hp1:=⟨_,rfl⟩
 obtain ⟨h0,h⟩:=h
 rw [<- hA] at h0
 have h : ∀ g,A.pre g -> (VC.branch (nlt (A.mu g) x.n)
     (setPs ps.toList (x.it (A.mu g)) (A.st g).fr fun fr1=>wpA P S U I ca fr1 (A.st g).hp fun e fr2 hp2=>match e with
      | .normal=>wpA P S U I cb fr2 hp2 fun e fr3 hp3=>topM (Nat.lor (mskP ps.toList) (Nat.lor (mskC ca) (mskC cb))) fr3 0 fun fr4=>match e with
        | .normal=>exR S.lo A (nadd (A.mu g) 1) fr4 hp3
        | e=>Qv e fr4 hp3
      | _=>.fail)
     (Qv .normal (A.st g).fr (A.st g).hp)).sat R:=by
  subst hA
  intro g hg
  have:=h g hg
  simp only [forceL_eq,forceH_eq] at this
  exact this
 obtain ⟨g0,hg0,hmu0,hle0⟩:=exR_sat h0
 obtain ⟨C2,hH2,hF2,hlo2,htr2⟩:=hle0 C1 _ hH1 hlo1
 have hF2:=hF2 _ hF1
 have htr:=htr1.trans htr2
 clear hle0 h0 htr2 htr1 hF1 hH1
 refine wpIn_rangeFunc ?_
 intro fn hfn
 obtain ⟨l,ms,w1,rec,henter,hq,hl,hrec0,hrecl,hms,hnd⟩ : ∃ (l : Nat) (ms : List Nat) (w1 : World) (rec : LoopState -> Option Code -> Loop),(Instr.enterLoop fn act.tmps ps ca cb ro).run P w = .ok (l,ms.map mkOf) w1 /\ Quiet w w1 /\ w.heap.size <= l /\
   (∃ D0,rec = fun st pe=>{ state:=st,pending:=pe,fn,tmps:=act.tmps,params:=ps,assign:=ca,body:=cb,defers:=D0 }) /\ w1.heap[l]? = some (.loop (rec .ready none)) /\
   (∀ D ∈ ms,w.heap.size <= D /\ D ≠ l /\ w1.heap[D]? = some (.deferred (some []))) /\ ms.Nodup:=by
  cases ro with
  | none =>
    refine ⟨w.heap.size + 1,[w.heap.size],_,fun st pe=>{ state:=st,pending:=pe,fn,tmps:=act.tmps,params:=ps,assign:=ca,body:=cb,defers:=w.heap.size },run_enterLoop_outer fn act.tmps ps ca cb,(Quiet.alloc _ _).trans (Quiet.alloc _ _),by omega,⟨_,rfl⟩,?_,fun D hD=>?_,by simp⟩
    ·have:=World.alloc_heap_new (w.alloc (.deferred (some []))) (.loop { state:=.ready,pending:=none,fn,tmps:=act.tmps,params:=ps,assign:=ca,body:=cb,defers:=w.heap.size })
     rwa [World.size_alloc] at this
    ·simp at hD; subst hD
     exact ⟨Nat.le_refl _,by omega,(Below.heap_alloc _ _ _ (by simp)).trans (World.alloc_heap_new w _)⟩
  | some l₀ =>
    obtain ⟨r₀,hr₀⟩:=hro l₀ rfl
    refine ⟨w.heap.size,[],_,fun st pe=>{ state:=st,pending:=pe,fn,tmps:=act.tmps,params:=ps,assign:=ca,body:=cb,defers:=r₀.defers },run_enterLoop_inner hr₀ fn act.tmps ps ca cb,Quiet.alloc _ _,Nat.le_refl _,⟨_,rfl⟩,World.alloc_heap_new w _,fun D hD=>by simp at hD,by simp⟩
 obtain ⟨D0,hrec⟩:=hrec0
 have hrun : ∀ (args : Array Value) (W : World),(callFunc gf args).run P W = .ok (.enter gf args) W:=fun args W=>run_callFunc (P:=P) hfn0 hname0 hbody0 args W
 refine ⟨l,ms.map mkOf,w1,{ target:=.fn (.func gf) ⟨ws⟩,args:=#[.func (.yield l) #[] #[]] },w1,gf,⟨.func (.yield l) #[] #[] :: ws⟩,w1,henter,?_,fun _ _=>trivial,?_,(fun (hh : (none : Option Nat).isSome = true)=>by simp at hh),?_⟩
 ·have hev' : act.eval (.tmp d) = .func (.func gf) ⟨[]⟩ ⟨ws⟩:=hev
  simp only [resolve,hev']
  simp [go_sem]
 ·have e1 : #[Value.func (.yield l) #[] #[]] ++ (⟨ws⟩ : Array Value) = ⟨.func (.yield l) #[] #[] :: ws⟩:=by apply Array.ext'; simp
  simp [invoke,go_sem,hrun,e1]
 have hinv0 : Mid P S C w act A l (rec .ready none) ms 0 w1:=⟨⟨g0,C2,hmu0,hg0,hlo2,hH2.cb hq.cb,hF2.cb hq.cb,htr.quiet hq⟩,hrecl,fun D hD=>(hms D hD).2.2⟩
 have hrecC : ∀ e : AE,rec .done (some (codeOf e)) = rec .done (some (codeOf e)):=fun _=>rfl
 refine fen_calls ro (callsIn_wide.1 ((hiter caps x hx hpre Ci w1 ws (fun i=>by rw [hCi]) (fun b hb=>Nat.lt_of_lt_of_le (hH.ilt b ((hCiI b).1 hb)) hq.size) (hwsI.cb hq.cb) l
  (fun k W=>Mid P S C w act A l (rec .ready none) ms k W) (fun _ W=>Gone P S R Qv C w act l (fun e=>rec .done (some (codeOf e))) ms W) (fun _ _ _ h q=>h.quiet q) (fun _ _ _ h q=>h.quiet q) ?_ hinv0).mono ?_))
 ·-- one round
  intro k W0 W I1 vs hk hmid hqw hI1 hI1' hvs
  have hmid:=hmid
  obtain ⟨gh,C3,hmu,hpg,hlo3,hH3,hF3,ht3⟩:=hmid.ex
  have hsat:=h gh hpg
  have hsat:=hsat.1 (by unfold nlt; simpa [hmu] using hk)
  rw [hmu] at hsat
  obtain ⟨C4,hC4⟩ : ∃ C4 : Cx,C4 = ⟨C3.ρ,fun b=>C3.I b \/ I1 b,C3.O⟩:=⟨_,rfl⟩
  have hx4 : Cext C3 W C4 W:=by rw [hC4]; exact ⟨fun _ _ h=>h,fun _ h=>.inl h,fun _ _=>rfl⟩
  have hCI3 : ∀ b,Ci.I b -> C3.I b:=fun b hb=>ht3.imm b ((hCiI b).1 hb)
  have hH3W : HR C3 (A.st gh).hp W:=hH3.cb hqw.cb
  have hH4 : HR C4 (A.st gh).hp W:=by
   refine ⟨fun i p hi=>?_,fun i j b c n b' c' n' h h'=>?_,fun i b c n hi=>?_,fun b hb=>?_,fun b x hb=>?_⟩
   ·rw [hC4] at hi; exact (hH3W.live i p hi).mono hx4 (fun _ _ _ _=>rfl) fun b x hb=>⟨by rw [hC4]; exact hb,rfl⟩
   ·rw [hC4] at h h'; exact hH3W.inj _ _ _ _ _ _ _ _ h h'
   ·rw [hC4] at hi ⊢
    refine ⟨(hH3W.fresh _ _ _ _ hi).1,fun hb=>?_⟩
    rcases hb with hb | hb
    ·exact (hH3W.fresh _ _ _ _ hi).2 hb
    ·rcases hI1' b hb with h1 | h1
     ·exact (hH3W.fresh _ _ _ _ hi).2 (hCI3 b h1)
     ·have:=(hH3.fresh _ _ _ _ hi).1; omega
   ·rw [hC4] at hb
    rcases hb with hb | hb
    ·exact hH3W.ilt b hb
    ·rcases hI1' b hb with h1 | h1
     ·exact hH3W.ilt b (hCI3 b h1)
     ·exact h1.2
   ·have hb' : C3.O b = some x:=by rw [hC4] at hb; exact hb
    obtain ⟨s1,s2,s3,s4⟩:=hH3W.sub b x hb'
    refine ⟨s1,fun hI=>?_,fun i b' c n hi=>s3 i b' c n (by rw [hC4] at hi; exact hi),s4⟩
    rw [hC4] at hI
    rcases hI with hI | hI
    ·exact s2 hI
    ·rcases hI1' b hI with h1 | h1
     ·exact s2 (hCI3 b h1)
     ·have:=(hH3.sub b x hb').1; omega
  have hF4 : FR [] C4 W (A.st gh).fr act.tmps:=(hF3.cb hqw.cb).mono hx4
  have ht4 : Tr S.lo C w C4 W:=by
   have t:=ht3.quiet hqw
   rw [hC4]
   refine ⟨t.os,t.tape,t.output,t.size,t.keep,fun b hb=>.inl (t.imm b hb),fun b hb=>?_,t.rho,t.own,t.sub⟩
   rcases hb with hb | hb
   ·exact t.imm' b hb
   ·rcases hI1' b hb with h1 | h1
    ·exact .inl ((hCiI b).1 h1)
    ·exact .inr (.inl (.inl (Nat.le_trans ht3.size h1.1)))
  have hvs4 : RelL C4 W (x.it k) vs:=hvs.mono ⟨fun i p h=>by simp at h,fun b hb=>by rw [hC4]; exact .inr hb,fun _ _=>rfl⟩
  obtain ⟨hlen,fr1,hsat,hFr1⟩:=setPs_sat hsat hvs4 hF4
  have hlW : W.heap[l]? = some (.loop (rec .ready none)):=hqw.at hmid.lr
  have hmsW : ∀ D ∈ ms,W.heap[D]? = some (.deferred (some [])):=fun D hD=>hqw.at (hmid.ms D hD)
  have hy:=run_yield (P:=P) (args:=⟨vs⟩) hlW (by rw [hrec]; simp; simpa using hlen.symm)
  have htm : ∀ t,Nat.testBit (mskP ps.toList) t = false -> ((ps.toList.zip vs).foldl (fun t (p,v)=>t.setIfInBounds p v) act.tmps).getD t undef = act.tmps.getD t undef:=fun t ht=>by
   refine fold_get _ _ _ fun hm=>?_
   obtain ⟨⟨p,v⟩,hm1,rfl⟩:=List.mem_map.1 hm
   rw [mskP_mem (List.of_mem_zip hm1).1] at ht; cases ht
  have htz:=fold_size (ps.toList.zip vs) act.tmps
  have hfold : (ps.zip (⟨vs⟩ : Array Value)).foldl (fun t (p,v)=>t.setIfInBounds p v) act.tmps = (ps.toList.zip vs).foldl (fun t (p,v)=>t.setIfInBounds p v) act.tmps:=by
   rw [<- Array.foldl_toList]; simp
  generalize (ps.toList.zip vs).foldl (fun t (p,v)=>t.setIfInBounds p v) act.tmps = tm1 at hFr1 htm htz hfold
  refine ⟨fn,tm1,ca,cb,?_,roundIn_of_wpIn trivial ?_⟩
  ·rw [hy,hrec]; simp only; rw [<- hfold]
  refine hca (some l) 0 R fr1 _ _ C4 W ⟨tm1,[]⟩ _ hlo3 hH4 hFr1 (fun l' hl'=>by injection hl' with hl'; subst hl'; exact ⟨_,hlW⟩) hsat ?_
  intro e fr2 hp2 C5 W2 act2 h1 h2 h3 h4 h5 h6
  cases e with
  | exit id=>exact h1.elim
  | ret=>exact h1.elim
  | normal =>
  have hl2 : W2.heap[l]? = some (.loop (rec .ready none)):=h5.others hH4 hlW rfl
  have hms2 : ∀ D ∈ ms,W2.heap[D]? = some (.deferred (some [])):=fun D hD=>h5.others hH4 (hmsW D hD) rfl
  refine ⟨_,run_beginRound hl2 (by rw [hrec]),?_⟩
  have hcb1:=CB.putObj (.loop { rec .ready none with state:=.busy }) hl2 rfl
  have hl3 : (W2.putObj l (.loop { rec .ready none with state:=.busy })).heap[l]? = some (.loop { rec .ready none with state:=.busy }):=World.putObj_heap_same (Array.getElem?_eq_some_iff.1 hl2).1
  have hms3 : ∀ D ∈ ms,(W2.putObj l (.loop { rec .ready none with state:=.busy })).heap[D]? = some (.deferred (some [])):=fun D hD=>(World.putObj_heap_other (hms D hD).2.1).trans (hms2 D hD)
  have hk3 : ∀ b,b ≠ l -> (W2.putObj l (.loop { rec .ready none with state:=.busy })).heap[b]? = W2.heap[b]?:=fun b hb=>World.putObj_heap_other hb
  have ht5 : Tr S.lo C w C5 (W2.putObj l (.loop { rec .ready none with state:=.busy })):=(ht4.trans h5).putObj hl _
  have hs3 : (W2.putObj l (.loop { rec .ready none with state:=.busy })).heap.size = W2.heap.size:=World.putObj_size
  have hH5:=h3.cb hcb1
  have hF5:=h4.cb hcb1
  generalize W2.putObj l (.loop { rec .ready none with state:=.busy }) = W3 at *
  refine hcb (some l) 0 R fr2 hp2 _ C5 W3 act2 _ h2 hH5 hF5 (fun l' hl'=>by injection hl' with hl'; subst hl'; exact ⟨_,hl3⟩) h1 ?_
  intro e fr3 hp3 C6 W4 act3 g1 g2 g3 g4 g5 g6
  have ht6 : Tr S.lo C w C6 W4:=ht5.trans g5
  have hl4 : W4.heap[l]? = some (.loop { rec .ready none with state:=.busy }):=g5.others hH5 hl3 rfl
  have hms4 : ∀ D ∈ ms,W4.heap[D]? = some (.deferred (some [])):=fun D hD=>g5.others hH5 (hms3 D hD) rfl
  obtain ⟨K,g7,hK1,hK2⟩ : ∃ K : List AV -> VC,(topM (Nat.lor (mskP ps.toList) (Nat.lor (mskC ca) (mskC cb))) fr3 0 K).sat R /\ (e = .normal -> K = fun fr4=>exR S.lo A (nadd k 1) fr4 hp3) /\ (e ≠ .normal -> K = fun fr4=>Qv e fr4 hp3):=by
   cases e with
   | normal=>exact ⟨_,g1,fun _=>rfl,fun h=>absurd rfl h⟩
   | exit id=>exact ⟨_,g1,(fun h=>by cases h),fun _=>rfl⟩
   | ret=>exact ⟨_,g1,(fun h=>by cases h),fun _=>rfl⟩
  obtain ⟨fr4,e4,hlen4,hget4⟩:=topM_eq (Nat.lor (mskP ps.toList) (Nat.lor (mskC ca) (mskC cb))) fr3 0 K
  rw [e4] at g7
  have hF6 : FR [] C6 W4 fr4 act.tmps:=by
   refine ⟨by rw [hlen4,g4.len,g6.sz,h6.sz,htz],fun t=>?_⟩
   rw [hget4 t]
   split
   ·exact .plain (.top _) trivial
   ·rename_i hb
    by_cases hlt : t < fr3.length
    ·have hbit : Nat.testBit (Nat.lor (mskP ps.toList) (Nat.lor (mskC ca) (mskC cb))) t = false:=by
      rw [Nat.zero_add] at hb
      cases hbb : Nat.testBit (Nat.lor (mskP ps.toList) (Nat.lor (mskC ca) (mskC cb))) t with
      | false=>rfl
      | true=>exact absurd ⟨hbb,hlt⟩ hb
     obtain ⟨b1,b2⟩:=msk_or hbit
     obtain ⟨b2,b3⟩:=msk_or b2
     have:=g4.get t
     rwa [g6.tm t b3,h6.tm t b2,htm t b1] at this
    ·have hl3':=g4.len
     have e1 : getL fr3 t = .tup []:=by rw [getL_eq,List.getD_eq_getElem?_getD,List.getElem?_eq_none (by omega)]; rfl
     have e2 : act.tmps.getD t undef = undef:=by
      rw [Array.getD_eq_getD_getElem?,Array.getElem?_eq_none (by rw [<- htz,<- h6.sz,<- g6.sz]; omega)]; rfl
     rw [e1,e2]; exact .plain (.tup _ _ .nil) trivial
  have hkeep : ∀ b,Ci.I b -> W4.heap[b]? = W.heap[b]?:=fun b hb=>by
   have hbl : b < w.heap.size:=hH.ilt b ((hCiI b).1 hb)
   have hb4 : C4.I b:=by rw [hC4]; exact .inl (hCI3 b hb)
   exact (g5.imms hH5 (h5.imm b hb4)).trans ((hk3 b (by omega)).trans (h5.imms hH4 hb4))
  have hsize : W.heap.size <= W4.heap.size:=Nat.le_trans h5.size (by rw [<- hs3]; exact g5.size)
  have fin : ∀ (jump : Option Code),(Instr.endRound l jump).run P W4 = .ok (.bool jump.isNone) (W4.putObj l (.loop (rec (if jump.isNone then .ready else .done) jump))) /\
    CB W4 (W4.putObj l (.loop (rec (if jump.isNone then .ready else .done) jump))) /\ (W4.putObj l (.loop (rec (if jump.isNone then .ready else .done) jump))).heap[l]? = some (.loop (rec (if jump.isNone then .ready else .done) jump)) /\
    (∀ D ∈ ms,(W4.putObj l (.loop (rec (if jump.isNone then .ready else .done) jump))).heap[D]? = some (.deferred (some []))) /\
    (∀ b,Ci.I b -> (W4.putObj l (.loop (rec (if jump.isNone then .ready else .done) jump))).heap[b]? = W.heap[b]?) /\ W.heap.size <= (W4.putObj l (.loop (rec (if jump.isNone then .ready else .done) jump))).heap.size:=fun jump=>by
   have:=run_endRound (P:=P) jump hl4
   rw [hrec] at this ⊢
   refine ⟨this,CB.putObj _ hl4 rfl,World.putObj_heap_same (Array.getElem?_eq_some_iff.1 hl4).1,fun D hD=>(World.putObj_heap_other (hms D hD).2.1).trans (hms4 D hD),fun b hb=>?_,by simpa using hsize⟩
   have hbl : b < w.heap.size:=hH.ilt b ((hCiI b).1 hb)
   exact (World.putObj_heap_other (by omega)).trans (hkeep b hb)
  cases e with
  | normal =>
    rw [hK1 rfl] at g7
    obtain ⟨gh',hpg',hmu',hle⟩:=exR_sat g7
    obtain ⟨C7,k1,k2,k3,k4⟩:=hle _ _ g3 g2
    obtain ⟨f1,f2,f3,f4,f5,f6⟩:=fin none
    exact ⟨_,_,f1,f5,f6,.inl ⟨rfl,⟨gh',_,by rw [hmu']; unfold nadd; rfl,hpg',k3,k1.cb f2,(k2 _ hF6).cb f2,(ht6.trans k4).putObj hl _⟩,f3,f4⟩⟩
  | exit id =>
    rw [hK2 (by simp)] at g7
    obtain ⟨f1,f2,f3,f4,f5,f6⟩:=fin (some (.exit id))
    exact ⟨_,_,f1,f5,f6,.inr ⟨rfl,⟨.exit id,fr4,hp3,C6,by simp,g7,g2,g3.cb f2,hF6.cb f2,ht6.putObj hl _,f3⟩,f4⟩⟩
  | ret =>
    rw [hK2 (by simp)] at g7
    obtain ⟨f1,f2,f3,f4,f5,f6⟩:=fin (some .ret)
    exact ⟨_,_,f1,f5,f6,.inr ⟨rfl,⟨.ret,fr4,hp3,C6,by simp,g7,g2,g3.cb f2,hF6.cb f2,ht6.putObj hl _,f3⟩,f4⟩⟩
 ·-- behind the iterator
  have hkept : ∀ (W : World) (o : Obj),(∀ D ∈ ms,W.heap[D]? = some (.deferred (some []))) -> Kept 0 act w { act with defers:=ms.map mkOf ++ act.defers } (W.putObj l o):=fun W o hm =>
   ⟨rfl,fun _ _=>rfl,ms,rfl,hnd,fun b hb=>⟨(hms b hb).1,(World.putObj_heap_other (hms b hb).2.1).trans (hm b hb)⟩⟩
  rintro e W ⟨⟨v,rfl⟩,hmid | ⟨k,hk,hgone⟩⟩
  ·obtain ⟨gh,C3,hmu,hpg,hlo3,hH3,hF3,ht3⟩:=hmid.ex
   have hl3:=hmid.lr
   have hend:=run_endLoop (P:=P) hl3 (by rw [hrec]; simp)
   have hcb1:=fun o=>CB.putObj (.loop o) hl3 rfl
   rw [hrec] at hend
   refine ⟨none,_,hend,?_⟩
   have hsat:=(h gh hpg).2 (by unfold nlt; simp [hmu])
   exact hgoal .normal _ _ C3 _ _ hsat hlo3 (hH3.cb (hcb1 _)) (hF3.cb (hcb1 _)) (ht3.putObj hl _) (hkept _ _ hmid.ms)
  ·obtain ⟨e,fr',hp',C3,hne,hsat,hlo3,hH3,hF3,ht3,hl3⟩:=hgone.ex
   have hend:=run_endLoop (P:=P) hl3 (by rw [hrec]; simp)
   have hcb1:=fun o=>CB.putObj (.loop o) hl3 rfl
   rw [hrec] at hend
   refine ⟨some (codeOf e),_,hend,?_⟩
   cases e with
   | normal=>exact absurd rfl hne
   | exit id=>exact wpIn_exit (hgoal (.exit id) fr' hp' C3 _ { act with defers:=ms.map mkOf ++ act.defers } hsat hlo3 (hH3.cb (hcb1 _)) (hF3.cb (hcb1 _)) (ht3.putObj hl _) (hkept _ _ hgone.ms))
   | ret=>exact wpIn_ret (hgoal .ret fr' hp' C3 _ { act with defers:=ms.map mkOf ++ act.defers } hsat hlo3 (hH3.cb (hcb1 _)) (hF3.cb (hcb1 _)) (ht3.putObj hl _) (hkept _ _ hgone.ms))
theorem wpA_sound (hS : SumsOK P S) (hm : P.follows .mixedOrders = true) {U : Nat} {I : Anns} : ∀ (c : Code),codeOK c = true -> Snd P S U I c:=by
 intro c
 induction c with
 | skip =>
   intro _ ro rm R fr hp Qv C w act Q hlo hH hF hro h hgoal
   exact wpIn_skip (hgoal .normal fr hp C w act h hlo hH hF (.refl _ _ _) (.refl _ _ _ _))
 | region id ops dr =>
   intro hok ro rm R fr hp Qv C w act Q hlo hH hF hro h hgoal
   simp only [wpA] at h
   simp only [codeOK,regOK,Bool.and_eq_true] at hok
   obtain ⟨fr,hp,C1,h,hlo,hH,hF,htr⟩:=giveI_sat h hlo hH hF
   replace hgoal:=hgoal.step htr (.refl _ _ _ _) hH
   have hg : Goal P S R (Qv .normal) Q C1 w (RegKept (mskO ops.toList) act):=fun fr' hp' C' w' act' h1 h2 h3 h4 h5 h6=>hgoal .normal fr' hp' C' w' act' h1 h2 h3 h4 h5 (h6.kept _ _)
   have hds : RegKept (mskO ops.toList) act act:=⟨rfl,fun _ _=>rfl,rfl⟩
   have hput:=regKept_put ops.toList act
   cases dr with
   | false =>
     simp only at h
     split at h
     ·rename_i s a b n hc
      obtain ⟨h1,h2⟩:=h
      refine region_nil hc hF fun bb hb act' hk hF'=>hgoal .normal _ hp C1 w act' ?_ hlo hH hF' (.refl _ _ _) (hk.kept _ _)
      cases bb with
      | true =>
        have:=h1.1 (by unfold ieq icast; simp [hb rfl])
        simpa only [setF_eq] using this
      | false =>
        have:=h2 () trivial
        simpa only [setF_eq] using this
     ·exact region_text hS hok.1.1 hlo hH hF h hput hds hg
   | true =>
     have h2:=hok.1.2
     simp only [Bool.and_eq_true] at h2
     simp only at h
     have h3:=hok.2
     simp only [Bool.and_eq_true] at h3
     split at h
     ·split at h
      ·rename_i hsel
       exact region_each hS hm hsel (back_spec h2.2) hlo hH hF h hput hds hg
      ·exact h.elim
     split at h
     ·rename_i hsw
      split at h
      ·rename_i hn
       have h4:=h3.2
       have htry : prTry ops.toList = true:=by
        unfold needP at hn
        split at hn
        ·assumption
        ·cases hn
       rw [htry] at h4
       exact region_pre hS hm h4 hlo hH hF (back_spec h2.2) h hput hds hg
      split at h
      ·exact region_draw hS hm hok.1.1 h2.1 (back_spec h2.2) hlo hH hF h hput hds hg
      ·rename_i hn
       have h4:=h3.1.2
       have htry : hoTry ops.toList = true:=by
        unfold needH at hn
        split at hn
        ·assumption
        ·cases hn
       rw [htry] at h4
       exact region_hoist hS hm h4 hlo hH hF (back_spec h2.2) h hput hds hg
     ·rename_i z hz
      split at h
      ·rename_i hb
       rw [setF_eq] at h
       exact region_sw hS hm (.of hz h3.1.1) hlo (by simpa [Nat.blt_eq] using hb) hH hF h hput hds hg
      ·exact h.elim
 | seq a b iha ihb =>
   intro hok ro rm R fr hp Qv C w act Q hlo hH hF hro h hgoal
   simp only [codeOK,Bool.and_eq_true] at hok
   simp only [wpA] at h
   cases hcut : findS I (cutK b) with
   | some x =>
     obtain ⟨nl,ann⟩:=x
     rw [hcut] at h
     dsimp only at h
     obtain ⟨ha,hb⟩:=h
     refine wpIn_seq (iha hok.1 ro rm R fr hp _ C w act _ hlo hH hF hro ha ?_)
     intro e fr' hp' C' w' act' h1 h2 h3 h4 h5 h6
     have h6':=h6.sub (W':=mskC (.seq a b)) fun t ht=>(msk_or ht).1
     cases e with
     | normal =>
       obtain ⟨g,hg,_,hle⟩:=exK_sat h1
       obtain ⟨C3,h7,h8,h9,h10⟩:=hle C' w' h3 h2
       have hb:=hb g hg
       simp only [forceL_eq,forceH_eq] at hb
       exact ihb hok.2 ro rm R _ _ Qv C3 w' act' Q h9 h7 (h8 _ h4) (hro.tr h5 hH) hb ((hgoal.step (h5.trans h10) h6' h7).sub fun t ht=>(msk_or ht).2)
     | exit id=>exact hgoal (.exit id) fr' hp' C' w' act' h1 h2 h3 h4 h5 h6'
     | ret=>exact hgoal .ret fr' hp' C' w' act' h1 h2 h3 h4 h5 h6'
   | none =>
     rw [hcut] at h
     dsimp only at h
     refine wpIn_seq (iha hok.1 ro rm R fr hp _ C w act _ hlo hH hF hro h ?_)
     intro e fr' hp' C' w' act' h1 h2 h3 h4 h5 h6
     have h6':=h6.sub (W':=mskC (.seq a b)) fun t ht=>(msk_or ht).1
     cases e with
     | normal=>exact ihb hok.2 ro rm R fr' hp' Qv C' w' act' Q h2 h3 h4 (hro.tr h5 hH) h1 ((hgoal.step h5 h6' h3).sub fun t ht=>(msk_or ht).2)
     | exit id=>exact hgoal (.exit id) fr' hp' C' w' act' h1 h2 h3 h4 h5 h6'
     | ret=>exact hgoal .ret fr' hp' C' w' act' h1 h2 h3 h4 h5 h6'
 | cond c a b iha ihb =>
   intro hok ro rm R fr hp Qv C w act Q hlo hH hF hro h hgoal
   simp only [codeOK,Bool.and_eq_true] at hok
   simp only [wpA] at h
   have hga:=hgoal.sub (W':=mskC a) fun t ht=>(msk_or ht).1
   have hgb:=hgoal.sub (W':=mskC b) fun t ht=>(msk_or ht).2
   split at h
   ·rename_i d
    unfold branchK at h
    have hd:=(hF.get d).1
    split at h
    ·rename_i hv
     rw [hv] at hd
     refine wpIn_cond_true (c:=.tmp d) ?_ (iha hok.1 ro rm R fr hp Qv C w act Q hlo hH hF hro h hga)
     show act.tmps.getD d undef = _
     generalize act.tmps.getD d undef = u at hd; cases hd; rfl
    ·rename_i hv
     rw [hv] at hd
     refine wpIn_cond_false (c:=.tmp d) ?_ (ihb hok.2 ro rm R fr hp Qv C w act Q hlo hH hF hro h hgb)
     show act.tmps.getD d undef = _
     generalize act.tmps.getD d undef = u at hd; cases hd; rfl
    ·rename_i t hv
     rw [hv] at hd
     have hvt : act.tmps.getD d undef = .bool t:=by generalize act.tmps.getD d undef = u at hd; cases hd; rfl
     refine wpIn_cond_split (c:=.tmp d) hvt (fun ht=>?_) (fun ht=>?_)
     ·have h1:=h.1 ht
      rw [setF_eq] at h1
      exact iha hok.1 ro rm R _ hp Qv C w act Q hlo hH (hF.known (a:=.lb true) (.plain (by rw [hvt,ht]; exact .lb _) trivial)) hro h1 hga
     ·have h1:=h.2 ht
      rw [setF_eq] at h1
      exact ihb hok.2 ro rm R _ hp Qv C w act Q hlo hH (hF.known (a:=.lb false) (.plain (by rw [hvt,ht]; exact .lb _) trivial)) hro h1 hgb
    ·exact h.elim
   ·exact wpIn_cond_true rfl (iha hok.1 ro rm R fr hp Qv C w act Q hlo hH hF hro h hga)
   ·exact wpIn_cond_false rfl (ihb hok.2 ro rm R fr hp Qv C w act Q hlo hH hF hro h hgb)
   ·exact h.elim
 | block id c ih =>
   intro hok ro rm R fr hp Qv C w act Q hlo hH hF hro h hgoal
   simp only [wpA] at h
   refine wpIn_block (ih hok ro rm R fr hp _ C w act _ hlo hH hF hro h ?_)
   intro e fr' hp' C' w' act' h1 h2 h3 h4 h5 h6
   cases e with
   | normal=>exact hgoal .normal fr' hp' C' w' act' h1 h2 h3 h4 h5 h6
   | exit j =>
     simp only at h1
     show (if j = id then Q .normal act' w' else Q (.exit j) act' w')
     split at h1
     ·rename_i hj
      rw [if_pos (Nat.eq_of_beq_eq_true hj).symm]
      exact hgoal .normal fr' hp' C' w' act' h1 h2 h3 h4 h5 h6
     ·rename_i hj
      rw [if_neg (fun e=>by subst e; simp at hj)]
      exact hgoal (.exit j) fr' hp' C' w' act' h1 h2 h3 h4 h5 h6
   | ret=>exact hgoal .ret fr' hp' C' w' act' h1 h2 h3 h4 h5 h6
 | loop c ih =>
   intro hok ro rm R fr hp Qv C w act Q hlo hH hF hro h hgoal
   simp only [wpA] at h
   split at h
   ·exact snd_iter (ih hok) U hlo hH hF hro h hgoal
   ·rename_i nils ann hann
    obtain ⟨fr,hp,C1,h,hlo,hH,hF,htr⟩:=nilK_sat h hlo hH hF
    obtain ⟨h0,h3⟩:=h
    obtain ⟨g,h1,_,h2⟩:=exK_sat h0
    exact snd_ann (ih hok) (A:=ann fr hp) hlo hH hF hro ⟨g,h1,h2⟩ (fun g hg=>by have:=h3 g hg; simp only [forceL_eq,forceH_eq] at this; exact this) (hgoal.step htr (.refl _ _ _ _) hH)
 | rangeFunc g ps a b iha ihb =>
   intro hok ro rm R fr hp Qv C w act Q hlo hH hF hro h hgoal
   simp only [codeOK,Bool.and_eq_true] at hok
   exact snd_range hS (iha hok.1) (ihb hok.2) hlo hH hF hro h hgoal
 | exit id =>
   intro _ ro rm R fr hp Qv C w act Q hlo hH hF hro h hgoal
   exact wpIn_exit (hgoal (.exit id) fr hp C w act h hlo hH hF (.refl _ _ _) (.refl _ _ _ _))
 | ret =>
   intro _ ro rm R fr hp Qv C w act Q hlo hH hF hro h hgoal
   exact wpIn_ret (hgoal .ret fr hp C w act h hlo hH hF (.refl _ _ _) (.refl _ _ _ _))
 | _ =>
   intro _ ro rm R fr hp Qv C w act Q hlo hH hF hro h hgoal
   exact h.elim
theorem resK_sat {R : AV -> Heap -> Prop} {fr : List AV} {tm : Array Value} {F : ResultVar -> Sem Value} (hF1 : ∀ t,F (.tmp t) = pure (tm.getD t undef)) (hF2 : ∀ a t,F (.cell a t) = (do loadVar t (<- asAddr (tm.getD a undef)))) (hH : HR C hp w) (hF : FR [] C w fr tm) :
  ∀ {l : List ResultVar} {k : List AV -> VC},(resK P fr hp l k).sat R -> ∃ bs vs,(k bs).sat R /\ RelL C w bs vs /\ (l.mapM F).run P w = .ok vs w
 | [],k,h=>⟨[],[],h,.nil,by simp⟩
 | .tmp t :: l,k,h=>by
   obtain ⟨bs,vs,h1,h2,h3⟩:=resK_sat hF1 hF2 hH hF (l:=l) h
   refine ⟨_,tm.getD t undef :: vs,h1,.cons _ _ _ _ (hF.get t).1 h2,?_⟩
   rw [List.mapM_cons,hF1,Sem.run_bind,Sem.run_pure,Result.andThen_ok,Sem.run_bind,h3,Result.andThen_ok,Sem.run_pure]
 | .cell a ty :: l,k,h=>by
   simp only [resK] at h
   split at h
   ·rename_i x hx
    obtain ⟨bs,vs,h1,h2,h3⟩:=resK_sat hF1 hF2 hH hF (l:=l) h
    obtain ⟨u,hu,hr⟩:=run_load (P:=P) hH (fun _ _=>rfl) (hF.get a).1 hx
    have hp' : ∃ ad,tm.getD a undef = .pointer (some ad):=by
     have hra:=(hF.get a).1
     generalize getL fr a = b at hra hx
     generalize tm.getD a undef = v at hra
     cases hra <;> first | exact ⟨_,rfl⟩ | simp [loadA] at hx
    obtain ⟨ad,hp'⟩:=hp'
    rw [hp'] at hu
    have hu' : (loadVar ty ad).run P w = .ok u w:=by simpa [Instr.loadAt,Instr.sureAddr] using hu
    refine ⟨_,u :: vs,h1,.cons _ _ _ _ hr h2,?_⟩
    have hcell : (F (.cell a ty)).run P w = .ok u w:=by
     rw [hF2,hp']; simpa [asAddr] using hu'
    rw [List.mapM_cons,Sem.run_bind,hcell,Result.andThen_ok,Sem.run_bind,h3,Result.andThen_ok,Sem.run_pure]
   ·exact h.elim
theorem calls_wpF (hS : SumsOK P S) (hm : P.follows .mixedOrders = true) {U : Nat} {I : Anns} {f : FuncId} {fn : Func} {c : Code} (hf : P.funcs[f]? = some fn) (hb : fn.body = some c) (hok : codeOK c = true) {R : AV -> Heap -> Prop} {args : List AV} {vs : List Value}
  (hlo : S.lo <= hp.length) (hH : HR C hp w) (ha : RelL C w args vs) (hng : ∀ t,notGd (getL args t)) (hn : args.length <= fn.ntmps) (h : (wpF P S U I fn args hp).sat R) :
  Calls P f ⟨vs⟩ w fun e w'=>∃ v a hp' C',e = .returned v /\ R a hp' /\ S.lo <= hp'.length /\ HR C' hp' w' /\ Rel C' w' a v /\ Tr S.lo C w C' w':=by
 refine callsIn_wide.1 (callsIn_of_wp_marks (F:=fen none) (n:=0) hf hb trivial ?_ rfl)
 unfold wpF at h
 simp only [hb,forceL_eq] at h
 have hpad : ∀ (l : List AV) (n : Nat),l.length <= n -> padL l n = l ++ List.replicate (n - l.length) (.tup []):=by
  intro l
  induction l with
  | nil =>
    intro n _
    induction n with
    | zero=>rfl
    | succ n ih=>simp only [padL,ih (by simp)]; simp [List.replicate_succ]
  | cons a l ih =>
    intro n hn
    cases n with
    | zero=>simp at hn
    | succ n=>simp only [padL,ih n (by simpa using hn)]; simp
 rw [hpad _ _ hn] at h
 have hle:=ha.len
 have hF : FR [] C w (args ++ List.replicate (fn.ntmps - args.length) (.tup [])) ((⟨vs⟩ : Array Value) ++ Array.replicate (fn.ntmps - (⟨vs⟩ : Array Value).size) undef):=by
  refine ⟨by simp [hle],fun t=>?_⟩
  rw [getL_eq,List.getD_eq_getElem?_getD,Array.getD_eq_getD_getElem?]
  by_cases ht : t < args.length
  ·rw [List.getElem?_append_left ht,Array.getElem?_append_left (by simp; omega)]
   have h1 : args[t]? = some (args[t]'ht):=List.getElem?_eq_getElem _
   obtain ⟨v,h2,h3⟩:=ha.get h1
   rw [h1]
   simp only [List.getElem?_toArray,h2,Option.getD_some]
   refine .plain h3 ?_
   have:=hng t
   rwa [getL_eq,List.getD_eq_getElem?_getD,h1] at this
  ·rw [List.getElem?_append_right (by omega),Array.getElem?_append_right (by simp; omega)]
   refine .plain ?_ ?_
   ·have e1 : ((List.replicate (fn.ntmps - args.length) (AV.tup []))[t - args.length]?).getD (.tup []) = .tup []:=by
     rw [List.getElem?_replicate]; split <;> rfl
    have e2 : ((Array.replicate (fn.ntmps - (⟨vs⟩ : Array Value).size) undef)[t - (⟨vs⟩ : Array Value).size]?).getD undef = undef:=by
     rw [Array.getElem?_replicate]; split <;> rfl
    rw [e1,e2]
    exact .tup _ _ .nil
   ·rw [List.getElem?_replicate]; split <;> trivial
 refine wpA_sound hS hm c hok none 0 R _ hp _ C w ⟨_,[]⟩ _ hlo hH hF (fun l hl=>by cases hl) h ?_
 intro e fr' hp' C' w' act' h1 h2 h3 h4 h5 h6
 have key : (resK P fr' hp' fn.results.toList fun l=>outK l hp').sat R -> LeavesInM (fen none) 0 P fn act'.tmps (fun e w'=>∃ v a hp' C',e = .returned v /\ R a hp' /\ S.lo <= hp'.length /\ HR C' hp' w' /\ Rel C' w' a v /\ Tr S.lo C w C' w') act'.defers .returning w':=by
  intro hk
  obtain ⟨ms,hms,hnd,hat⟩:=h6.dfs
  rw [hms,List.append_nil]
  clear hms
  revert h3 h4 h5 hat
  generalize w' = w1
  intro h3 h4 h5 hat
  induction ms generalizing w1 with
  | cons b ms ih =>
    have hb:=hat b (List.mem_cons_self ..)
    rw [List.nodup_cons] at hnd
    have hcb:=CB.putObj (.deferred none) hb.2 rfl
    refine ⟨by simp,.inl ⟨b,_,rfl,run_takeDeferred hb.2,ih hnd.2 _ (h3.cb hcb) (h4.cb hcb) (h5.putObj hb.1 _) fun c hc=>?_⟩⟩
    have h7:=hat c (List.mem_cons_of_mem _ hc)
    exact ⟨h7.1,(World.putObj_heap_other fun e=>hnd.1 (by rw [<- e]; exact hc)).trans h7.2⟩
  | nil =>
  have hres : ∃ F : ResultVar -> Sem Value,(∀ t,F (.tmp t) = pure (act'.tmps.getD t undef)) /\ (∀ a t,F (.cell a t) = (do loadVar t (<- asAddr (act'.tmps.getD a undef)))) /\
    results fn act'.tmps = (do let vs <- fn.results.mapM F; pure (if h : vs.size = 1 then vs[0] else .tuple vs)) :=
   ⟨fun x=>match x with | .tmp t=>pure (act'.tmps.getD t undef) | .cell a t=>do loadVar t (<- asAddr (act'.tmps.getD a undef)),fun _=>rfl,fun _ _=>rfl,rfl⟩
  obtain ⟨F,hF1,hF2,hres⟩:=hres
  obtain ⟨bs,us,h7,h8,h9⟩:=resK_sat (P:=P) hF1 hF2 h3 h4 hk
  have hrun : (results fn act'.tmps).run P w1 = .ok (if h : us.length = 1 then us[0] else .tuple ⟨us⟩) w1:=by
   rw [hres]
   have e1 : fn.results.mapM F = (List.toArray <$> fn.results.toList.mapM F):=by
    rw [<- List.mapM_toArray]
   rw [e1]
   simp [h9]
  refine ⟨_,hrun,?_⟩
  unfold outK at h7
  split at h7
  ·rename_i a
   cases h8 with
   | cons _ _ v _ h10 h11 =>
     cases h11
     rw [forceD_eq] at h7
     exact ⟨_,a,hp',C',rfl,h7,h2,h3,by simpa using h10,h5⟩
  ·rename_i hne
   rw [forceLD_eq] at h7
   have : us.length ≠ 1:=by
    rw [<- h8.len]
    intro hl
    obtain ⟨a,rfl⟩:=List.length_eq_one_iff.1 hl
    exact hne a rfl
   rw [dif_neg this]
   exact ⟨_,.tup bs,hp',C',rfl,h7,h2,h3,.tup _ _ h8,h5⟩
 cases e with
 | normal=>exact key h1
 | ret=>exact key h1
 | exit id=>exact h1.elim
end
end Abs
end Go.Proofs.YtlacopdaibhkkaaGreat

namespace Go.Proofs.YtlacopdaibhkkaaGreat
namespace Abs
open Go Go.RowKit
noncomputable section
def forceLDP : {g : List AV -> (List AV -> VC) -> VC // forceLD = g}:=⟨_,by delta forceLD; rfl⟩
def forceLDN : List AV -> (List AV -> VC) -> VC:=forceLDP.1
theorem forceLDN_eq : forceLDN = forceLD:=forceLDP.2.symm
def forceHP : {g : Heap -> (Heap -> VC) -> VC // forceH = g}:=⟨_,by delta forceH; rfl⟩
def forceHN : Heap -> (Heap -> VC) -> VC:=forceHP.1
theorem forceHN_eq : forceHN = forceH:=forceHP.2.symm
def needsP : {g : List Cd -> VC -> VC // needs = g}:=⟨_,by delta needs; rfl⟩
def needsN : List Cd -> VC -> VC:=needsP.1
theorem needsN_eq : needsN = needs:=needsP.2.symm
def needsCP : {g : Bool -> List Cd -> VC -> VC // needsC = g}:=⟨_,by delta needsC; rfl⟩
def needsCN : Bool -> List Cd -> VC -> VC:=needsCP.1
theorem needsCN_eq : needsCN = needsC:=needsCP.2.symm
def forceTP : {g : List Cnd -> (List Cnd -> VC) -> VC // forceT = g}:=⟨_,by delta forceT; rfl⟩
def forceTN : List Cnd -> (List Cnd -> VC) -> VC:=forceTP.1
theorem forceTN_eq : forceTN = forceT:=forceTP.2.symm
def lenKP : {g : List Cnd -> (Nat -> VC) -> VC // lenK = g}:=⟨_,by delta lenK; rfl⟩
def lenKN : List Cnd -> (Nat -> VC) -> VC:=lenKP.1
theorem lenKN_eq : lenKN = lenK:=lenKP.2.symm
def topMP : {g : Nat -> List AV -> Nat -> (List AV -> VC) -> VC // topM = g}:=⟨_,by delta topM; rfl⟩
def topMN : Nat -> List AV -> Nat -> (List AV -> VC) -> VC:=topMP.1
theorem topMN_eq : topMN = topM:=topMP.2.symm
def setPsP : {g : List Nat -> List AV -> List AV -> (List AV -> VC) -> VC // setPs = g}:=⟨_,by delta setPs; rfl⟩
def setPsN : List Nat -> List AV -> List AV -> (List AV -> VC) -> VC:=setPsP.1
theorem setPsN_eq : setPsN = setPs:=setPsP.2.symm
def misOP : {g : Nat -> Nat -> List AV -> List AV -> Option (Nat × Nat) // misO = g}:=⟨_,by delta misO; rfl⟩
def misON : Nat -> Nat -> List AV -> List AV -> Option (Nat × Nat):=misOP.1
theorem misON_eq : misON = misO:=misOP.2.symm
def leAFP : {g : Nat -> Nat -> Heap -> Heap -> AV -> AV -> VC -> VC // leAF = g}:=⟨_,by delta leAF; rfl⟩
def leAFN : Nat -> Nat -> Heap -> Heap -> AV -> AV -> VC -> VC:=leAFP.1
theorem leAFN_eq : leAFN = leAF:=leAFP.2.symm
def leBFn (lo n : Nat) (src tgt : Heap) (a b : Blk) (k : VC) : VC :=
 match b with
 | .dead=>(match Nat.ble lo n with | true=>k | false=>(match a with | .dead=>k | _=>.fail))
 | .cells t m=>(match a with | .cells t' l=>(match decide (t = t') with | true=>leLW (leAFN 6 lo src tgt) l m k | false=>.fail) | _=>.fail)
 | .row e sz n el=>(match a with
   | .row e' sz' n' el'=>(match decide (e = e' /\ sz = sz') with | true=>.need ⟨fun z : Nat × Nat=>z.1 = z.2,(n'.val,n.val)⟩ (.need ⟨ElEq,(n.val,el',el)⟩ k) | false=>.fail)
   | _=>.fail)
 | .mat t w n f=>(match a with
   | .mat t' w' n' f'=>(match decide (t = t' /\ w = w') with | true=>.need ⟨fun z : Nat × Nat=>z.1 = z.2,(n'.val,n.val)⟩ (.need ⟨MatEq,(n.val,w,f',f)⟩ k) | false=>.fail)
   | _=>.fail)
 | .rows e e1 sz n fz ln el ho=>(match a with
   | .rows e' e1' sz' n' fz' ln' el' ho'=>(match decide (e = e' /\ e1 = e1' /\ sz = sz'),ho,ho' with
     | true,none,none=>.need ⟨fun z : Nat × Nat=>z.1 = z.2,(n'.val,n.val)⟩ (.need ⟨RowsEq,(n.val,none,(fz',ln',el'),(fz,ln,el))⟩ k)
     | true,some (q,oh),some (q',oh')=>(match oh,oh' with
       | none,_=>.need ⟨fun z : Nat × Nat=>z.1 = z.2,(n'.val,n.val)⟩ (.need ⟨fun z : Nat × Nat=>z.1 = z.2,(q',q)⟩ (.need ⟨RowsEq,(n.val,some q,(fz',ln',el'),(fz,ln,el))⟩ k))
       | some h,some h'=>(match Nat.beq h h' && aliveB tgt h with
         | true=>.need ⟨fun z : Nat × Nat=>z.1 = z.2,(n'.val,n.val)⟩ (.need ⟨fun z : Nat × Nat=>z.1 = z.2,(q',q)⟩ (.need ⟨RowsEq,(n.val,some q,(fz',ln',el'),(fz,ln,el))⟩ k))
         | false=>.fail)
       | some _,none=>.fail)
     | _,_,_=>.fail)
   | _=>.fail)
theorem leBFn_eq : leBFn = leBF:=by
 funext lo n src tgt a b k
 unfold leBFn leBF
 rw [leAFN_eq]
 rfl
def leHFn (lo : Nat) (src tgt : Heap) : Nat -> Heap -> Heap -> VC -> VC
 | _,[],[],k=>k
 | n,_ :: _,[],k=>(match Nat.ble lo n with | true=>k | false=>.fail)
 | n,a :: l,b :: m,k=>leBFn lo n src tgt a b (leHFn lo src tgt (n + 1) l m k)
 | _,[],_ :: _,_=>.fail
theorem leHFn_eq (lo : Nat) (src tgt : Heap) : ∀ (n : Nat) (l m : Heap) (k : VC),leHFn lo src tgt n l m k = leHF lo src tgt n l m k
 | n,[],[],k=>by simp only [leHFn,leHF]
 | n,_ :: _,[],k=>by simp only [leHFn,leHF]; rfl
 | n,a :: l,b :: m,k=>by simp only [leHFn,leHF,leBFn_eq,leHFn_eq lo src tgt (n + 1) l m k]
 | n,[],_ :: _,k=>by simp only [leHFn,leHF]
def leHFnP : {g : Nat -> Heap -> Heap -> Nat -> Heap -> Heap -> VC -> VC // leHFn = g}:=⟨_,by delta leHFn; rfl⟩
def leHFnN : Nat -> Heap -> Heap -> Nat -> Heap -> Heap -> VC -> VC:=leHFnP.1
theorem leHFnN_eq : leHFnN = leHFn:=leHFnP.2.symm
def leSFn (lo : Nat) (fr : List AV) (hp : Heap) (s : AS) : VC:=leLW (leAFN 6 lo hp s.hp) fr s.fr (leHFnN lo hp s.hp 0 hp s.hp .done)
theorem leSFn_eq (lo : Nat) (fr : List AV) (hp : Heap) (s : AS) : leSFn lo fr hp s = leSF lo fr hp s:=by
 unfold leSFn leSF
 rw [leAFN_eq,leHFnN_eq,leHFn_eq]
def hpLenK (hp : Heap) (k : Nat -> VC) : VC:=match hp with
 | []=>k 0
 | [_]=>k 1
 | [_,_]=>k 2
 | [_,_,_]=>k 3
 | [_,_,_,_]=>k 4
 | [_,_,_,_,_]=>k 5
 | [_,_,_,_,_,_]=>k 6
 | [_,_,_,_,_,_,_]=>k 7
 | [_,_,_,_,_,_,_,_]=>k 8
 | [_,_,_,_,_,_,_,_,_]=>k 9
 | [_,_,_,_,_,_,_,_,_,_]=>k 10
 | [_,_,_,_,_,_,_,_,_,_,_]=>k 11
 | [_,_,_,_,_,_,_,_,_,_,_,_]=>k 12
 | [_,_,_,_,_,_,_,_,_,_,_,_,_]=>k 13
 | [_,_,_,_,_,_,_,_,_,_,_,_,_,_]=>k 14
 | [_,_,_,_,_,_,_,_,_,_,_,_,_,_,_]=>k 15
 | [_,_,_,_,_,_,_,_,_,_,_,_,_,_,_,_]=>k 16
 | l=>k l.length
theorem hpLenK_eq (hp : Heap) (k : Nat -> VC) : hpLenK hp k = k hp.length:=by
 unfold hpLenK
 split <;> rfl
def swKn (lo : Nat) (f2 fr : List AV) (hp : Heap) (K : List AV -> Heap -> VC) : VC:=match misON lo hp.length f2 fr with
 | none=>K fr hp
 | some (i,j)=>forceLDN (swA.swL i j fr) fun fr'=>forceHN (swH i j hp) fun hp'=>K fr' hp'
theorem swKn_eq (lo : Nat) (f2 fr : List AV) (hp : Heap) (K : List AV -> Heap -> VC) : swKn lo f2 fr hp K = swK lo f2 fr hp K:=by
 unfold swKn swK
 rw [misON_eq,forceLDN_eq,forceHN_eq]
 rfl
def exKn (lo : Nat) (A : Ann) (m : Option Nat) (fr : List AV) (hp : Heap) : VC :=
 .ex (A:=A) A.dat m fun g=>forceL (A.st g).fr fun f2=>forceHN (A.st g).hp fun h2=>swKn lo f2 fr hp fun fr hp=>leSFn lo fr hp ⟨f2,h2⟩
theorem exKn_eq (lo : Nat) (A : Ann) (m : Option Nat) (fr : List AV) (hp : Heap) : exKn lo A m fr hp = exK lo A m fr hp:=by
 unfold exKn exK
 congr 1
 funext g
 simp only [forceHN_eq,swKn_eq,leSFn_eq]
def exRn (lo : Nat) (A : Ann) (i : Nat) (fr : List AV) (hp : Heap) : VC :=
 .ex (A:=A) A.dat none fun g=>.need ⟨fun z : Nat × Nat=>z.1 = z.2,(A.mu g,i)⟩ (forceL (A.st g).fr fun f2=>forceHN (A.st g).hp fun h2=>swKn lo f2 fr hp fun fr hp=>leSFn lo fr hp ⟨f2,h2⟩)
theorem exRn_eq (lo : Nat) (A : Ann) (i : Nat) (fr : List AV) (hp : Heap) : exRn lo A i fr hp = exR lo A i fr hp:=by
 unfold exRn exR
 congr 1
 funext g
 simp only [forceHN_eq,swKn_eq,leSFn_eq]
def nilKn : List (Nat × TypeId × Nat) -> List AV -> Heap -> (List AV -> Heap -> VC) -> VC
 | [],fr,hp,K=>K fr hp
 | (t,e,sz) :: l,fr,hp,K=>(match isNilS (getL fr t),sz with
   | true,_ + 1=>hpLenK hp fun n=>setF fr t (.row n) fun fr'=>forceHN (appH hp [.row e sz (.lit 0) (fun _=>[])]) fun hp'=>nilKn l fr' hp' K
   | _,_=>nilKn l fr hp K)
theorem nilKn_eq : ∀ (l : List (Nat × TypeId × Nat)) (fr : List AV) (hp : Heap) (K : List AV -> Heap -> VC),nilKn l fr hp K = nilK l fr hp K
 | [],_,_,_=>rfl
 | (t,e,sz) :: l,fr,hp,K=>by
   have ih : ∀ fr hp,nilKn l fr hp K = nilK l fr hp K:=fun fr hp=>nilKn_eq l fr hp K
   simp only [nilKn,nilK,forceHN_eq,hpLenK_eq,ih]
   rfl
def nilKnP : {g : List (Nat × TypeId × Nat) -> List AV -> Heap -> (List AV -> Heap -> VC) -> VC // nilKn = g}:=⟨_,by delta nilKn; rfl⟩
def nilKnN : List (Nat × TypeId × Nat) -> List AV -> Heap -> (List AV -> Heap -> VC) -> VC:=nilKnP.1
theorem nilKnN_eq : nilKnN = nilKn:=nilKnP.2.symm
def shiftAP : {g : Nat -> AV -> AV // shiftA = g}:=⟨_,by delta shiftA; rfl⟩
def shiftAN : Nat -> AV -> AV:=shiftAP.1
theorem shiftAN_eq : shiftAN = shiftA:=shiftAP.2.symm
def shiftA_shiftLP : {g : Nat -> List AV -> List AV // shiftA.shiftL = g}:=⟨_,by delta shiftA.shiftL; rfl⟩
def shiftA_shiftLN : Nat -> List AV -> List AV:=shiftA_shiftLP.1
theorem shiftA_shiftLN_eq : shiftA_shiftLN = shiftA.shiftL:=shiftA_shiftLP.2.symm
def shBP : {g : AV -> Bool // shB = g}:=⟨_,by delta shB; rfl⟩
def shBN : AV -> Bool:=shBP.1
theorem shBN_eq : shBN = shB:=shBP.2.symm
def shB_shBLP : {g : List AV -> Bool // shB.shBL = g}:=⟨_,by delta shB.shBL; rfl⟩
def shB_shBLN : List AV -> Bool:=shB_shBLP.1
theorem shB_shBLN_eq : shB_shBLN = shB.shBL:=shB_shBLP.2.symm
def plainAP : {g : AV -> Bool // plainA = g}:=⟨_,by delta plainA; rfl⟩
def plainAN : AV -> Bool:=plainAP.1
theorem plainAN_eq : plainAN = plainA:=plainAP.2.symm
def plainA_plainLP : {g : List AV -> Bool // plainA.plainL = g}:=⟨_,by delta plainA.plainL; rfl⟩
def plainA_plainLN : List AV -> Bool:=plainA_plainLP.1
theorem plainA_plainLN_eq : plainA_plainLN = plainA.plainL:=plainA_plainLP.2.symm
def shiftHn (b : Nat) : Heap -> Heap
 | []=>[]
 | .cells t c :: l=>.cells t (shiftA_shiftLN b c) :: shiftHn b l
 | x :: l=>x :: shiftHn b l
theorem shiftHn_eq (b : Nat) : ∀ l,shiftHn b l = shiftH b l
 | []=>rfl
 | .cells t c :: l=>by simp only [shiftHn,shiftH,shiftA_shiftLN_eq,shiftHn_eq b l]
 | .row _ _ _ _ :: l=>by simp only [shiftHn,shiftH,shiftHn_eq b l]
 | .mat _ _ _ _ :: l=>by simp only [shiftHn,shiftH,shiftHn_eq b l]
 | .rows _ _ _ _ _ _ _ _ :: l=>by simp only [shiftHn,shiftH,shiftHn_eq b l]
 | .dead :: l=>by simp only [shiftHn,shiftH,shiftHn_eq b l]
def plainHn : Heap -> Bool
 | []=>true
 | .dead :: l=>plainHn l
 | .cells _ c :: l=>plainA_plainLN c && plainHn l
 | .row _ _ _ _ :: l=>plainHn l
 | _ :: _=>false
theorem plainHn_eq : ∀ l,plainHn l = plainH l
 | []=>rfl
 | .cells t c :: l=>by simp only [plainHn,plainH,plainA_plainLN_eq,plainHn_eq l]
 | .row _ _ _ _ :: l=>by simp only [plainHn,plainH,plainHn_eq l]
 | .mat _ _ _ _ :: l=>by simp only [plainHn,plainH]
 | .rows _ _ _ _ _ _ _ _ :: l=>by simp only [plainHn,plainH]
 | .dead :: l=>by simp only [plainHn,plainH,plainHn_eq l]
def shBHn : Heap -> Bool
 | []=>true
 | .dead :: l=>shBHn l
 | .cells _ c :: l=>shB_shBLN c && shBHn l
 | .row _ _ _ _ :: l=>shBHn l
 | _ :: _=>false
theorem shBHn_eq : ∀ l,shBHn l = shBH l
 | []=>rfl
 | .cells t c :: l=>by simp only [shBHn,shBH,shB_shBLN_eq,shBHn_eq l]
 | .row _ _ _ _ :: l=>by simp only [shBHn,shBH,shBHn_eq l]
 | .mat _ _ _ _ :: l=>by simp only [shBHn,shBH]
 | .rows _ _ _ _ _ _ _ _ :: l=>by simp only [shBHn,shBH]
 | .dead :: l=>by simp only [shBHn,shBH,shBHn_eq l]
def callOKn (args : List AV) (res : AV) (new : Heap) : Bool:=match ownIn.ownInL args with | false=>shBN res && shBHn new | true=>plainAN res && plainHn new
theorem callOKn_eq : callOKn = callOK:=by
 funext args res new
 unfold callOKn callOK
 simp only [shBN_eq,shBHn_eq,plainAN_eq,plainHn_eq]
 rfl
def vcCn (S : Sums) (k : Nat) (c : Bool) (r : AR) (hp : Heap) (K : Heap -> AV -> VC) : VC :=
 match r with
 | .val a=>forceD a fun a'=>K hp (.gd k a')
 | .need p r=>.need (p.under c) (vcCn S k c r hp K)
 | .br b t e=>.branch b (vcCn S k c t hp K) (vcCn S k c e hp K)
 | .blk b mk=>hpLenK hp fun n=>forceHN (appH hp [b]) fun hp'=>K hp' (.gd k (mk n))
 | .call f args=>(match findS S.two f with
   | some _=>.fail
   | none=>(match findS S.one f with
     | some s1=>forceLDN (mapE hp args) fun args'=>(match s1 args' with
       | some ⟨pre,res,new⟩=>(match callOKn args res new with
         | true=>needsCN c pre (needsCN c (callNeeds args new) (hpLenK hp fun n=>forceHN (appH hp (shiftHn n new)) fun hp'=>forceD (shiftAN n res) fun a=>K hp' (.gd k a)))
         | false=>.fail)
       | none=>.fail)
     | none=>.fail))
 | _=>.fail
theorem vcCn_eq (S : Sums) (k : Nat) (c : Bool) : ∀ (r : AR) (hp : Heap) (K : Heap -> AV -> VC),vcCn S k c r hp K = r.vcC S k c hp K
 | .fail,_,_=>rfl
 | .val a,_,_=>rfl
 | .need p r,hp,K=>by simp only [vcCn,AR.vcC,vcCn_eq S k c r hp K]
 | .br b t e,hp,K=>by simp only [vcCn,AR.vcC,vcCn_eq S k c t hp K,vcCn_eq S k c e hp K]
 | .blk b mk,hp,K=>by simp only [vcCn,AR.vcC,forceHN_eq,hpLenK_eq]
 | .upd _ _,_,_=>rfl
 | .grow _ _,_,_=>rfl
 | .frz _ _ _,_,_=>rfl
 | .call f args,hp,K=>by simp only [vcCn,AR.vcC,forceHN_eq,hpLenK_eq,forceLDN_eq,needsCN_eq,callOKn_eq,shiftHn_eq,shiftAN_eq]; rfl
def vcCnP : {g : Sums -> Nat -> Bool -> AR -> Heap -> (Heap -> AV -> VC) -> VC // vcCn = g}:=⟨_,by delta vcCn; rfl⟩
def vcCnN : Sums -> Nat -> Bool -> AR -> Heap -> (Heap -> AV -> VC) -> VC:=vcCnP.1
theorem vcCnN_eq : vcCnN = vcCn:=vcCnP.2.symm
end
end Abs
end Go.Proofs.YtlacopdaibhkkaaGreat

namespace Go.Proofs.YtlacopdaibhkkaaGreat
namespace Abs
open Go Go.RowKit
noncomputable section
abbrev FT:=List (List AV)
def flatT : FT -> List AV
 | []=>[]
 | c :: t=>c ++ flatT t
def WT : FT -> Prop
 | []=>True
 | c :: t=>(c.length <= 16 /\ (t ≠ [] -> c.length = 16)) /\ WT t
def getLL (t : FT) : Nat -> List AV :=
 List.rec (motive:=fun _=>Nat -> List AV) (fun _=>[]) (fun c _ ih n=>Nat.rec (motive:=fun _=>List AV) c (fun m _=>ih m) n) t
theorem getLL_nil (n : Nat) : getLL [] n = []:=rfl
theorem getLL_zero (c : List AV) (t : FT) : getLL (c :: t) 0 = c:=rfl
theorem getLL_succ (c : List AV) (t : FT) (n : Nat) : getLL (c :: t) (n + 1) = getLL t n:=rfl
def getT (t : FT) (j : Nat) : AV:=getL (getLL t (Nat.div j 16)) (Nat.mod j 16)
def setC (l : List AV) : Nat -> AV -> (List AV -> VC) -> VC :=
 List.rec (motive:=fun _=>Nat -> AV -> (List AV -> VC) -> VC) (fun _ _ _=>.fail)
  (fun x l ih n a k=>Nat.rec (motive:=fun _=>VC) (k (a :: l)) (fun m _=>ih m a fun l'=>k (x :: l')) n) l
theorem setC_nil (n : Nat) (a : AV) (k : List AV -> VC) : setC [] n a k = .fail:=rfl
theorem setC_zero (x : AV) (l : List AV) (a : AV) (k : List AV -> VC) : setC (x :: l) 0 a k = k (a :: l):=rfl
theorem setC_succ (x : AV) (l : List AV) (n : Nat) (a : AV) (k : List AV -> VC) : setC (x :: l) (n + 1) a k = setC l n a fun l'=>k (x :: l'):=rfl
def setLL (t : FT) : Nat -> Nat -> AV -> (FT -> VC) -> VC :=
 List.rec (motive:=fun _=>Nat -> Nat -> AV -> (FT -> VC) -> VC) (fun _ _ _ _=>.fail)
  (fun c t ih q r a k=>Nat.rec (motive:=fun _=>VC) (setC c r a fun c'=>k (c' :: t)) (fun m _=>ih m r a fun t'=>k (c :: t')) q) t
theorem setLL_nil (q r : Nat) (a : AV) (k : FT -> VC) : setLL [] q r a k = .fail:=rfl
theorem setLL_zero (c : List AV) (t : FT) (r : Nat) (a : AV) (k : FT -> VC) : setLL (c :: t) 0 r a k = setC c r a fun c'=>k (c' :: t):=rfl
theorem setLL_succ (c : List AV) (t : FT) (q r : Nat) (a : AV) (k : FT -> VC) : setLL (c :: t) (q + 1) r a k = setLL t q r a fun t'=>k (c :: t'):=rfl
def setFT (t : FT) (d : Nat) (a : AV) (k : FT -> VC) : VC:=setLL t (Nat.div d 16) (Nat.mod d 16) a k
def setKT (t : FT) (d : Option Nat) (a : AV) (k : FT -> VC) : VC :=
 match d with
 | none=>k t
 | some d=>forceV a fun a'=>setFT t d a' k
def mapT (f : Nat -> Option AV) : FT -> (FT -> VC) -> VC
 | [],k=>k []
 | c :: t,k=>forceLDN (mapR.mapRL f c) fun c'=>mapT f t fun t'=>k (c' :: t')
def mapTP : {g : (Nat -> Option AV) -> FT -> (FT -> VC) -> VC // mapT = g}:=⟨_,by delta mapT; rfl⟩
def mapTN : (Nat -> Option AV) -> FT -> (FT -> VC) -> VC:=mapTP.1
theorem mapTN_eq : mapTN = mapT:=mapTP.2.symm
def cleanFT : FT -> (FT -> VC) -> VC
 | [],k=>k []
 | c :: t,k=>cleanF c fun c'=>cleanFT t fun t'=>k (c' :: t')
def cleanFTP : {g : FT -> (FT -> VC) -> VC // cleanFT = g}:=⟨_,by delta cleanFT; rfl⟩
def cleanFTN : FT -> (FT -> VC) -> VC:=cleanFTP.1
theorem cleanFTN_eq : cleanFTN = cleanFT:=cleanFTP.2.symm
section
variable {R : AV -> Heap -> Prop}
theorem getL_app (l m : List AV) (n : Nat) : getL (l ++ m) n = if n < l.length then getL l n else getL m (n - l.length):=by
 rw [getL_eq,getL_eq,getL_eq]
 split
 ·rename_i h
  rw [List.getD_eq_getElem?_getD,List.getD_eq_getElem?_getD,List.getElem?_append_left h]
 ·rename_i h
  rw [List.getD_eq_getElem?_getD,List.getD_eq_getElem?_getD,List.getElem?_append_right (by omega)]
theorem getL_big {l : List AV} {n : Nat} (h : l.length <= n) : getL l n = .tup []:=by
 rw [getL_eq,List.getD_eq_getElem?_getD,List.getElem?_eq_none h]; rfl
theorem setL_app {l m : List AV} {n : Nat} {a : AV} : setL (l ++ m) n a = if n < l.length then setL l n a ++ m else l ++ setL m (n - l.length) a:=by
 rw [setL_eq,setL_eq,setL_eq,List.set_append]
theorem getT_at : ∀ {t : FT},WT t -> ∀ q r,r < 16 -> getL (flatT t) (16 * q + r) = getL (getLL t q) r
 | [],_,q,r,_=>by rw [getLL_nil]; rfl
 | c :: t,hw,0,r,hr=>by
   rw [getLL_zero]
   show getL (c ++ flatT t) (16 * 0 + r) = getL c r
   rw [getL_app,Nat.mul_zero,Nat.zero_add]
   split
   ·rfl
   ·rename_i h
    by_cases ht : t = []
    ·subst ht; rw [getL_big (l:=c) (by omega)]; rfl
    ·have:=hw.1.2 ht; omega
 | c :: t,hw,q + 1,r,hr=>by
   rw [getLL_succ]
   show getL (c ++ flatT t) (16 * (q + 1) + r) = _
   rw [getL_app]
   have h1:=hw.1.1
   rw [if_neg (by omega)]
   by_cases ht : t = []
   ·subst ht; rw [getLL_nil]; rfl
   ·have h16:=hw.1.2 ht
    rw [show 16 * (q + 1) + r - c.length = 16 * q + r by omega]
    exact getT_at hw.2 q r hr
theorem getT_eq {t : FT} (hw : WT t) (j : Nat) : getT t j = getL (flatT t) j:=by
 unfold getT
 have h1 : Nat.div j 16 = j / 16:=rfl
 have h2 : Nat.mod j 16 = j % 16:=rfl
 rw [h1,h2,<- getT_at hw _ _ (Nat.mod_lt _ (by decide)),Nat.div_add_mod]
theorem setC_sat : ∀ {l : List AV} {n : Nat} {a : AV} {k : List AV -> VC},(setC l n a k).sat R -> n < l.length /\ (k (setL l n a)).sat R
 | [],n,a,k,h=>by rw [setC_nil] at h; exact h.elim
 | x :: l,0,a,k,h=>by rw [setC_zero] at h; exact ⟨by simp,h⟩
 | x :: l,n + 1,a,k,h=>by
   rw [setC_succ] at h
   obtain ⟨h1,h2⟩:=setC_sat h
   exact ⟨by simp; omega,h2⟩
theorem setLL_sat : ∀ {t : FT} {q r : Nat} {a : AV} {k : FT -> VC},WT t -> (setLL t q r a k).sat R -> t ≠ [] /\ ∃ t',WT t' /\ t' ≠ [] /\ flatT t' = setL (flatT t) (16 * q + r) a /\ (k t').sat R
 | [],q,r,a,k,_,h=>by rw [setLL_nil] at h; exact h.elim
 | c :: t,0,r,a,k,hw,h=>by
   rw [setLL_zero] at h
   obtain ⟨h1,h2⟩:=setC_sat h
   refine ⟨by simp,setL c r a :: t,⟨by rw [len_setL]; exact hw.1,hw.2⟩,by simp,?_,h2⟩
   show setL c r a ++ flatT t = setL (c ++ flatT t) (16 * 0 + r) a
   rw [setL_app,if_pos (by omega),Nat.mul_zero,Nat.zero_add]
 | c :: t,q + 1,r,a,k,hw,h=>by
   rw [setLL_succ] at h
   obtain ⟨h0,t',h1,h2,h3,h4⟩:=setLL_sat hw.2 h
   have h16:=hw.1.2 h0
   refine ⟨by simp,c :: t',⟨⟨hw.1.1,fun _=>h16⟩,h1⟩,by simp,?_,h4⟩
   show c ++ flatT t' = setL (c ++ flatT t) (16 * (q + 1) + r) a
   rw [setL_app,if_neg (by omega),h3,show 16 * (q + 1) + r - c.length = 16 * q + r by omega]
theorem setFT_sat {t : FT} {d : Nat} {a : AV} {k : FT -> VC} (hw : WT t) (h : (setFT t d a k).sat R) : ∃ t',WT t' /\ flatT t' = setL (flatT t) d a /\ (k t').sat R:=by
 obtain ⟨_,t',h1,_,h3,h4⟩:=setLL_sat hw h
 refine ⟨t',h1,?_,h4⟩
 rw [h3,show 16 * Nat.div d 16 + Nat.mod d 16 = d from Nat.div_add_mod d 16]
theorem setKT_sat {t : FT} {d : Option Nat} {a : AV} {k : FT -> VC} (hw : WT t) (h : (setKT t d a k).sat R) : ∃ t',WT t' /\ flatT t' = setO (flatT t) d a /\ (k t').sat R:=by
 cases d with
 | none=>exact ⟨t,hw,rfl,h⟩
 | some d =>
   simp only [setKT,forceV_eq] at h
   exact setFT_sat hw h
theorem mapRL_cat (f : Nat -> Option AV) : ∀ (l m : List AV),mapR.mapRL f (l ++ m) = mapR.mapRL f l ++ mapR.mapRL f m
 | [],_=>rfl
 | a :: l,m=>by simp [mapR.mapRL,mapRL_cat f l m]
theorem mapRL_len16 (f : Nat -> Option AV) : ∀ (l : List AV),(mapR.mapRL f l).length = l.length
 | []=>rfl
 | a :: l=>by simp [mapR.mapRL,mapRL_len16 f l]
theorem mapT_sat {f : Nat -> Option AV} : ∀ {t : FT} {k : FT -> VC},WT t -> (mapT f t k).sat R -> ∃ t',WT t' /\ (t' = [] ↔ t = []) /\ flatT t' = mapR.mapRL f (flatT t) /\ (k t').sat R
 | [],k,_,h=>⟨[],trivial,by simp,rfl,h⟩
 | c :: t,k,hw,h=>by
   simp only [mapT,forceLDN_eq,forceLD_eq] at h
   obtain ⟨t',h1,h2,h3,h4⟩:=mapT_sat hw.2 h
   refine ⟨mapR.mapRL f c :: t',⟨⟨by rw [mapRL_len16]; exact hw.1.1,fun hn=>by rw [mapRL_len16]; exact hw.1.2 fun e=>hn (h2.2 e)⟩,h1⟩,by simp,?_,h4⟩
   show mapR.mapRL f c ++ flatT t' = mapR.mapRL f (c ++ flatT t)
   rw [mapRL_cat,h3]
theorem cleanL_app : ∀ (l m : List AV),cleanL (l ++ m) = cleanL l ++ cleanL m
 | [],_=>rfl
 | a :: l,m=>by simp [cleanL,cleanL_app l m]
theorem cleanL_length : ∀ (l : List AV),(cleanL l).length = l.length
 | []=>rfl
 | a :: l=>by simp [cleanL,cleanL_length l]
theorem cleanFT_sat : ∀ {t : FT} {k : FT -> VC},WT t -> (cleanFT t k).sat R -> ∃ t',WT t' /\ (t' = [] ↔ t = []) /\ flatT t' = cleanL (flatT t) /\ (k t').sat R
 | [],k,_,h=>⟨[],trivial,by simp,rfl,h⟩
 | c :: t,k,hw,h=>by
   simp only [cleanFT,cleanF_eq] at h
   obtain ⟨t',h1,h2,h3,h4⟩:=cleanFT_sat hw.2 h
   refine ⟨cleanL c :: t',⟨⟨by rw [cleanL_length]; exact hw.1.1,fun hn=>by rw [cleanL_length]; exact hw.1.2 fun e=>hn (h2.2 e)⟩,h1⟩,by simp,?_,h4⟩
   show cleanL c ++ flatT t' = cleanL (c ++ flatT t)
   rw [cleanL_app,h3]
theorem needs_mono {X Y : VC} (h : X.sat R -> Y.sat R) : ∀ {l : List Cd},(needs l X).sat R -> (needs l Y).sat R
 | [],hx=>h hx
 | p :: l,hx=>⟨hx.1,needs_mono h hx.2⟩
end
def AR.vcT (S : Sums) (nb : Bool) (r : AR) (fr : FT) (hp : Heap) (K : FT -> Heap -> AV -> VC) : VC :=
 match r with
 | .fail=>.fail
 | .val a=>forceD a (K fr hp)
 | .need p r=>.need p (r.vcT S nb fr hp K)
 | .br b t e=>.branch b (t.vcT S nb fr hp K) (e.vcT S nb fr hp K)
 | .blk b mk=>hpLenK hp fun n=>forceHN (appH hp [b]) fun hp'=>K fr hp' (mk n)
 | .upd i b=>(match nb with
   | true=>forceHN (setB hp i b) fun hp'=>K fr hp' (.tup [])
   | false=>.fail)
 | .grow i b=>(match nb && Nat.ble S.lo i with
   | true=>mapTN (at1 i .top) fr fun fr'=>forceHN (setB (mapH (at1 i .top) hp) i b) fun hp'=>K fr' hp' (.row i)
   | false=>.fail)
 | .frz j a r=>(match nb && Nat.ble S.lo j with
   | true=>mapTN (at1 j a) fr fun fr'=>forceHN (setB (mapH (at1 j a) hp) j .dead) fun hp'=>r.vcT S nb fr' hp' K
   | false=>.fail)
 | .call f args=>(match findS S.two f with
   | some s2=>(match nb && noRowsH hp,s2 args hp with
     | true,some ⟨pre,res,hp2⟩=>(match Nat.ble hp.length hp2.length with
       | true=>needsN pre (forceHN hp2 fun hp'=>forceD res (K fr hp'))
       | false=>.fail)
     | _,_=>.fail)
   | none=>(match findS S.one f with
     | some s1=>forceLDN (mapE hp args) fun args'=>(match s1 args' with
       | some ⟨pre,res,new⟩=>(match callOKn args res new with
         | true=>needsN pre (needsN (callNeeds args new) (hpLenK hp fun n=>forceHN (appH hp (shiftHn n new)) fun hp'=>forceD (shiftAN n res) (K fr hp')))
         | false=>.fail)
       | none=>.fail)
     | none=>.fail))
def AR_vcTP : {g : Sums -> Bool -> AR -> FT -> Heap -> (FT -> Heap -> AV -> VC) -> VC // AR.vcT = g}:=⟨_,by delta AR.vcT; rfl⟩
def AR_vcTN : Sums -> Bool -> AR -> FT -> Heap -> (FT -> Heap -> AV -> VC) -> VC:=AR_vcTP.1
theorem AR_vcTN_eq : AR_vcTN = AR.vcT:=AR_vcTP.2.symm
section
variable {R : AV -> Heap -> Prop} {P : Program} {S : Sums}
theorem vcT_sat {nb : Bool} {K : List AV -> Heap -> AV -> VC} {KT : FT -> Heap -> AV -> VC} (hK : ∀ t hp a,WT t -> (KT t hp a).sat R -> (K (flatT t) hp a).sat R) :
  ∀ {r : AR} {t : FT} {hp : Heap},WT t -> (r.vcT S nb t hp KT).sat R -> (r.vc S nb (flatT t) hp K).sat R
 | .fail,_,_,_,h=>h
 | .val a,t,hp,hw,h=>by
   simp only [AR.vcT,AR.vc,forceD_eq] at h ⊢
   exact hK _ _ _ hw h
 | .need p r,t,hp,hw,h=>by
   simp only [AR.vcT,AR.vc,forceHN_eq,hpLenK_eq,forceLDN_eq,needsN_eq,mapTN_eq,callOKn_eq,shiftHn_eq,shiftAN_eq] at h ⊢
   exact ⟨h.1,vcT_sat hK hw h.2⟩
 | .br b r1 r2,t,hp,hw,h=>by
   simp only [AR.vcT,AR.vc,forceHN_eq,hpLenK_eq,forceLDN_eq,needsN_eq,mapTN_eq,callOKn_eq,shiftHn_eq,shiftAN_eq] at h ⊢
   exact ⟨fun hb=>vcT_sat hK hw (h.1 hb),fun hb=>vcT_sat hK hw (h.2 hb)⟩
 | .blk b mk,t,hp,hw,h=>by
   simp only [AR.vcT,AR.vc,forceHN_eq,hpLenK_eq,forceH_eq] at h ⊢
   exact hK _ _ _ hw h
 | .upd i b,t,hp,hw,h=>by
   simp only [AR.vcT,AR.vc,forceHN_eq,hpLenK_eq,forceLDN_eq,needsN_eq,mapTN_eq,callOKn_eq,shiftHn_eq,shiftAN_eq] at h ⊢
   split at h
   ·simp only [forceH_eq] at h ⊢
    exact hK _ _ _ hw h
   ·exact h.elim
 | .grow i b,t,hp,hw,h=>by
   simp only [AR.vcT,AR.vc,forceHN_eq,hpLenK_eq,forceLDN_eq,needsN_eq,mapTN_eq,callOKn_eq,shiftHn_eq,shiftAN_eq] at h ⊢
   split at h
   ·rename_i e
    rw [e]
    simp only [forceLD_eq]
    obtain ⟨t',h1,_,h3,h4⟩:=mapT_sat hw h
    simp only [forceH_eq] at h4 ⊢
    rw [<- h3]
    exact hK _ _ _ h1 h4
   ·exact h.elim
 | .frz j a r,t,hp,hw,h=>by
   simp only [AR.vcT,AR.vc,forceHN_eq,hpLenK_eq,forceLDN_eq,needsN_eq,mapTN_eq,callOKn_eq,shiftHn_eq,shiftAN_eq] at h ⊢
   split at h
   ·rename_i e
    rw [e]
    simp only [forceLD_eq]
    obtain ⟨t',h1,_,h3,h4⟩:=mapT_sat hw h
    simp only [forceH_eq] at h4 ⊢
    rw [<- h3]
    exact vcT_sat hK h1 h4
   ·exact h.elim
 | .call f args,t,hp,hw,h=>by
   simp only [AR.vcT,AR.vc,forceHN_eq,hpLenK_eq,forceLDN_eq,needsN_eq,mapTN_eq,callOKn_eq,shiftHn_eq,shiftAN_eq] at h ⊢
   split at h
   ·rename_i s2 e
    rw [e]
    simp only
    split at h
    ·rename_i pre res hp2 e0 e2
     rw [e0,e2]
     simp only
     split at h
     ·rename_i e3
      rw [e3]
      simp only [forceH_eq,forceD_eq] at h ⊢
      exact needs_mono (hK _ _ _ hw) h
     ·exact h.elim
    ·exact h.elim
   ·rename_i e
    rw [e]
    simp only
    split at h
    ·rename_i s1 e1
     rw [e1]
     simp only [forceLD_eq] at h ⊢
     split at h
     ·rename_i pre res new e2
      rw [e2]
      simp only
      split at h
      ·rename_i e3
       rw [e3]
       simp only [forceH_eq,forceD_eq] at h ⊢
       exact needs_mono (needs_mono (hK _ _ _ hw)) h
      ·exact h.elim
     ·exact h.elim
    ·exact h.elim
end
end
end Abs
end Go.Proofs.YtlacopdaibhkkaaGreat

namespace Go.Proofs.YtlacopdaibhkkaaGreat
namespace Abs
open Go Go.RowKit
noncomputable section
def evT (t : FT) : Operand -> AV
 | .tmp i=>getT t i
 | x=>ev [] x
def branchKT (t : FT) (d : Nat) (K : Bool -> FT -> VC) : VC :=
 match getT t d with
 | .lb true=>K true t
 | .lb false=>K false t
 | .sb b=>.branch b (setFT t d (.lb true) (K true)) (setFT t d (.lb false) (K false))
 | _=>.fail
def forceMT (anc : List Nat) (t : FT) : List Nat -> (List (Nat × AV) -> VC) -> VC
 | [],k=>k []
 | i :: l,k=>forceV (unGd anc (getT t i)) fun a=>forceMT anc t l fun m=>k ((i,a) :: m)
def forceMTP : {g : List Nat -> FT -> List Nat -> (List (Nat × AV) -> VC) -> VC // forceMT = g}:=⟨_,by delta forceMT; rfl⟩
def forceMTN : List Nat -> FT -> List Nat -> (List (Nat × AV) -> VC) -> VC:=forceMTP.1
theorem forceMTN_eq : forceMTN = forceMT:=forceMTP.2.symm
def runOpT (P : Program) (S : Sums) (nb : Bool) (ctx : Ctx) (T : List Cnd) (o : Oper) (fr : FT) (hp : Heap) (K : FT -> Heap -> VC) : VC :=
 match o.op with
 | .pick c a b=>forceV (evT fr c) fun c'=>forceV (evT fr a) fun a'=>forceV (evT fr b) fun b'=>pickK ctx T c' a' b' fun r=>setKT fr o.dst r fun fr'=>K fr' hp
 | op=>(match ctx with
   | none=>forceMTN [] fr (tmpsO (opnds op)) fun m=>AR_vcTN S (turnOp op && nb) (aop P S (evM m) hp op) fr hp fun fr' hp' a=>setKT fr' o.dst (noGd a) fun fr''=>K fr'' hp'
   | some (k,⟨_,_,c,anc⟩)=>forceMTN anc fr (tmpsO (opnds op)) fun m=>vcCnN S k c (aop P S (evM m) hp op) hp fun hp' a=>setKT fr o.dst a fun fr'=>K fr' hp')
def lateIT (o : Oper) (fr : FT) : Bool:=match o.op with
 | .call c=>(match c.callee,c.args.toList with
   | .builtin .append,[.tmp t,_]=>(match getT fr t with | .row _=>true | _=>false)
   | _,_=>false)
 | _=>false
def runLateT (P : Program) (S : Sums) (o : Oper) (fr : FT) (hp : Heap) (K : Nat -> FT -> Heap -> VC) : VC :=
 forceMTN [] fr (tmpsO (opnds o.op)) fun m=>(match growOf (aop P S (evM m) hp o.op) with
  | some i=>AR_vcTN S true (aop P S (evM m) hp o.op) fr hp fun fr' hp' a=>setKT fr' o.dst (noGd a) fun fr''=>K i fr'' hp'
  | none=>.fail)
def cleanTT (i : Nat) (fr : FT) : List Nat -> Bool
 | []=>true
 | t :: l=>!(hasO i (getT fr t)) && cleanTT i fr l
def cleanDT (i : Nat) (d : Option Nat) (fr : FT) (n : Nat) (hp : Heap) : Bool:=(match d with | none=>true | some d=>!(hasO i (getT fr d))) && !(hasOH i (dropH hp n))
def splKT (sp : Bool) (d : Option Nat) (fr : FT) (k : FT -> VC) : VC :=
 match sp with
 | false=>k fr
 | true=>(match d with
   | none=>k fr
   | some d=>(match getT fr d with
     | .sb b=>.branch b (setFT fr d (.lb true) k) (setFT fr d (.lb false) k)
     | _=>k fr))
def runOpsT (P : Program) (S : Sums) (dr : Bool) (all : List Oper) : Option (Nat × Nat) -> Nat -> List Oper -> List Cnd -> FT -> Heap -> (FT -> Heap -> VC) -> VC
 | Z,n,[],_,fr,hp,K=>(match Z with
   | none=>cleanFTN fr fun fr'=>K fr' hp
   | some (_,u)=>(match Nat.ble u n with | true=>cleanFTN fr fun fr'=>K fr' hp | false=>.fail))
 | some (i,u),n,o :: rest,T,fr,hp,K=>(match Nat.blt n u with
   | false=>.fail
   | true=>(match o.guard,T,cleanTT i fr (looksL all o) with
     | none,[],true=>runOpT P S false none [] o fr hp fun fr' hp'=>(match cleanDT i o.dst fr' hp.length hp' with
       | true=>(match Nat.beq (n + 1) u with
         | true=>runOpsT P S dr all none (n + 1) rest [] fr' hp' K
         | false=>runOpsT P S dr all (some (i,u)) (n + 1) rest [] fr' hp' K)
       | false=>.fail)
     | _,_,_=>.fail))
 | none,n,o :: rest,T,fr,hp,K =>
   match o.guard with
   | none=>(match dr,T,lateIT o fr with
     | true,[],true=>(match barAt true all n with
       | true=>runOpT P S true none T o fr hp fun fr' hp'=>runOpsT P S dr all none (n + 1) rest T fr' hp' K
       | false=>(match befAt all n,Nat.blt (n + 1) (lateN all n) with
         | true,true=>runLateT P S o fr hp fun i fr' hp'=>runOpsT P S dr all (some (i,lateN all n)) (n + 1) rest T fr' hp' K
         | _,_=>.fail))
     | _,_,_=>runOpT P S (barX P S dr all n T o (getT fr)) none T o fr hp fun fr' hp'=>splKT (splB S n o all) o.dst fr' fun fr'=>runOpsT P S dr all none (n + 1) rest T fr' hp' K)
   | some (j,want)=>(match findC j want T 0 with
     | some kx=>runOpT P S (barAt dr all n) (some kx) T o fr hp fun fr' hp'=>runOpsT P S dr all none (n + 1) rest T fr' hp' K
     | none=>(match dstOf all j with
       | none=>.fail
       | some d=>(match getT fr d with
         | .tup []=>setKT fr o.dst (.tup []) fun fr'=>runOpsT P S dr all none (n + 1) rest T fr' hp K
         | .lb b=>(match b == want with
           | true=>runOpT P S (barAt dr all n) none T o fr hp fun fr' hp'=>runOpsT P S dr all none (n + 1) rest T fr' hp' K
           | false=>setKT fr o.dst (.tup []) fun fr'=>runOpsT P S dr all none (n + 1) rest T fr' hp K)
         | .sb b=>boolW want b fun c=>lenKN T fun lt=>forceTN (addC T ⟨j,want,c,[lt]⟩) fun T' =>
           runOpT P S (barAt dr all n) (some (lt,⟨j,want,c,[lt]⟩)) T' o fr hp fun fr' hp'=>runOpsT P S dr all none (n + 1) rest T' fr' hp' K
         | .gd p (.lb b)=>(match b == want,T[p]? with
           | true,some x=>runOpT P S (barAt dr all n) (some (p,x)) T o fr hp fun fr' hp'=>runOpsT P S dr all none (n + 1) rest T fr' hp' K
           | false,some _=>setKT fr o.dst (.tup []) fun fr'=>runOpsT P S dr all none (n + 1) rest T fr' hp K
           | _,none=>.fail)
         | .gd p (.sb b)=>(match T[p]? with
           | none=>.fail
           | some ⟨_,_,cx,anc⟩=>boolW want b fun c=>lenKN T fun lt=>forceTN (addC T ⟨j,want,band cx c,lt :: anc⟩) fun T' =>
             runOpT P S (barAt dr all n) (some (lt,⟨j,want,band cx c,lt :: anc⟩)) T' o fr hp fun fr' hp' =>
              runOpsT P S dr all none (n + 1) rest T' fr' hp' K)
         | _=>.fail)))
def runOpsTP : {g : Program -> Sums -> Bool -> List Oper -> Option (Nat × Nat) -> Nat -> List Oper -> List Cnd -> FT -> Heap -> (FT -> Heap -> VC) -> VC // runOpsT = g}:=⟨_,by delta runOpsT; rfl⟩
def runOpsTN : Program -> Sums -> Bool -> List Oper -> Option (Nat × Nat) -> Nat -> List Oper -> List Cnd -> FT -> Heap -> (FT -> Heap -> VC) -> VC:=runOpsTP.1
theorem runOpsTN_eq : runOpsTN = runOpsT:=runOpsTP.2.symm
section
variable {R : AV -> Heap -> Prop} {P : Program} {S : Sums} {t : FT}
theorem evT_eq (hw : WT t) (x : Operand) : evT t x = ev (flatT t) x:=by
 cases x with
 | tmp i=>exact getT_eq hw i
 | const v=>cases v <;> rfl
 | global g=>rfl
 | func f=>rfl
theorem branchKT_sat {d : Nat} {K : Bool -> List AV -> VC} {KT : Bool -> FT -> VC} (hK : ∀ b t,WT t -> (KT b t).sat R -> (K b (flatT t)).sat R) (hw : WT t) (h : (branchKT t d KT).sat R) : (branchK (flatT t) d K).sat R:=by
 unfold branchKT at h
 unfold branchK
 rw [getT_eq hw] at h
 split at h
 ·rename_i e; rw [e]; exact hK _ _ hw h
 ·rename_i e; rw [e]; exact hK _ _ hw h
 ·rename_i b e
  rw [e]
  refine ⟨fun hb=>?_,fun hb=>?_⟩
  ·obtain ⟨t',h1,h2,h3⟩:=setFT_sat hw (h.1 hb)
   rw [setF_eq,<- h2]; exact hK _ _ h1 h3
  ·obtain ⟨t',h1,h2,h3⟩:=setFT_sat hw (h.2 hb)
   rw [setF_eq,<- h2]; exact hK _ _ h1 h3
 ·exact h.elim
theorem forceMT_eq (hw : WT t) (anc : List Nat) : ∀ (l : List Nat) (k : List (Nat × AV) -> VC),forceMT anc t l k = forceM anc (flatT t) l k
 | [],_=>rfl
 | i :: l,k=>by
   simp only [forceMT,forceM,getT_eq hw]
   congr 1
   funext a
   exact forceMT_eq hw anc l _
theorem setKT_mono {d : Option Nat} {a : AV} {K : List AV -> VC} {KT : FT -> VC} (hK : ∀ t,WT t -> (KT t).sat R -> (K (flatT t)).sat R) (hw : WT t) (h : (setKT t d a KT).sat R) : (setK (flatT t) d a K).sat R:=by
 obtain ⟨t',h1,h2,h3⟩:=setKT_sat hw h
 rw [setK_eq,<- h2]
 exact hK _ h1 h3
theorem needsC_mono {X Y : VC} (c : Bool) (h : X.sat R -> Y.sat R) : ∀ {l : List Cd},(needsC c l X).sat R -> (needsC c l Y).sat R
 | [],hx=>h hx
 | p :: l,hx=>⟨hx.1,needsC_mono c h hx.2⟩
theorem needO_mono {ctx : Ctx} {cb w : Bool} {g : Option Bool} {X Y : VC} (h : X.sat R -> Y.sat R) (hx : (needO ctx cb w g X).sat R) : (needO ctx cb w g Y).sat R:=by
 unfold needO at hx ⊢
 cases g with
 | none=>exact h hx
 | some y =>
   cases ctx with
   | none=>exact ⟨hx.1,h hx.2⟩
   | some z=>obtain ⟨k,c⟩:=z; exact ⟨hx.1,h hx.2⟩
theorem pickK_mono {ctx : Ctx} {T : List Cnd} {c a b : AV} {k1 k2 : AV -> VC} (hk : ∀ r,(k1 r).sat R -> (k2 r).sat R) (h : (pickK ctx T c a b k1).sat R) : (pickK ctx T c a b k2).sat R:=by
 unfold pickK at h ⊢
 split at h
 ·rename_i e
  try rw [e]
  try simp only at h ⊢
  split at h
  ·exact h.elim
  ·rename_i e2
   simp only [forceD_eq] at h ⊢
   exact hk _ h
 ·rename_i e
  try rw [e]
  try simp only at h ⊢
  split at h
  ·exact h.elim
  ·rename_i e2
   simp only [forceD_eq] at h ⊢
   exact hk _ h
 ·rename_i cb e
  try rw [e]
  try simp only at h ⊢
  split at h
  ·rename_i a' ga b' gb e1 e2
   try rw [e1,e2]
   try simp only
   refine needO_mono (needO_mono fun hh=>?_) h
   split at hh <;> first | exact hk _ hh | exact hh.elim
  ·exact h.elim
 ·exact h.elim
theorem vcC_mono {k : Nat} {c : Bool} {k1 k2 : Heap -> AV -> VC} (hk : ∀ hp a,(k1 hp a).sat R -> (k2 hp a).sat R) : ∀ {r : AR} {hp : Heap},(r.vcC S k c hp k1).sat R -> (r.vcC S k c hp k2).sat R
 | .fail,_,h=>by simp only [AR.vcC] at h; exact h.elim
 | .val a,hp,h=>by simp only [AR.vcC,forceD_eq] at h ⊢; exact hk _ _ h
 | .need p r,hp,h=>by simp only [AR.vcC] at h ⊢; exact ⟨h.1,vcC_mono hk h.2⟩
 | .br b r1 r2,hp,h=>by simp only [AR.vcC] at h ⊢; exact ⟨fun hb=>vcC_mono hk (h.1 hb),fun hb=>vcC_mono hk (h.2 hb)⟩
 | .blk b mk,hp,h=>by simp only [AR.vcC,forceH_eq] at h ⊢; exact hk _ _ h
 | .upd _ _,_,h=>by simp only [AR.vcC] at h; exact h.elim
 | .grow _ _,_,h=>by simp only [AR.vcC] at h; exact h.elim
 | .frz _ _ _,_,h=>by simp only [AR.vcC] at h; exact h.elim
 | .call f args,hp,h=>by
   simp only [AR.vcC] at h ⊢
   split at h
   ·exact h.elim
   ·rename_i e
    try rw [e]
    try simp only
    split at h
    ·rename_i s1 e1
     try rw [e1]
     simp only [forceLD_eq] at h ⊢
     split at h
     ·rename_i pre res new e2
      try rw [e2]
      try simp only
      split at h
      ·rename_i e3
       try rw [e3]
       simp only [forceH_eq,forceD_eq] at h ⊢
       exact needsC_mono c (needsC_mono c (hk _ _)) h
      ·exact h.elim
     ·exact h.elim
    ·exact h.elim
theorem runOpT_sat {nb : Bool} {ctx : Ctx} {T : List Cnd} {o : Oper} {hp : Heap} {K : List AV -> Heap -> VC} {KT : FT -> Heap -> VC} (hK : ∀ t hp,WT t -> (KT t hp).sat R -> (K (flatT t) hp).sat R) (hw : WT t)
  (h : (runOpT P S nb ctx T o t hp KT).sat R) : (runOp P S nb ctx T o (flatT t) hp K).sat R:=by
 unfold runOpT at h
 unfold runOp
 generalize o.op = op at h ⊢
 cases op
 case pick c a b =>
  simp only [forceV_eq,evT_eq hw] at h ⊢
  exact pickK_mono (fun r hr=>setKT_mono (K:=fun fr'=>K fr' hp) (fun t' hw'=>hK t' hp hw') hw hr) h
 all_goals
  simp only at h ⊢
  cases ctx with
  | none =>
    dsimp only at h ⊢
    simp only [forceMTN_eq,AR_vcTN_eq,vcCnN_eq,vcCn_eq,forceMT_eq hw] at h
    rw [forceM_eq] at h ⊢
    exact vcT_sat (K:=fun fr' hp' a=>setK fr' o.dst (noGd a) fun fr''=>K fr'' hp') (fun t' hp' a hw' hh=>setKT_mono (K:=fun fr''=>K fr'' hp') (fun t'' hw''=>hK t'' hp' hw'') hw' hh) hw h
  | some x =>
    obtain ⟨k,j,want,c,anc⟩:=x
    dsimp only at h ⊢
    simp only [forceMTN_eq,AR_vcTN_eq,vcCnN_eq,vcCn_eq,forceMT_eq hw] at h
    rw [forceM_eq] at h ⊢
    exact vcC_mono (fun hp' a hh=>setKT_mono (K:=fun fr''=>K fr'' hp') (fun t'' hw''=>hK t'' hp' hw'') hw hh) h
theorem lateIT_eq (hw : WT t) (o : Oper) : lateIT o t = lateI o (flatT t):=by
 unfold lateIT lateI
 simp only [getT_eq hw]
 rfl
theorem cleanTT_eq (hw : WT t) (i : Nat) : ∀ l,cleanTT i t l = cleanT i (flatT t) l
 | []=>rfl
 | x :: l=>by simp only [cleanTT,cleanT,getT_eq hw,cleanTT_eq hw i l]
theorem cleanDT_eq (hw : WT t) (i : Nat) (d : Option Nat) (n : Nat) (hp : Heap) : cleanDT i d t n hp = cleanD i d (flatT t) n hp:=by
 unfold cleanDT cleanD
 simp only [getT_eq hw]
 rfl
theorem runLateT_sat {o : Oper} {hp : Heap} {K : Nat -> List AV -> Heap -> VC} {KT : Nat -> FT -> Heap -> VC} (hK : ∀ i t hp,WT t -> (KT i t hp).sat R -> (K i (flatT t) hp).sat R) (hw : WT t)
  (h : (runLateT P S o t hp KT).sat R) : (runLate P S o (flatT t) hp K).sat R:=by
 unfold runLateT at h
 unfold runLate
 simp only [forceMTN_eq,AR_vcTN_eq,forceMT_eq hw] at h
 rw [forceM_eq] at h
 rw [forceM_eq]
 split at h
 ·rename_i i e
  rw [e]
  simp only
  exact vcT_sat (K:=fun fr' hp' a=>setK fr' o.dst (noGd a) fun fr''=>K i fr'' hp') (fun t' hp' a hw' hh=>setKT_mono (K:=fun fr''=>K i fr'' hp') (fun t'' hw''=>hK i t'' hp' hw'') hw' hh) hw h
 ·exact h.elim
theorem cleanFT_mono {hp : Heap} {K : List AV -> Heap -> VC} {KT : FT -> Heap -> VC} (hK : ∀ t hp,WT t -> (KT t hp).sat R -> (K (flatT t) hp).sat R) (hw : WT t)
  (h : (cleanFT t fun t'=>KT t' hp).sat R) : (cleanF (flatT t) fun fr=>K fr hp).sat R:=by
 obtain ⟨t',h1,_,h3,h4⟩:=cleanFT_sat hw h
 rw [cleanF_eq,<- h3]
 exact hK _ _ h1 h4
theorem splKT_sat {sp : Bool} {d : Option Nat} {k : List AV -> VC} {kT : FT -> VC} (hk : ∀ t,WT t -> (kT t).sat R -> (k (flatT t)).sat R) {t : FT} (hw : WT t) (h : (splKT sp d t kT).sat R) : (splK sp d (flatT t) k).sat R:=by
 unfold splKT at h
 unfold splK
 split at h
 ·exact hk _ hw h
 ·split at h
  ·exact hk _ hw h
  ·rename_i e
   dsimp only
   rw [getT_eq hw] at h
   split at h
   ·rename_i c hv
    rw [hv]
    refine ⟨fun hb=>?_,fun hb=>?_⟩
    ·obtain ⟨t',h1,h2,h3⟩:=setFT_sat hw (h.1 hb)
     rw [setF_eq,<- h2]; exact hk _ h1 h3
    ·obtain ⟨t',h1,h2,h3⟩:=setFT_sat hw (h.2 hb)
     rw [setF_eq,<- h2]; exact hk _ h1 h3
   ·rename_i hno
    split
    ·rename_i c hv; exact (hno c hv).elim
    ·exact hk _ hw h
theorem runOpsT_sat {dr : Bool} {all : List Oper} {K : List AV -> Heap -> VC} {KT : FT -> Heap -> VC} (hK : ∀ t hp,WT t -> (KT t hp).sat R -> (K (flatT t) hp).sat R) :
  ∀ (l : List Oper) (Z : Option (Nat × Nat)) (n : Nat) (T : List Cnd) (t : FT) (hp : Heap),WT t -> (runOpsT P S dr all Z n l T t hp KT).sat R -> (runOps P S dr all Z n l T (flatT t) hp K).sat R:=by
 intro l
 induction l with
 | nil =>
   intro Z n T t hp hw h
   cases Z with
   | none =>
     simp only [runOpsT,runOps,cleanFTN_eq,forceTN_eq,lenKN_eq] at h ⊢
     exact cleanFT_mono hK hw h
   | some z =>
     obtain ⟨i,u⟩:=z
     simp only [runOpsT,runOps,cleanFTN_eq,forceTN_eq,lenKN_eq] at h ⊢
     cases hb : Nat.ble u n with
     | true=>rw [hb] at h; exact cleanFT_mono hK hw h
     | false=>rw [hb] at h; exact h.elim
 | cons o rest ih =>
   intro Z n T t hp hw h
   have stp : ∀ {nb : Bool} {ctx : Ctx} {T1 T2 : List Cnd} {Z' : Option (Nat × Nat)} {m : Nat},(runOpT P S nb ctx T1 o t hp fun fr' hp'=>runOpsT P S dr all Z' m rest T2 fr' hp' KT).sat R ->
     (runOp P S nb ctx T1 o (flatT t) hp fun fr' hp'=>runOps P S dr all Z' m rest T2 fr' hp' K).sat R:=fun hh =>
    runOpT_sat (K:=fun fr' hp'=>runOps P S dr all _ _ rest _ fr' hp' K) (fun t' hp' hw'=>ih _ _ _ t' hp' hw') hw hh
   have skp : ∀ {T2 : List Cnd} {Z' : Option (Nat × Nat)} {m : Nat},(setKT t o.dst (.tup []) fun fr'=>runOpsT P S dr all Z' m rest T2 fr' hp KT).sat R -> (setK (flatT t) o.dst (.tup []) fun fr'=>runOps P S dr all Z' m rest T2 fr' hp K).sat R:=fun hh =>
    setKT_mono (K:=fun fr'=>runOps P S dr all _ _ rest _ fr' hp K) (fun t' hw'=>ih _ _ _ t' hp hw') hw hh
   cases Z with
   | some z =>
     obtain ⟨i,u⟩:=z
     simp only [runOpsT,runOps,cleanFTN_eq,forceTN_eq,lenKN_eq] at h ⊢
     rw [cleanTT_eq hw] at h
     cases hb : Nat.blt n u with
     | false=>rw [hb] at h; exact h.elim
     | true =>
       rw [hb] at h
       dsimp only at h ⊢
       cases hg : o.guard with
       | some x=>rw [hg] at h; exact h.elim
       | none =>
         rw [hg] at h
         cases T with
         | cons x T=>exact h.elim
         | nil =>
           cases hc : cleanT i (flatT t) (looksL all o) with
           | false=>rw [hc] at h; exact h.elim
           | true =>
             rw [hc] at h
             dsimp only at h ⊢
             refine runOpT_sat (K:=fun fr' hp'=>match cleanD i o.dst fr' hp.length hp' with
              | true=>(match Nat.beq (n + 1) u with
                | true=>runOps P S dr all none (n + 1) rest [] fr' hp' K
                | false=>runOps P S dr all (some (i,u)) (n + 1) rest [] fr' hp' K)
              | false=>.fail) (fun t' hp' hw' hh=>?_) hw h
             rw [cleanDT_eq hw'] at hh
             cases hd : cleanD i o.dst (flatT t') hp.length hp' with
             | false=>rw [hd] at hh; exact hh.elim
             | true =>
               rw [hd] at hh
               dsimp only at hh ⊢
               cases he : Nat.beq (n + 1) u with
               | true=>rw [he] at hh; exact ih _ _ _ t' hp' hw' hh
               | false=>rw [he] at hh; exact ih _ _ _ t' hp' hw' hh
   | none =>
     simp only [runOpsT,runOps,cleanFTN_eq,forceTN_eq,lenKN_eq] at h ⊢
     rw [lateIT_eq hw] at h
     cases hg : o.guard with
     | none =>
       rw [hg] at h
       dsimp only at h ⊢
       split at h
       ·rename_i hl
        rw [hl]
        dsimp only
        cases hb : barAt true all n with
        | true=>rw [hb] at h; exact stp h
        | false =>
          rw [hb] at h
          dsimp only at h ⊢
          cases hbe : befAt all n with
          | false=>rw [hbe] at h; exact h.elim
          | true =>
            rw [hbe] at h
            cases hbl : Nat.blt (n + 1) (lateN all n) with
            | false=>rw [hbl] at h; exact h.elim
            | true =>
              rw [hbl] at h
              dsimp only at h ⊢
              exact runLateT_sat (K:=fun i fr' hp'=>runOps P S true all (some (i,lateN all n)) (n + 1) rest [] fr' hp' K) (fun i t' hp' hw'=>ih _ _ _ t' hp' hw') hw h
       ·rename_i hno
        split
        ·rename_i h1 h2
         exact (hno rfl rfl (by assumption)).elim
        ·have hg2 : getT t = getL (flatT t):=funext fun i=>getT_eq hw i
         rw [hg2] at h
         exact runOpT_sat (K:=fun fr' hp'=>splK (splB S n o all) o.dst fr' fun fr'=>runOps P S _ all none (n + 1) rest _ fr' hp' K) (fun t' hp' hw' hh=>splKT_sat (fun t'' hw''=>ih _ _ _ t'' hp' hw'') hw' hh) hw h
     | some x =>
       obtain ⟨j,want⟩:=x
       rw [hg] at h
       dsimp only at h ⊢
       cases hf : findC j want T 0 with
       | some kx=>rw [hf] at h; exact stp h
       | none =>
         rw [hf] at h
         dsimp only at h ⊢
         cases hd : dstOf all j with
         | none=>rw [hd] at h; exact h.elim
         | some d =>
           rw [hd] at h
           dsimp only at h ⊢
           rw [getT_eq hw] at h
           split at h
           ·rename_i e; rw [e]; exact skp h
           ·rename_i b e
            rw [e]
            dsimp only at h ⊢
            cases hb : (b == want) with
            | true=>rw [hb] at h; exact stp h
            | false=>rw [hb] at h; exact skp h
           ·rename_i b e
            rw [e]
            dsimp only at h ⊢
            rw [boolW_eq,lenK_eq,forceT_eq] at h ⊢
            exact stp h
           ·rename_i p b e
            rw [e]
            dsimp only at h ⊢
            cases hb : (b == want) with
            | true =>
              rw [hb] at h
              cases hT : T[p]? with
              | none=>rw [hT] at h; exact h.elim
              | some x=>rw [hT] at h; exact stp h
            | false =>
              rw [hb] at h
              cases hT : T[p]? with
              | none=>rw [hT] at h; exact h.elim
              | some x=>rw [hT] at h; exact skp h
           ·rename_i p b e
            rw [e]
            dsimp only at h ⊢
            cases hT : T[p]? with
            | none=>rw [hT] at h; exact h.elim
            | some x =>
              obtain ⟨q1,q2,cx,anc⟩:=x
              rw [hT] at h
              dsimp only at h ⊢
              rw [boolW_eq,lenK_eq,forceT_eq] at h ⊢
              exact stp h
           ·exact h.elim
end
end
end Abs
end Go.Proofs.YtlacopdaibhkkaaGreat

namespace Go.Proofs.YtlacopdaibhkkaaGreat
namespace Abs
open Go Go.RowKit
noncomputable section
def runMvT : List Oper -> FT -> (FT -> VC) -> VC
 | [],fr,k=>k fr
 | o :: l,fr,k=>(match mvX o with
   | some x=>forceD (noGd (evT fr x)) fun a=>setKT fr o.dst a fun fr'=>runMvT l fr' k
   | none=>runMvT l fr k)
def runMvTP : {g : List Oper -> FT -> (FT -> VC) -> VC // runMvT = g}:=⟨_,by delta runMvT; rfl⟩
def runMvTN : List Oper -> FT -> (FT -> VC) -> VC:=runMvTP.1
theorem runMvTN_eq : runMvTN = runMvT:=runMvTP.2.symm
def runSwT (P : Program) (S : Sums) (z : Sw) (fb : Bool) : Nat -> List Oper -> FT -> Heap -> (FT -> Heap -> VC) -> VC
 | _,[],fr,hp,K=>cleanFTN fr fun fr'=>K fr' hp
 | n,o :: rest,fr,hp,K=>(match Nat.beq n z.a,Nat.beq n z.s with
   | true,_=>(match zeroL P z.t with | some _=>runSwT P S z fb (n + 1) rest fr hp K | none=>.fail)
   | false,true=>forceMTN [] fr (tmpsO [z.x]) fun m=>forceL (cellsA (evM m z.x)) fun l=>(match decide (l.length = sizeT P z.t /\ 0 < sizeT P z.t) && oneL l with
     | true=>hpLenK hp fun m=>forceHN (appH hp [.cells z.t l]) fun hp'=>setFT fr z.d (.own m 0) fun fr'=>runSwT P S z fb (n + 1) rest fr' hp' K
     | false=>.fail)
   | false,false=>runOpT P S (match rest with | []=>fb | _ :: _=>false) none [] o fr hp fun fr' hp'=>runSwT P S z fb (n + 1) rest fr' hp' K)
def runSwTP : {g : Program -> Sums -> Sw -> Bool -> Nat -> List Oper -> FT -> Heap -> (FT -> Heap -> VC) -> VC // runSwT = g}:=⟨_,by delta runSwT; rfl⟩
def runSwTN : Program -> Sums -> Sw -> Bool -> Nat -> List Oper -> FT -> Heap -> (FT -> Heap -> VC) -> VC:=runSwTP.1
theorem runSwTN_eq : runSwTN = runSwT:=runSwTP.2.symm
def nilCmpT (P : Program) (ops : List Oper) (fr : FT) : Option (Nat × Nat × Nat × LN) :=
 match ops with
 | [_,o2]=>(match asNil o2.op with
   | some _=>nilCmp P ops (flatT fr)
   | none=>none)
 | _=>none
def nilVCT (s a b : Nat) (n : LN) (fr : FT) (hp : Heap) (K : FT -> Heap -> VC) : VC :=
 .loop (A:=unitA) (fun _=>()) (.branch (ieq (icast n.val) 0) (setFT fr a (getT fr s) fun f=>setFT f b (.lb true) fun f=>K f hp) .done) (fun _=>setFT fr a (getT fr s) fun f=>setFT f b (.lb false) fun f=>K f hp)
def toTK : Nat -> List AV -> (FT -> VC) -> VC
 | 0,_,_=>.fail
 | f + 1,l,k=>(match l with
   | []=>k []
   | _=>forceL (takeL l 16) fun c=>forceL (dropL l 16) fun r=>toTK f r fun t=>k (c :: t))
def toTKP : {g : Nat -> List AV -> (FT -> VC) -> VC // toTK = g}:=⟨_,by delta toTK; rfl⟩
def toTKN : Nat -> List AV -> (FT -> VC) -> VC:=toTKP.1
theorem toTKN_eq : toTKN = toTK:=toTKP.2.symm
def appK : List AV -> List AV -> (List AV -> VC) -> VC
 | [],r,k=>k r
 | a :: l,r,k=>appK l r fun m=>k (a :: m)
def appKP : {g : List AV -> List AV -> (List AV -> VC) -> VC // appK = g}:=⟨_,by delta appK; rfl⟩
def appKN : List AV -> List AV -> (List AV -> VC) -> VC:=appKP.1
theorem appKN_eq : appKN = appK:=appKP.2.symm
def flatTK : FT -> (List AV -> VC) -> VC
 | [],k=>k []
 | c :: t,k=>flatTK t fun r=>appKN c r k
def flatTKP : {g : FT -> (List AV -> VC) -> VC // flatTK = g}:=⟨_,by delta flatTK; rfl⟩
def flatTKN : FT -> (List AV -> VC) -> VC:=flatTKP.1
theorem flatTKN_eq : flatTKN = flatTK:=flatTKP.2.symm
def callItT (S : Sums) (g : Operand) (fr : FT) (K : Items -> VC) : VC :=
 match g with
 | .tmp d=>(match getT fr d with
   | .fn (.func gf) [] caps=>(match findS S.its gf,ownIn.ownInL caps with
     | some it,false=>(match it caps with
       | some x=>needsN x.pre (K x)
       | none=>.fail)
     | _,_=>.fail)
   | _=>.fail)
 | _=>.fail
def iterLT (run : FT -> Heap -> (AE -> FT -> Heap -> VC) -> VC) : Nat -> FT -> Heap -> (AE -> FT -> Heap -> VC) -> VC
 | 0,_,_,_=>.fail
 | n + 1,fr,hp,Q=>run fr hp fun e fr' hp'=>match e with
   | .normal=>iterLT run n fr' hp' Q
   | e=>Q e fr' hp'
def iterLTP : {g : (FT -> Heap -> (AE -> FT -> Heap -> VC) -> VC) -> Nat -> FT -> Heap -> (AE -> FT -> Heap -> VC) -> VC // iterLT = g}:=⟨_,by delta iterLT; rfl⟩
def iterLTN : (FT -> Heap -> (AE -> FT -> Heap -> VC) -> VC) -> Nat -> FT -> Heap -> (AE -> FT -> Heap -> VC) -> VC:=iterLTP.1
theorem iterLTN_eq : iterLTN = iterLT:=iterLTP.2.symm
def gdOKT (all : List Oper) (fr : FT) : Option (Nat × Bool) -> Bool
 | none=>true
 | some (g,w)=>(match dstOf all g with
   | some d=>(match getT fr d with | .lb b=>b == w | _=>false)
   | none=>false)
def preKT (P : Program) (all : List Oper) : List Oper -> List Bool -> FT -> (FT -> VC) -> VC
 | o :: l,b :: m,fr,k=>(match b with
   | false=>preKT P all l m fr k
   | true=>(match gdOKT all fr o.guard with
     | false=>.fail
     | true=>forceMTN [] fr (tmpsO (opnds o.op)) fun mm=>(match frVal P (evM mm) o.op with
       | none=>.fail
       | some (ps,a)=>needsN ps (forceD (noGd a) fun a=>setKT fr o.dst a fun fr'=>preKT P all l m fr' k))))
 | _,_,fr,k=>k fr
def preKTP : {g : Program -> List Oper -> List Oper -> List Bool -> FT -> (FT -> VC) -> VC // preKT = g}:=⟨_,by delta preKT; rfl⟩
def preKTN : Program -> List Oper -> List Oper -> List Bool -> FT -> (FT -> VC) -> VC:=preKTP.1
theorem preKTN_eq : preKTN = preKT:=preKTP.2.symm
def gdAllT (all : List Oper) (fl : List Bool) (fr : FT) : List Oper -> List Bool -> Bool
 | o :: l,b :: m=>(match b,o.guard with
   | false,some (g,w)=>(match getFl fl g with
     | true=>(match gdOKT all fr (some (g,w)) with | true=>gdAllT all fl fr l m | false=>false)
     | false=>gdAllT all fl fr l m)
   | _,_=>gdAllT all fl fr l m)
 | _,_=>true
def runPreT (P : Program) (S : Sums) (all : List Oper) (fr : FT) (hp : Heap) (K : FT -> Heap -> VC) : VC :=
 preKTN P all all (frL all) fr fun fr'=>(match gdAllT all (frL all) fr' all (frL all) with
  | true=>runOpsTN P S true (hoist (tagL (frL all) all (frL all))) none (lenO (mvOps (tagL (frL all) all (frL all)))) (restO (tagL (frL all) all (frL all)) (lenO (mvOps (tagL (frL all) all (frL all)))) (tagL (frL all) all (frL all))) [] fr' hp K
  | false=>.fail)
def giLP : {g : Nat -> List AV -> List AV -> List AV // giA.giL = g}:=⟨_,by delta giA.giL; rfl⟩
def giLN : Nat -> List AV -> List AV -> List AV:=giLP.1
theorem giLN_eq : giLN = giA.giL:=giLP.2.symm
def giHP : {g : Nat -> List AV -> Heap -> Heap // giH = g}:=⟨_,by delta giH; rfl⟩
def giHN : Nat -> List AV -> Heap -> Heap:=giHP.1
theorem giHN_eq : giHN = giH:=giHP.2.symm
def toRowsKn (e' sz j : Nat) (fr : List AV) (hp : Heap) (K : List AV -> Heap -> VC) : VC:=match getB hp j,sz with
 | .row e 1 n el,s + 1=>.need ⟨fun z : Nat × (Nat -> List AV)=>0 < z.1 /\ ∀ k,k < z.1 -> z.2 k = [.v (.slice none 0 0)],(n.val,el)⟩ (forceHN (setB hp j (.rows e e' (s + 1) n (fun _=>false) (fun _=>0) (fun _ _=>[]) none)) fun hp'=>K fr hp')
 | _,_=>.fail
def openKn (x j : Nat) (fr : List AV) (hp : Heap) (K : List AV -> Heap -> VC) : VC:=match getB hp j,idxX fr x with
 | .rows e e' sz n fz ln el none,some a=>.need ⟨fun z : Int × Nat=>0 <= z.1 /\ z.1 < (z.2 : Int),(a,n.val)⟩ (.need ⟨fun z : Bool=>z = false,fz (nat a)⟩
   (hpLenK hp fun len=>forceHN (appH (setB hp j (.rows e e' sz n fz ln el (some (nat a,some len)))) [.row e' sz (.sym (ln (nat a))) (el (nat a))]) fun hp'=>K fr hp'))
 | _,_=>.fail
def closeKn (lo : Nat) (stay : Bool) (j : Nat) (fr : List AV) (hp : Heap) (K : List AV -> Heap -> VC) : VC:=match getB hp j with
 | .rows e e' sz n fz ln el (some (k,some h))=>(match getB hp h with
   | .row e2 sz2 m f=>(match decide (e2 = e' /\ sz2 = sz /\ h ≠ j) && Nat.ble lo h && Nat.ble lo j with
     | true=>forceLD (mapR.mapRL (at1 h .top) fr) fun fr'=>forceHN (setB (setB (mapH (at1 h .top) hp) h .dead) j (.rows e e' sz n (updZ k stay fz) (updN k m.val ln) (updR k f el) none)) fun hp'=>K fr' hp'
     | false=>.fail)
   | _=>.fail)
 | _=>.fail
def restKn (lo j : Nat) (fr : List AV) (hp : Heap) (K : List AV -> Heap -> VC) : VC:=match getB hp j with
 | .rows e _ sz n _ ln el none=>(match Nat.ble lo j with
   | true=>forceHN (setB hp j (.row e 1 n (fun k=>[.slc (.sym (ln k)) sz (el k)]))) fun hp'=>K fr hp'
   | false=>.fail)
 | _=>.fail
def frzKn (lo j : Nat) (fr : List AV) (hp : Heap) (K : List AV -> Heap -> VC) : VC:=match getB hp j with
 | .row _ sz n el=>(match Nat.ble lo j with
   | true=>forceLD (mapR.mapRL (at1 j (.slc n sz el)) fr) fun fr'=>forceHN (setB (mapH (at1 j (.slc n sz el)) hp) j .dead) fun hp'=>K fr' hp'
   | false=>.fail)
 | _=>.fail
def nilsKn (sz j : Nat) (fr : List AV) (hp : Heap) (K : List AV -> Heap -> VC) : VC:=match getB hp j with
 | .row e 1 n el=>.need ⟨fun z : Nat × (Nat -> List AV)=>∀ k,k < z.1 -> z.2 k = [.v (.slice none 0 0)],(n.val,el)⟩ (forceHN (setB hp j (.row e 1 n (fun _=>[.slc (.sym 0) sz (fun _=>[])]))) fun hp'=>K fr hp')
 | _=>.fail
def rowsKn (lo x c j : Nat) (fr : List AV) (hp : Heap) (K : List AV -> Heap -> VC) : VC:=match c % 64 with
 | 1=>openKn x j fr hp K
 | 2=>closeKn lo false j fr hp K
 | 3=>closeKn lo true j fr hp K
 | 4=>restKn lo j fr hp K
 | 6=>frzKn lo j fr hp K
 | 7=>nilsKn x j fr hp K
 | c=>(match Nat.ble 16 c with | true=>toRowsKn x (c - 16) j fr hp K | false=>.fail)
theorem rowsKn_eq (lo x c j : Nat) (fr : List AV) (hp : Heap) (K : List AV -> Heap -> VC) : rowsKn lo x c j fr hp K = rowsK lo x c j fr hp K:=by
 unfold rowsKn rowsK toRowsKn toRowsK openKn openK closeKn closeK restKn restK frzKn frzK nilsKn nilsK
 simp only [forceHN_eq,hpLenK_eq]
 rfl
def paLP : {g : Nat -> AV -> List AV -> List AV // paA.paL = g}:=⟨_,by delta paA.paL; rfl⟩
def paLN : Nat -> AV -> List AV -> List AV:=paLP.1
theorem paLN_eq : paLN = paA.paL:=paLP.2.symm
def paHP : {g : Nat -> AV -> Heap -> Heap // paH = g}:=⟨_,by delta paH; rfl⟩
def paHN : Nat -> AV -> Heap -> Heap:=paHP.1
theorem paHN_eq : paHN = paH:=paHP.2.symm
def nilCKn (t x c : Nat) (fr : List AV) (hp : Heap) (K : Heap -> VC) : VC:=match getL fr t,Nat.beq (c % 64) 5 with
 | .own i o,true=>(match getB hp i with
   | .cells ty l=>(match isNilS (getL l (o + c / 64)) with
     | true=>forceL (setL l (o + c / 64) (.row hp.length)) fun l'=>forceHN (appH (setB hp i (.cells ty l')) [.row x 1 (.lit 0) (fun _=>[])]) fun hp'=>K hp'
     | false=>.fail)
   | _=>.fail)
 | _,_=>.fail
theorem nilCKn_eq (t x c : Nat) (fr : List AV) (hp : Heap) (K : Heap -> VC) : nilCKn t x c fr hp K = nilCK t x c fr hp K:=by
 unfold nilCKn nilCK
 simp only [forceHN_eq]
 rfl
def giveKn (lo : Nat) : List (Nat × TypeId × Nat) -> List AV -> Heap -> (List AV -> Heap -> VC) -> VC
 | [],fr,hp,K=>K fr hp
 | (t,x,c) :: r,fr,hp,K=>(match Nat.beq c 0 with
  | false=>(match refAt fr hp t (c / 64) with
    | some j=>rowsKn lo x c j fr hp fun fr hp=>giveKn lo r fr hp K
    | none=>nilCKn t x c fr hp fun hp=>giveKn lo r fr hp K)
  | true=>(match getL fr t with
   | .own j _=>(match getB hp j with
     | .cells _ l=>(match ownIn.ownInL l,Nat.ble lo j with
       | false,true=>forceLD (giLN j l fr) fun fr'=>forceHN (setB (giHN j l hp) j .dead) fun hp'=>giveKn lo r fr' hp' K
       | _,_=>.fail)
     | _=>.fail)
   | .row j=>(match getB hp j with
     | .row _ sz n el=>(match Nat.ble lo j with
       | true=>forceLD (mapR.mapRL (at1 j (.slc n sz el)) fr) fun fr'=>forceHN (setB (mapH (at1 j (.slc n sz el)) hp) j .dead) fun hp'=>giveKn lo r fr' hp' K
       | false=>.fail)
     | _=>.fail)
   | .elt j _ _ _=>(match getB hp j with
     | .mat _ w (.lit 1) f=>(match Nat.ble lo j with
       | true=>forceLD (paLN j (.pa w 1 (fun k=>[f 0 k])) fr) fun fr'=>forceHN (setB (paHN j (.pa w 1 (fun k=>[f 0 k])) hp) j .dead) fun hp'=>giveKn lo r fr' hp' K
       | false=>.fail)
     | _=>.fail)
   | _=>.fail))
theorem giveKn_eq (lo : Nat) : ∀ (l : List (Nat × TypeId × Nat)) (fr : List AV) (hp : Heap) (K : List AV -> Heap -> VC),giveKn lo l fr hp K = giveK lo l fr hp K
 | [],_,_,_=>rfl
 | (t,_,_) :: r,fr,hp,K=>by
   unfold giveKn giveK
   simp only [giLN_eq,giHN_eq,paLN_eq,paHN_eq,forceHN_eq,rowsKn_eq,nilCKn_eq,giveKn_eq lo r]
   rfl
def giveIT (I : Anns) (lo id : Nat) (fr : FT) (hp : Heap) (K : FT -> Heap -> VC) : VC:=match findS I (id + 2097152) with
 | none=>K fr hp
 | some (l,_)=>flatTKN fr fun fr=>giveKn lo l fr hp fun fr hp=>toTKN 64 fr fun t=>K t hp
def runAnyT (P : Program) (S : Sums) (all : List Oper) : Nat -> List Nat -> FT -> Heap -> (FT -> Heap -> VC) -> VC
 | 0,_,_,_,_=>.fail
 | f + 1,D,fr,hp,K=>(match fixGo P all D (getT fr) all.length with
   | some (i,o,ps,a)=>needs ps (forceD a fun a=>setKT fr o.dst a fun fr'=>runAnyT P S all f (i :: D) fr' hp K)
   | none=>(match spGo all D (getT fr) all.length with
     | some (d,c)=>.branch c (setFT fr d (.lb true) fun fr'=>runAnyT P S all f D fr' hp K) (setFT fr d (.lb false) fun fr'=>runAnyT P S all f D fr' hp K)
     | none=>(match rdyL all D all.length with
       | []=>cleanFTN fr fun fr'=>K fr' hp
       | i :: l=>allOrd (i :: l) fun i=>(match all[i]? with
         | some o=>(match wantN all (getT fr) o with
           | some true=>runOpT P S true none [] o fr hp fun fr' hp'=>runAnyT P S all f (i :: D) fr' hp' K
           | _=>.fail)
         | none=>.fail))))
def runAnyTP : {g : Program -> Sums -> List Oper -> Nat -> List Nat -> FT -> Heap -> (FT -> Heap -> VC) -> VC // runAnyT = g}:=⟨_,by delta runAnyT; rfl⟩
def runAnyTN : Program -> Sums -> List Oper -> Nat -> List Nat -> FT -> Heap -> (FT -> Heap -> VC) -> VC:=runAnyTP.1
theorem runAnyTN_eq : runAnyTN = runAnyT:=runAnyTP.2.symm
def wpAT (P : Program) (S : Sums) (U : Nat) (I : Anns) : Code -> FT -> Heap -> (AE -> FT -> Heap -> VC) -> VC
 | .skip,fr,hp,Q=>Q .normal fr hp
 | .region id ops dr,fr,hp,Q=>giveIT I S.lo id fr hp fun fr hp=>(match dr with
   | true=>(match findS I (id + 4194304) with
     | some _=>(match ops.toList.all fun o=>!(isSelO o.op) with
       | true=>runAnyTN P S ops.toList (2 * ops.toList.length + 1) [] fr hp (Q .normal)
       | false=>.fail)
     | none=>(match swGo ops.toList 0 ops.toList with
       | none=>(match needP S ops.toList with
         | true=>runPreT P S ops.toList fr hp (Q .normal)
         | false=>(match needH S ops.toList with
           | false=>runOpsTN P S true ops.toList none 0 ops.toList [] fr hp (Q .normal)
           | true=>runMvTN ops.toList fr fun fr'=>runOpsTN P S true (hoist ops.toList) none (lenO (mvOps ops.toList)) (restO ops.toList (lenO (mvOps ops.toList)) ops.toList) [] fr' hp (Q .normal)))
       | some z=>(match Nat.blt z.d (flatT fr).length with
         | true=>setFT fr z.d .top fun fr'=>runSwTN P S z (finB ops.toList) 0 (swOps ops.toList z) fr' hp (Q .normal)
         | false=>.fail)))
   | false=>(match nilCmpT P ops.toList fr with
     | some (s,a,b,n)=>nilVCT s a b n fr hp (Q .normal)
     | none=>runOpsTN P S false ops.toList none 0 ops.toList [] fr hp (Q .normal)))
 | .seq a b,fr,hp,Q=>(match findS I (cutK b) with
   | none=>wpAT P S U I a fr hp fun e fr' hp'=>match e with
     | .normal=>wpAT P S U I b fr' hp' Q
     | e=>Q e fr' hp'
   | some (_,ann)=>flatTKN fr fun fr0 =>
     let A:=ann fr0 hp
     .loop (A:=A) A.dat (wpAT P S U I a fr hp fun e fr' hp'=>match e with
      | .normal=>flatTKN fr' fun fr'=>exKn S.lo A none fr' hp'
      | e=>Q e fr' hp') fun g=>forceL (A.st g).fr fun fr=>forceHN (A.st g).hp fun hp=>toTKN 64 fr fun t=>wpAT P S U I b t hp Q)
 | .cond c t e,fr,hp,Q=>(match c with
   | .tmp d=>branchKT fr d fun b fr=>(match b with | true=>wpAT P S U I t fr hp Q | false=>wpAT P S U I e fr hp Q)
   | .const (.bool true)=>wpAT P S U I t fr hp Q
   | .const (.bool false)=>wpAT P S U I e fr hp Q
   | _=>.fail)
 | .block id c,fr,hp,Q=>wpAT P S U I c fr hp fun e fr' hp'=>match e with
   | .exit j=>(match Nat.beq id j with | true=>Q .normal fr' hp' | false=>Q (.exit j) fr' hp')
   | e=>Q e fr' hp'
 | .loop c,fr,hp,Q=>(match findS I (firstRegion c) with
   | none=>iterLTN (wpAT P S U I c) U fr hp Q
   | some (nils,ann)=>flatTKN fr fun fr=>nilKnN nils fr hp fun fr hp =>
     let A:=ann fr hp
     .loop (A:=A) A.dat (exKn S.lo A none fr hp) fun g=>forceL (A.st g).fr fun fr=>forceHN (A.st g).hp fun hp=>toTKN 64 fr fun t=>wpAT P S U I c t hp fun e t' hp'=>match e with
      | .normal=>flatTKN t' fun fr'=>exKn S.lo A (some (A.mu g)) fr' hp'
      | e=>Q e t' hp')
 | .rangeFunc g ps assign body,fr,hp,Q=>callItT S g fr fun x=>(match findS I (keyR assign body) with
   | none=>.fail
   | some (nils,ann)=>flatTKN fr fun fr=>nilKnN nils fr hp fun fr hp =>
     let A:=ann fr hp
     .loop (A:=A) A.dat (exRn S.lo A 0 fr hp) fun g=>forceL (A.st g).fr fun fr=>forceHN (A.st g).hp fun hp =>
      .branch (nlt (A.mu g) x.n)
       (setPsN ps.toList (x.it (A.mu g)) fr fun fr1=>toTKN 64 fr1 fun t1=>wpAT P S U I assign t1 hp fun e t2 hp2=>match e with
        | .normal=>wpAT P S U I body t2 hp2 fun e t3 hp3=>flatTKN t3 fun fr3=>topMN (Nat.lor (mskP ps.toList) (Nat.lor (mskC assign) (mskC body))) fr3 0 fun fr4=>match e with
          | .normal=>exRn S.lo A (nadd (A.mu g) 1) fr4 hp3
          | e=>toTKN 64 fr4 fun t4=>Q e t4 hp3
        | _=>.fail)
       (toTKN 64 fr fun t=>Q .normal t hp))
 | .exit id,fr,hp,Q=>Q (.exit id) fr hp
 | .ret,fr,hp,Q=>Q .ret fr hp
 | _,_,_,_=>.fail
def wpATP : {g : Program -> Sums -> Nat -> Anns -> Code -> FT -> Heap -> (AE -> FT -> Heap -> VC) -> VC // wpAT = g}:=⟨_,by delta wpAT; rfl⟩
def wpATN : Program -> Sums -> Nat -> Anns -> Code -> FT -> Heap -> (AE -> FT -> Heap -> VC) -> VC:=wpATP.1
theorem wpATN_eq : wpATN = wpAT:=wpATP.2.symm
def resKT (P : Program) (fr : FT) (hp : Heap) : List ResultVar -> (List AV -> VC) -> VC
 | [],k=>k []
 | .tmp t :: l,k=>resKT P fr hp l fun m=>k (getT fr t :: m)
 | .cell a ty :: l,k=>(match loadA P hp ty (getT fr a) with | .val x=>resKT P fr hp l fun m=>k (x :: m) | _=>.fail)
def resKTP : {g : Program -> FT -> Heap -> List ResultVar -> (List AV -> VC) -> VC // resKT = g}:=⟨_,by delta resKT; rfl⟩
def resKTN : Program -> FT -> Heap -> List ResultVar -> (List AV -> VC) -> VC:=resKTP.1
theorem resKTN_eq : resKTN = resKT:=resKTP.2.symm
def wpFT (P : Program) (S : Sums) (U : Nat) (I : Anns) (fn : Func) (args : List AV) (hp : Heap) : VC :=
 match fn.body with
 | some c=>forceL (padL args fn.ntmps) fun fr=>toTKN 64 fr fun t=>wpATN P S U I c t hp fun e t hp=>match e with
   | .exit _=>.fail
   | _=>resKTN P t hp fn.results.toList fun l=>outK l hp
 | none=>.fail
section
variable {R : AV -> Heap -> Prop} {P : Program} {S : Sums}
theorem runMvT_sat {K : List AV -> VC} {KT : FT -> VC} (hK : ∀ t,WT t -> (KT t).sat R -> (K (flatT t)).sat R) : ∀ {l : List Oper} {t : FT},WT t -> (runMvT l t KT).sat R -> (runMv l (flatT t) K).sat R
 | [],t,hw,h=>hK t hw h
 | o :: l,t,hw,h=>by
   simp only [runMvT,runMv] at h ⊢
   cases hm : mvX o with
   | none=>rw [hm] at h; exact runMvT_sat hK hw h
   | some x =>
     rw [hm] at h
     dsimp only at h ⊢
     rw [evT_eq hw] at h
     simp only [forceD_eq] at h ⊢
     exact setKT_mono (K:=fun fr'=>runMv l fr' K) (fun t' hw'=>runMvT_sat hK hw') hw h
theorem setFT_mono {t : FT} {d : Nat} {a : AV} {K : List AV -> VC} {KT : FT -> VC} (hK : ∀ t,WT t -> (KT t).sat R -> (K (flatT t)).sat R) (hw : WT t) (h : (setFT t d a KT).sat R) : (setF (flatT t) d a K).sat R:=by
 obtain ⟨t',h1,h2,h3⟩:=setFT_sat hw h
 rw [setF_eq,<- h2]
 exact hK _ h1 h3
theorem runSwT_sat {z : Sw} {fb : Bool} {K : List AV -> Heap -> VC} {KT : FT -> Heap -> VC} (hK : ∀ t hp,WT t -> (KT t hp).sat R -> (K (flatT t) hp).sat R) : ∀ {l : List Oper} {n : Nat} {t : FT} {hp : Heap},WT t -> (runSwT P S z fb n l t hp KT).sat R -> (runSw P S z fb n l (flatT t) hp K).sat R
 | [],n,t,hp,hw,h=>by
   simp only [runSwT,runSw,cleanFTN_eq,forceMTN_eq,forceHN_eq,hpLenK_eq] at h ⊢
   exact cleanFT_mono hK hw h
 | o :: l,n,t,hp,hw,h=>by
   simp only [runSwT,runSw,cleanFTN_eq,forceMTN_eq,forceHN_eq,hpLenK_eq] at h ⊢
   cases h1 : Nat.beq n z.a with
   | true =>
     rw [h1] at h
     dsimp only at h ⊢
     cases h2 : zeroL P z.t with
     | none=>rw [h2] at h; exact h.elim
     | some x=>rw [h2] at h; exact runSwT_sat hK hw h
   | false =>
     rw [h1] at h
     cases h2 : Nat.beq n z.s with
     | true =>
       rw [h2] at h
       dsimp only at h ⊢
       simp only [forceMT_eq hw] at h
       rw [forceM_eq] at h ⊢
       simp only [forceL_eq] at h ⊢
       split at h
       ·rename_i e
        try rw [e]
        try dsimp only at h ⊢
        simp only [forceH_eq] at h ⊢
        exact setFT_mono (K:=fun fr'=>runSw P S z fb (n + 1) l fr' _ K) (fun t' hw'=>runSwT_sat hK hw') hw h
       ·exact h.elim
     | false =>
       rw [h2] at h
       dsimp only at h ⊢
       exact runOpT_sat (K:=fun fr' hp'=>runSw P S z fb (n + 1) l fr' hp' K) (fun t' hp' hw'=>runSwT_sat hK hw') hw h
theorem nilCmpT_eq (ops : List Oper) (t : FT) : nilCmpT P ops t = nilCmp P ops (flatT t):=by
 unfold nilCmpT
 split
 ·rename_i o1 o2
  split
  ·rfl
  ·rename_i e
   unfold nilCmp
   simp only [e]
 ·rename_i h
  unfold nilCmp
  split
  ·rename_i o1 o2; exact (h _ _ rfl).elim
  ·rfl
theorem toTK_sat : ∀ {f : Nat} {l : List AV} {k : FT -> VC},(toTK f l k).sat R -> ∃ t,WT t /\ (t = [] ↔ l = []) /\ flatT t = l /\ (k t).sat R
 | 0,l,k,h=>h.elim
 | f + 1,l,k,h=>by
   simp only [toTK] at h
   split at h
   ·exact ⟨[],trivial,by simp,rfl,h⟩
   ·rename_i hne
    simp only [forceL_eq] at h
    obtain ⟨t,h1,h2,h3,h4⟩:=toTK_sat h
    have hl : l ≠ []:=hne
    refine ⟨takeL l 16 :: t,⟨⟨by rw [takeL_eq]; simp; omega,fun ht=>?_⟩,h1⟩,by simp [hl],?_,h4⟩
    ·have : dropL l 16 ≠ []:=fun e=>ht (h2.2 e)
     rw [dropL_eq] at this
     rw [takeL_eq,List.length_take]
     have h5 : ¬ l.length <= 16:=fun hle=>this (List.drop_eq_nil_of_le hle)
     omega
    ·show takeL l 16 ++ flatT t = l
     rw [h3,takeL_eq,dropL_eq,List.take_append_drop]
theorem appK_eq : ∀ (l r : List AV) (k : List AV -> VC),appK l r k = k (l ++ r)
 | [],_,_=>rfl
 | a :: l,r,k=>by simp [appK,appK_eq l r]
theorem flatTK_eq : ∀ (t : FT) (k : List AV -> VC),flatTK t k = k (flatT t)
 | [],_=>rfl
 | c :: t,k=>by simp [flatTK,flatTK_eq t,appKN_eq,appK_eq,flatT]
theorem nilK_mono {k1 k2 : List AV -> Heap -> VC} (hk : ∀ fr hp,(k1 fr hp).sat R -> (k2 fr hp).sat R) : ∀ {l : List (Nat × TypeId × Nat)} {fr : List AV} {hp : Heap},(nilK l fr hp k1).sat R -> (nilK l fr hp k2).sat R
 | [],fr,hp,h=>hk _ _ h
 | (t,e,sz) :: l,fr,hp,h=>by
   simp only [nilK] at h ⊢
   split at h
   ·rename_i e1
    try rw [e1]
    try dsimp only at h ⊢
    rw [setF_eq] at h ⊢
    rw [forceH_eq] at h ⊢
    exact nilK_mono hk h
   ·exact nilK_mono hk h
theorem setPs_mono {k1 k2 : List AV -> VC} (hk : ∀ fr,(k1 fr).sat R -> (k2 fr).sat R) : ∀ {ps : List Nat} {as fr : List AV},(setPs ps as fr k1).sat R -> (setPs ps as fr k2).sat R
 | [],[],fr,h=>by simp only [setPs] at h ⊢; exact hk _ h
 | p :: ps,a :: as,fr,h=>by
   simp only [setPs,forceD_eq,setF_eq] at h ⊢
   exact setPs_mono hk h
 | [],_ :: _,fr,h=>by simp only [setPs] at h; exact h.elim
 | _ :: _,[],fr,h=>by simp only [setPs] at h; exact h.elim
theorem topM_mono {m : Nat} {k1 k2 : List AV -> VC} (hk : ∀ fr,(k1 fr).sat R -> (k2 fr).sat R) {l : List AV} {n : Nat} (h : (topM m l n k1).sat R) : (topM m l n k2).sat R:=by
 induction l generalizing n k1 k2 with
 | nil=>exact hk _ h
 | cons a l ih =>
   simp only [topM] at h ⊢
   cases hb : Nat.testBit m n with
   | true=>rw [hb] at h; exact ih (fun fr hh=>hk _ hh) h
   | false=>rw [hb] at h; exact ih (fun fr hh=>hk _ hh) h
theorem iterLT_sat {run : List AV -> Heap -> (AE -> List AV -> Heap -> VC) -> VC} {runT : FT -> Heap -> (AE -> FT -> Heap -> VC) -> VC}
  (hrun : ∀ {Q : AE -> List AV -> Heap -> VC} {QT : AE -> FT -> Heap -> VC},(∀ e t hp,WT t -> (QT e t hp).sat R -> (Q e (flatT t) hp).sat R) -> ∀ {t hp},WT t -> (runT t hp QT).sat R -> (run (flatT t) hp Q).sat R)
  {Q : AE -> List AV -> Heap -> VC} {QT : AE -> FT -> Heap -> VC} (hQ : ∀ e t hp,WT t -> (QT e t hp).sat R -> (Q e (flatT t) hp).sat R) : ∀ {n : Nat} {t : FT} {hp : Heap},WT t -> (iterLT runT n t hp QT).sat R -> (iterL run n (flatT t) hp Q).sat R
 | 0,t,hp,hw,h=>h.elim
 | n + 1,t,hp,hw,h=>by
   simp only [iterLT,iterL] at h ⊢
   refine hrun (fun e t' hp' hw' hh=>?_) hw h
   cases e with
   | normal=>exact iterLT_sat hrun hQ hw' hh
   | exit j=>exact hQ _ _ _ hw' hh
   | ret=>exact hQ _ _ _ hw' hh
theorem gdOKT_eq {t : FT} (hw : WT t) (all : List Oper) (g : Option (Nat × Bool)) : gdOKT all t g = gdOK all (flatT t) g:=by
 cases g with
 | none=>rfl
 | some x =>
   obtain ⟨g,w⟩:=x
   unfold gdOKT gdOK
   dsimp only
   cases dstOf all g with
   | none=>rfl
   | some d=>dsimp only; rw [getT_eq hw]; rfl
theorem gdAllT_eq {t : FT} (hw : WT t) (all : List Oper) (fl : List Bool) : ∀ (l : List Oper) (m : List Bool),gdAllT all fl t l m = gdAll all fl (flatT t) l m
 | [],_=>by cases ‹List Bool› <;> rfl
 | _ :: _,[]=>rfl
 | o :: l,b :: m=>by
   simp only [gdAllT,gdAll,gdOKT_eq hw,gdAllT_eq hw all fl l m]
   rfl
theorem preKT_sat {all : List Oper} {K : List AV -> VC} {KT : FT -> VC} (hK : ∀ t,WT t -> (KT t).sat R -> (K (flatT t)).sat R) : ∀ {l : List Oper} {m : List Bool} {t : FT},WT t -> (preKT P all l m t KT).sat R -> (preK P all l m (flatT t) K).sat R
 | [],m,t,hw,h=>by cases m <;> exact hK t hw h
 | _ :: _,[],t,hw,h=>hK t hw h
 | o :: l,b :: m,t,hw,h=>by
   simp only [preKT,preK] at h ⊢
   cases b with
   | false=>exact preKT_sat hK hw h
   | true =>
     dsimp only at h ⊢
     rw [gdOKT_eq hw] at h
     cases hg : gdOK all (flatT t) o.guard with
     | false=>rw [hg] at h; exact h.elim
     | true =>
       rw [hg] at h
       dsimp only at h ⊢
       rw [forceMTN_eq,forceMT_eq hw] at h
       rw [forceM_eq] at h ⊢
       split at h
       ·exact h.elim
       ·rename_i ps a e
        rw [e]
        dsimp only at h ⊢
        rw [needsN_eq] at h
        refine needs_mono (fun h=>?_) h
        simp only [forceD_eq] at h ⊢
        exact setKT_mono (K:=fun fr'=>preK P all l m fr' K) (fun t' hw'=>preKT_sat hK hw') hw h
theorem runPreT_sat {all : List Oper} {hp : Heap} {K : List AV -> Heap -> VC} {KT : FT -> Heap -> VC} (hK : ∀ t hp,WT t -> (KT t hp).sat R -> (K (flatT t) hp).sat R) {t : FT} (hw : WT t) (h : (runPreT P S all t hp KT).sat R) : (runPre P S all (flatT t) hp K).sat R:=by
 unfold runPreT at h
 unfold runPre
 rw [preKTN_eq,runOpsTN_eq] at h
 refine preKT_sat (fun t' hw' hh=>?_) hw h
 rw [gdAllT_eq hw'] at hh
 split at hh
 ·rename_i e
  rw [e]
  exact runOpsT_sat hK _ _ _ _ _ _ hw' hh
 ·exact hh.elim
theorem rowsK_mono {lo x c j : Nat} {fr : List AV} {hp : Heap} {K K' : List AV -> Heap -> VC} (hK : ∀ fr hp,(K fr hp).sat R -> (K' fr hp).sat R) (h : (rowsK lo x c j fr hp K).sat R) : (rowsK lo x c j fr hp K').sat R:=by
 have clo : ∀ stay,(closeK lo stay j fr hp K).sat R -> (closeK lo stay j fr hp K').sat R:=fun stay h=>by
  unfold closeK at h ⊢
  split at h
  ·rename_i hb
   try rw [hb]
   try simp only
   split at h
   ·rename_i hb2
    try rw [hb2]
    try simp only
    split at h
    ·rename_i hd
     try rw [hd]
     simp only [forceLD_eq,forceH_eq] at h ⊢
     exact hK _ _ h
    ·exact h.elim
   ·exact h.elim
  ·exact h.elim
 unfold rowsK at h ⊢
 generalize c % 64 = q at h ⊢
 match q,h with
 | 1,h =>
   change (openK _ _ _ _ _).sat R at h
   show (openK _ _ _ _ _).sat R
   unfold openK at h ⊢
   split at h
   ·rename_i hb hx
    try rw [hb,hx]
    simp only [forceH_eq] at h ⊢
    exact ⟨h.1,h.2.1,hK _ _ h.2.2⟩
   ·exact h.elim
 | 2,h=>exact clo _ h
 | 3,h=>exact clo _ h
 | 4,h =>
   change (restK _ _ _ _ _).sat R at h
   show (restK _ _ _ _ _).sat R
   unfold restK at h ⊢
   split at h
   ·rename_i hb
    try rw [hb]
    try simp only
    split at h
    ·rename_i hd
     try rw [hd]
     simp only [forceH_eq] at h ⊢
     exact hK _ _ h
    ·exact h.elim
   ·exact h.elim
 | 0,h=>exact h.elim
 | 6,h =>
   change (frzK _ _ _ _ _).sat R at h
   show (frzK _ _ _ _ _).sat R
   unfold frzK at h ⊢
   split at h
   ·rename_i hb
    try rw [hb]
    try simp only
    split at h
    ·rename_i hd
     try rw [hd]
     simp only [forceLD_eq,forceH_eq] at h ⊢
     exact hK _ _ h
    ·exact h.elim
   ·exact h.elim
 | 7,h =>
   change (nilsK _ _ _ _ _).sat R at h
   show (nilsK _ _ _ _ _).sat R
   unfold nilsK at h ⊢
   split at h
   ·rename_i hb
    try rw [hb]
    simp only [forceH_eq] at h ⊢
    exact ⟨h.1,hK _ _ h.2⟩
   ·exact h.elim
 | 5,h=>exact h.elim
 | n + 8,h =>
   simp only at h ⊢
   split at h
   ·rename_i hd
    try rw [hd]
    try simp only
    unfold toRowsK at h ⊢
    split at h
    ·rename_i hb hs
     try rw [hb,hs]
     simp only [forceH_eq] at h ⊢
     exact ⟨h.1,hK _ _ h.2⟩
    ·exact h.elim
   ·exact h.elim
theorem nilCK_mono {t x c : Nat} {fr : List AV} {hp : Heap} {K K' : Heap -> VC} (hK : ∀ hp,(K hp).sat R -> (K' hp).sat R) (h : (nilCK t x c fr hp K).sat R) : (nilCK t x c fr hp K').sat R:=by
 unfold nilCK at h ⊢
 split at h
 ·rename_i i o hg hc
  try rw [hg,hc]
  try simp only
  split at h
  ·rename_i ty l hb
   try rw [hb]
   try simp only
   split at h
   ·rename_i hn
    try rw [hn]
    simp only [forceL_eq,forceH_eq] at h ⊢
    exact hK _ h
   ·exact h.elim
  ·exact h.elim
 ·exact h.elim
theorem giveK_mono {lo : Nat} {K K' : List AV -> Heap -> VC} (hK : ∀ fr hp,(K fr hp).sat R -> (K' fr hp).sat R) : ∀ {l : List (Nat × TypeId × Nat)} {fr : List AV} {hp : Heap},(giveK lo l fr hp K).sat R -> (giveK lo l fr hp K').sat R
 | [],fr,hp,h=>hK _ _ h
 | (t,x,c) :: l,fr,hp,h=>by
   unfold giveK at h ⊢
   split at h
   ·rename_i hc
    try rw [hc]
    try simp only
    split at h
    ·rename_i hr
     try rw [hr]
     exact rowsK_mono (fun _ _ h=>giveK_mono hK h) h
    ·rename_i hr
     try rw [hr]
     exact nilCK_mono (fun _ h=>giveK_mono hK h) h
   ·rename_i hc
    try rw [hc]
    try simp only
    split at h
    ·rename_i hg
     try rw [hg]
     try simp only
     split at h
     ·rename_i hb
      try rw [hb]
      try simp only
      split at h
      ·rename_i hn hj
       try rw [hn,hj]
       simp only [forceLD_eq,forceH_eq] at h ⊢
       exact giveK_mono hK h
      ·exact h.elim
     ·exact h.elim
    ·rename_i hg
     try rw [hg]
     try simp only
     split at h
     ·rename_i hb
      try rw [hb]
      try simp only
      split at h
      ·rename_i hj
       try rw [hj]
       simp only [forceLD_eq,forceH_eq] at h ⊢
       exact giveK_mono hK h
      ·exact h.elim
     ·exact h.elim
    ·rename_i hg
     try rw [hg]
     try simp only
     split at h
     ·rename_i hb
      try rw [hb]
      try simp only
      split at h
      ·rename_i hj
       try rw [hj]
       simp only [forceLD_eq,forceH_eq] at h ⊢
       exact giveK_mono hK h
      ·exact h.elim
     ·exact h.elim
    ·exact h.elim
theorem giveIT_sat {I : Anns} {lo id : Nat} {K : List AV -> Heap -> VC} {KT : FT -> Heap -> VC} (hK : ∀ t hp,WT t -> (KT t hp).sat R -> (K (flatT t) hp).sat R) {t : FT} {hp : Heap} (hw : WT t) (h : (giveIT I lo id t hp KT).sat R) : (giveI I lo id (flatT t) hp K).sat R:=by
 unfold giveIT at h
 unfold giveI
 cases hf : findS I (id + 2097152) with
 | none=>rw [hf] at h; exact hK _ _ hw h
 | some x =>
   obtain ⟨l,a⟩:=x
   rw [hf] at h
   simp only [flatTKN_eq,flatTK_eq,giveKn_eq,toTKN_eq] at h ⊢
   refine giveK_mono (fun fr hp h=>?_) h
   obtain ⟨t',h1,_,h3,h4⟩:=toTK_sat h
   have:=hK _ _ h1 h4
   rwa [h3] at this
theorem allOrd_mono {k kT : Nat -> VC} (hk : ∀ i,(kT i).sat R -> (k i).sat R) : ∀ {l : List Nat},(allOrd l kT).sat R -> (allOrd l k).sat R
 | [],h=>h
 | i :: l,h=>by
   unfold allOrd at h ⊢
   exact ⟨hk i h.1,fun g hg=>allOrd_mono hk (h.2 g hg)⟩
theorem runAnyT_sat {all : List Oper} {K : List AV -> Heap -> VC} {KT : FT -> Heap -> VC} (hK : ∀ t hp,WT t -> (KT t hp).sat R -> (K (flatT t) hp).sat R) : ∀ {f : Nat} {D : List Nat} {t : FT} {hp : Heap},WT t -> (runAnyT P S all f D t hp KT).sat R -> (runAny P S all f D (flatT t) hp K).sat R
 | 0,D,t,hp,hw,h=>h.elim
 | f + 1,D,t,hp,hw,h=>by
   simp only [runAnyT,runAny,cleanFTN_eq] at h ⊢
   rw [show getT t = getL (flatT t) from funext fun i=>getT_eq hw i] at h
   split at h
   ·rename_i i o ps a e
    simp only [e]
    simp only [forceD_eq] at h
    refine needs_mono (fun h=>?_) h
    exact setKT_mono (K:=fun fr'=>runAny P S all f (i :: D) fr' hp K) (fun t' hw'=>runAnyT_sat hK hw') hw h
   ·rename_i e
    simp only [e]
    split at h
    ·rename_i d c e2
     simp only [e2]
     exact ⟨fun hc=>setFT_mono (K:=fun fr'=>runAny P S all f D fr' hp K) (fun t' hw'=>runAnyT_sat hK hw') hw (h.1 hc),fun hc=>setFT_mono (K:=fun fr'=>runAny P S all f D fr' hp K) (fun t' hw'=>runAnyT_sat hK hw') hw (h.2 hc)⟩
    ·rename_i e1
     simp only [e1]
     split at h
     ·rename_i e2
      simp only [e2]
      exact cleanFT_mono hK hw h
     ·rename_i i0 l0 e2
      simp only [e2]
      refine allOrd_mono (fun i hh=>?_) h
      split at hh
      ·rename_i o e3
       split at hh
       ·rename_i e4
        simp only [e3,e4]
        exact runOpT_sat (K:=fun fr' hp'=>runAny P S all f (i :: D) fr' hp' K) (fun t' hp' hw'=>runAnyT_sat hK hw') hw hh
       ·exact hh.elim
      ·exact hh.elim
theorem wpAT_sat {U : Nat} {I : Anns} : ∀ (c : Code) {Q : AE -> List AV -> Heap -> VC} {QT : AE -> FT -> Heap -> VC},(∀ e t hp,WT t -> (QT e t hp).sat R -> (Q e (flatT t) hp).sat R) ->
  ∀ {t : FT} {hp : Heap},WT t -> (wpAT P S U I c t hp QT).sat R -> (wpA P S U I c (flatT t) hp Q).sat R
 | .skip,Q,QT,hQ,t,hp,hw,h=>by simp only [wpAT,wpA] at h ⊢; exact hQ _ _ _ hw h
 | .region id ops dr,Q,QT,hQ,t,hp,hw,h=>by
   simp only [wpAT,wpA,runOpsTN_eq,runMvTN_eq,runSwTN_eq,iterLTN_eq,flatTKN_eq,nilKnN_eq,nilKn_eq,exKn_eq,exRn_eq,toTKN_eq,forceHN_eq,setPsN_eq,topMN_eq,runAnyTN_eq] at h ⊢
   refine giveIT_sat (fun t hp hw h=>?_) hw h
   cases dr with
   | true =>
     dsimp only at h ⊢
     cases h0 : findS I (id + 4194304) with
     | some x =>
       rw [h0] at h
       dsimp only at h ⊢
       split at h
       ·rename_i e
        simp only [e]
        exact runAnyT_sat (hQ .normal) hw h
       ·exact h.elim
     | none =>
     rw [h0] at h
     dsimp only at h ⊢
     cases h1 : swGo ops.toList 0 ops.toList with
     | none =>
       rw [h1] at h
       dsimp only at h ⊢
       cases h3 : needP S ops.toList with
       | true=>rw [h3] at h; exact runPreT_sat (hQ .normal) hw h
       | false =>
         rw [h3] at h
         dsimp only at h ⊢
         cases h2 : needH S ops.toList with
         | false=>rw [h2] at h; exact runOpsT_sat (hQ .normal) _ _ _ _ _ _ hw h
         | true =>
           rw [h2] at h
           exact runMvT_sat (fun t' hw' hh=>runOpsT_sat (hQ .normal) _ _ _ _ _ _ hw' hh) hw h
     | some z =>
       rw [h1] at h
       dsimp only at h ⊢
       cases h2 : Nat.blt z.d (flatT t).length with
       | false=>rw [h2] at h; exact h.elim
       | true =>
         rw [h2] at h
         exact setFT_mono (fun t' hw' hh=>runSwT_sat (hQ .normal) hw' hh) hw h
   | false =>
     dsimp only at h ⊢
     rw [nilCmpT_eq] at h
     cases h1 : nilCmp P ops.toList (flatT t) with
     | none=>rw [h1] at h; exact runOpsT_sat (hQ .normal) _ _ _ _ _ _ hw h
     | some x =>
       obtain ⟨s,a,b,n⟩:=x
       rw [h1] at h
       dsimp only at h ⊢
       unfold nilVCT at h
       unfold nilVC
       rw [getT_eq hw] at h
       have two : ∀ v : AV,(setFT t a (getL (flatT t) s) fun f=>setFT f b v fun f=>QT .normal f hp).sat R -> (setF (flatT t) a (getL (flatT t) s) fun f=>setF f b v fun f=>Q .normal f hp).sat R:=fun v hh =>
        setFT_mono (K:=fun f=>setF f b v fun f=>Q .normal f hp) (fun t' hw' h'=>setFT_mono (K:=fun f=>Q .normal f hp) (fun t'' hw''=>hQ .normal t'' hp hw'') hw' h') hw hh
       exact ⟨⟨fun hb=>two _ (h.1.1 hb),h.1.2⟩,fun g hg=>two _ (h.2 g hg)⟩
 | .seq a b,Q,QT,hQ,t,hp,hw,h=>by
   simp only [wpAT,wpA,runOpsTN_eq,runMvTN_eq,runSwTN_eq,iterLTN_eq,flatTKN_eq,nilKnN_eq,nilKn_eq,exKn_eq,exRn_eq,toTKN_eq,forceHN_eq,setPsN_eq,topMN_eq] at h ⊢
   cases hcut : findS I (cutK b) with
   | none =>
     rw [hcut] at h
     dsimp only at h ⊢
     refine wpAT_sat a (fun e t' hp' hw' hh=>?_) hw h
     cases e with
     | normal=>exact wpAT_sat b hQ hw' hh
     | exit j=>exact hQ _ _ _ hw' hh
     | ret=>exact hQ _ _ _ hw' hh
   | some x =>
     obtain ⟨nl,ann⟩:=x
     rw [hcut] at h
     dsimp only at h ⊢
     rw [flatTK_eq] at h
     refine ⟨wpAT_sat a (fun e t' hp' hw' hh=>?_) hw h.1,fun g hg=>?_⟩
     ·cases e with
      | normal =>
        dsimp only at hh ⊢
        rw [flatTK_eq] at hh
        exact hh
      | exit j=>exact hQ _ _ _ hw' hh
      | ret=>exact hQ _ _ _ hw' hh
     ·have h2:=h.2 g hg
      dsimp only at h2 ⊢
      rw [forceL_eq] at h2 ⊢
      rw [forceH_eq] at h2 ⊢
      obtain ⟨t',h3,_,h4,h5⟩:=toTK_sat h2
      rw [<- h4]
      exact wpAT_sat b hQ h3 h5
 | .cond c a b,Q,QT,hQ,t,hp,hw,h=>by
   simp only [wpAT,wpA,runOpsTN_eq,runMvTN_eq,runSwTN_eq,iterLTN_eq,flatTKN_eq,nilKnN_eq,nilKn_eq,exKn_eq,exRn_eq,toTKN_eq,forceHN_eq,setPsN_eq,topMN_eq] at h ⊢
   split at h
   ·try dsimp only at h ⊢
    refine branchKT_sat (fun x t' hw' hh=>?_) hw h
    cases x with
    | true=>exact wpAT_sat a hQ hw' hh
    | false=>exact wpAT_sat b hQ hw' hh
   ·exact wpAT_sat a hQ hw h
   ·exact wpAT_sat b hQ hw h
   ·exact h.elim
 | .block id c,Q,QT,hQ,t,hp,hw,h=>by
   simp only [wpAT,wpA,runOpsTN_eq,runMvTN_eq,runSwTN_eq,iterLTN_eq,flatTKN_eq,nilKnN_eq,nilKn_eq,exKn_eq,exRn_eq,toTKN_eq,forceHN_eq,setPsN_eq,topMN_eq] at h ⊢
   refine wpAT_sat c (fun e t' hp' hw' hh=>?_) hw h
   cases e with
   | normal=>exact hQ _ _ _ hw' hh
   | exit j =>
     dsimp only at hh ⊢
     cases hb : Nat.beq id j with
     | true=>rw [hb] at hh; exact hQ _ _ _ hw' hh
     | false=>rw [hb] at hh; exact hQ _ _ _ hw' hh
   | ret=>exact hQ _ _ _ hw' hh
 | .loop c,Q,QT,hQ,t,hp,hw,h=>by
   simp only [wpAT,wpA,runOpsTN_eq,runMvTN_eq,runSwTN_eq,iterLTN_eq,flatTKN_eq,nilKnN_eq,nilKn_eq,exKn_eq,exRn_eq,toTKN_eq,forceHN_eq,setPsN_eq,topMN_eq] at h ⊢
   cases h1 : findS I (firstRegion c) with
   | none =>
     rw [h1] at h
     exact iterLT_sat (fun {_ _} hQ' {_ _} hw' hh=>wpAT_sat c hQ' hw' hh) hQ hw h
   | some x =>
     obtain ⟨nils,ann⟩:=x
     rw [h1] at h
     dsimp only at h ⊢
     rw [flatTK_eq] at h
     refine nilK_mono (fun fr hp' hh=>?_) h
     refine ⟨hh.1,fun g hg=>?_⟩
     have h2:=hh.2 g hg
     dsimp only at h2 ⊢
     rw [forceL_eq] at h2 ⊢
     rw [forceH_eq] at h2 ⊢
     obtain ⟨t',h3,_,h4,h5⟩:=toTK_sat h2
     rw [<- h4]
     refine wpAT_sat c (fun e t'' hp'' hw'' h6=>?_) h3 h5
     cases e with
     | normal =>
       dsimp only at h6 ⊢
       rw [flatTK_eq] at h6
       exact h6
     | exit j=>exact hQ _ _ _ hw'' h6
     | ret=>exact hQ _ _ _ hw'' h6
 | .rangeFunc g ps assign body,Q,QT,hQ,t,hp,hw,h=>by
   simp only [wpAT,wpA,runOpsTN_eq,runMvTN_eq,runSwTN_eq,iterLTN_eq,flatTKN_eq,nilKnN_eq,nilKn_eq,exKn_eq,exRn_eq,toTKN_eq,forceHN_eq,setPsN_eq,topMN_eq] at h ⊢
   have key : ∀ x : Items,((match findS I (keyR assign body) with
     | none=>VC.fail
     | some (nils,ann)=>flatTK t fun fr=>nilK nils fr hp fun fr hp =>
       let A:=ann fr hp
       .loop (A:=A) A.dat (exR S.lo A 0 fr hp) fun g=>forceL (A.st g).fr fun fr=>forceH (A.st g).hp fun hp =>
        .branch (nlt (A.mu g) x.n)
         (setPs ps.toList (x.it (A.mu g)) fr fun fr1=>toTK 64 fr1 fun t1=>wpAT P S U I assign t1 hp fun e t2 hp2=>match e with
          | .normal=>wpAT P S U I body t2 hp2 fun e t3 hp3=>flatTK t3 fun fr3=>topM (Nat.lor (mskP ps.toList) (Nat.lor (mskC assign) (mskC body))) fr3 0 fun fr4=>match e with
            | .normal=>exR S.lo A (nadd (A.mu g) 1) fr4 hp3
            | e=>toTK 64 fr4 fun t4=>QT e t4 hp3
          | _=>.fail)
         (toTK 64 fr fun t=>QT .normal t hp)) : VC).sat R -> ((match findS I (keyR assign body) with
     | none=>VC.fail
     | some (nils,ann)=>nilK nils (flatT t) hp fun fr hp =>
       let A:=ann fr hp
       .loop (A:=A) A.dat (exR S.lo A 0 fr hp) fun g=>forceL (A.st g).fr fun fr=>forceH (A.st g).hp fun hp =>
        .branch (nlt (A.mu g) x.n)
         (setPs ps.toList (x.it (A.mu g)) fr fun fr1=>wpA P S U I assign fr1 hp fun e fr2 hp2=>match e with
          | .normal=>wpA P S U I body fr2 hp2 fun e fr3 hp3=>topM (Nat.lor (mskP ps.toList) (Nat.lor (mskC assign) (mskC body))) fr3 0 fun fr4=>match e with
            | .normal=>exR S.lo A (nadd (A.mu g) 1) fr4 hp3
            | e=>Q e fr4 hp3
          | _=>.fail)
         (Q .normal fr hp)) : VC).sat R:=fun x h=>by
    cases h1 : findS I (keyR assign body) with
    | none=>rw [h1] at h; exact h.elim
    | some y =>
      obtain ⟨nils,ann⟩:=y
      rw [h1] at h
      dsimp only at h ⊢
      rw [flatTK_eq] at h
      refine nilK_mono (fun fr hp' hh=>?_) h
      refine ⟨hh.1,fun g hg=>?_⟩
      have h2:=hh.2 g hg
      dsimp only at h2 ⊢
      rw [forceL_eq] at h2 ⊢
      rw [forceH_eq] at h2 ⊢
      refine ⟨fun hb=>?_,fun hb=>?_⟩
      ·refine setPs_mono (fun fr1 h3=>?_) (h2.1 hb)
       obtain ⟨t1,g1,_,g2,g3⟩:=toTK_sat h3
       rw [<- g2]
       refine wpAT_sat assign (fun e t2 hp2 hw2 h4=>?_) g1 g3
       cases e with
       | normal =>
         refine wpAT_sat body (fun e t3 hp3 hw3 h5=>?_) hw2 h4
         rw [flatTK_eq] at h5
         refine topM_mono (fun fr4 h6=>?_) h5
         cases e with
         | normal=>exact h6
         | exit j =>
           dsimp only at h6 ⊢
           obtain ⟨t4,k1,_,k2,k3⟩:=toTK_sat h6
           rw [<- k2]; exact hQ _ _ _ k1 k3
         | ret =>
           dsimp only at h6 ⊢
           obtain ⟨t4,k1,_,k2,k3⟩:=toTK_sat h6
           rw [<- k2]; exact hQ _ _ _ k1 k3
       | exit j=>exact h4.elim
       | ret=>exact h4.elim
      ·obtain ⟨t1,g1,_,g2,g3⟩:=toTK_sat (h2.2 hb)
       rw [<- g2]; exact hQ _ _ _ g1 g3
   unfold callItT at h
   simp only [needsN_eq] at h
   unfold callIt
   cases g with
   | tmp d =>
     dsimp only at h ⊢
     rw [getT_eq hw] at h
     split at h
     ·rename_i gf caps e
      rw [e]
      dsimp only at h ⊢
      split at h
      ·rename_i it e1 e2
       rw [e1,e2]
       dsimp only at h ⊢
       split at h
       ·rename_i x e3
        rw [e3]
        exact needs_mono (key x) h
       ·exact h.elim
      ·exact h.elim
     ·exact h.elim
   | const v=>exact h.elim
   | global v=>exact h.elim
   | func v=>exact h.elim
 | .exit id,Q,QT,hQ,t,hp,hw,h=>by simp only [wpAT,wpA] at h ⊢; exact hQ _ _ _ hw h
 | .ret,Q,QT,hQ,t,hp,hw,h=>by simp only [wpAT,wpA] at h ⊢; exact hQ _ _ _ hw h
 | .scope _,Q,QT,hQ,t,hp,hw,h=>by simp only [wpAT] at h; exact h.elim
theorem resKT_eq {t : FT} (hw : WT t) (hp : Heap) : ∀ (l : List ResultVar) (k : List AV -> VC),resKT P t hp l k = resK P (flatT t) hp l k
 | [],_=>rfl
 | .tmp i :: l,k=>by simp only [resKT,resK,resKT_eq hw hp l,getT_eq hw]
 | .cell a ty :: l,k=>by
   simp only [resKT,resK,resKT_eq hw hp l,getT_eq hw]
   rfl
theorem wpFT_sat {U : Nat} {I : Anns} {fn : Func} {args : List AV} {hp : Heap} (h : (wpFT P S U I fn args hp).sat R) : (wpF P S U I fn args hp).sat R:=by
 unfold wpFT at h
 simp only [toTKN_eq,wpATN_eq,resKTN_eq] at h
 unfold wpF
 cases hb : fn.body with
 | none=>rw [hb] at h; exact h.elim
 | some c =>
   rw [hb] at h
   dsimp only at h ⊢
   rw [forceL_eq] at h ⊢
   obtain ⟨t,h1,_,h2,h3⟩:=toTK_sat h
   rw [<- h2]
   refine wpAT_sat c (fun e t' hp' hw' hh=>?_) h1 h3
   cases e with
   | exit j=>exact hh.elim
   | normal=>dsimp only at hh ⊢; rw [resKT_eq hw'] at hh; exact hh
   | ret=>dsimp only at hh ⊢; rw [resKT_eq hw'] at hh; exact hh
end
end
end Abs
end Go.Proofs.YtlacopdaibhkkaaGreat

namespace Go.Proofs.YtlacopdaibhkkaaGreat
namespace Abs
open Go Go.RowKit
section
variable {P : Program} {S : Sums} {C C' : Cx} {w w' : World} {H hp : Heap}
theorem appP_mem : ∀ {l m : List Cd},(∀ p ∈ appP l m,p.ok) -> (∀ p ∈ l,p.ok) /\ ∀ p ∈ m,p.ok
 | [],m,h=>⟨fun p hp=>by simp at hp,h⟩
 | p :: l,m,h=>by
   obtain ⟨h1,h2⟩:=appP_mem (l:=l) (m:=m) fun q hq=>h q (List.mem_cons_of_mem _ hq)
   exact ⟨fun q hq=>by
    rcases List.mem_cons.1 hq with rfl | hq
    ·exact h _ (List.mem_cons_self ..)
    ·exact h1 q hq,h2⟩
theorem enc_okC : ∀ {s : Sh} {x : Dat s},cellSh s = true -> okC (enc s x) = true
 | .int k,x,_=>by simp [enc,okC]
 | .bool,x,_=>by simp [enc,okC]
 | .slice sz e,x,_=>by simp [enc,okC]
 | .agg l,x,h=>by cases h
 | .fn _ _ _,x,h=>by cases h
 | .ptr _,x,h=>by cases h
 | .own _ _,x,h=>by cases h
 | .rowr _,x,h=>by cases h
 | .any,x,h=>by cases h
theorem enc_okL : ∀ {l : List Sh} {x : DatL l},cellShL l = true -> okL (encL l x) = true
 | [],_,_=>by simp [encL,okL]
 | s :: l,x,h=>by
   simp [cellShL] at h
   simp [encL,okL,enc_okC h.1,enc_okL h.2]
theorem encL_len : ∀ {l : List Sh} {x : DatL l},(encL l x).length = l.length
 | [],_=>by simp [encL]
 | s :: l,x=>by simp [encL,encL_len]
mutual
theorem enc_noOwn : ∀ {s : Sh} {x : Dat s},noOwn s = true -> ownIn (enc s x) = false
 | .int k,x,_=>by simp [enc,ownIn]
 | .bool,x,_=>by simp [enc,ownIn]
 | .slice sz e,x,_=>by simp [enc,ownIn]
 | .agg l,x,h=>by
   unfold noOwn at h
   simp only [enc,ownIn]
   exact enc_noOwnL h
 | .fn _ a b,x,h=>by
   unfold noOwn at h
   simp only [Bool.and_eq_true] at h
   simp only [enc,ownIn]
   rw [enc_noOwnL h.1,enc_noOwnL h.2]; rfl
 | .ptr _,x,_=>by simp [enc,ownIn]
 | .own _ _,x,h=>by cases h
 | .rowr _,x,h=>by cases h
 | .any,x,h=>by cases h
theorem enc_noOwnL : ∀ {l : List Sh} {x : DatL l},noOwnL l = true -> ownIn.ownInL (encL l x) = false
 | [],_,_=>by simp [encL,ownIn.ownInL]
 | s :: l,x,h=>by
   unfold noOwnL at h
   simp only [Bool.and_eq_true] at h
   simp only [encL,ownIn.ownInL]
   rw [enc_noOwn h.1,enc_noOwnL h.2]; rfl
end
theorem preL_len : ∀ (l : List Sh) (m : List AV),(preL l m).length <= m.length
 | [],_=>Nat.zero_le _
 | _ :: _,[]=>Nat.le_refl _
 | _ :: l,_ :: m=>by
   have:=preL_len l m
   simp only [preL,List.length_cons]; omega
theorem preL_rel : ∀ (l : List Sh) {m : List AV} {vs : List Value},RelL C w m vs -> RelL C w (preL l m) (vs.take (preL l m).length)
 | [],_,_,_=>by simp only [preL,List.length_nil,List.take_zero]; exact .nil
 | _ :: _,_,_,.nil=>by simp only [preL,List.length_nil,List.take_zero]; exact .nil
 | _ :: l,_,_,.cons _ _ _ _ h h'=>by
   simp only [preL,List.length_cons,List.take_succ_cons]
   exact .cons _ _ _ _ h (preL_rel l h')
mutual
theorem enc_dec : ∀ {s : Sh} {a : AV} {v : Value},okSh s a = true -> CanSh s a -> Rel C w a v -> Rel C w (enc s (dec s a)) v
 | .int k,a,v,h,_,hr=>by
   unfold okSh at h
   split at h
   ·rename_i k' hk
    have h:=of_decide_eq_true h
    subst h
    rw [kindOf_rel hr hk]
    simp only [enc,dec]
    exact .si _ _
   ·cases h
 | .bool,a,v,h,_,hr=>by
   unfold okSh at h
   simp only [enc,dec]
   cases a <;> simp [isBoolA] at h
   ·cases hr; exact .sb _
   ·cases hr; exact .sb _
 | .slice sz e,a,v,h,hc,hr=>by
   unfold okSh at h
   simp only [Bool.and_eq_true] at h
   obtain ⟨hcs,h⟩:=h
   split at h
   ·rename_i n sz' el
    obtain rfl:=Nat.eq_of_beq_eq_true h
    unfold CanSh at hc
    unfold enc dec
    cases hr with
    | slc _ _ _ A cap vs hcap hA hr hl hn =>
      exact .slc (.sym n.val) sz _ A cap vs hcap hA (fun k hk=>encL_dec (hc k hk) (hr k hk)) hl (fun k hk=>enc_okL hcs)
   ·cases hr
    unfold enc dec
    exact .slc (.sym 0) sz _ none 0 (fun _=>[]) (Nat.le_refl _) (fun h=>by simp [LN.val] at h) (fun k hk=>by simp [LN.val] at hk) (fun k hk=>by simp [LN.val] at hk) (fun k hk=>by simp [LN.val] at hk)
   ·cases h
 | .agg l,a,v,h,hc,hr=>by
   unfold CanSh at hc
   split at hc
   ·rename_i m
    cases hr with
    | agg _ vs hr =>
      unfold enc dec
      exact .agg _ vs (encL_dec hc hr)
   ·exact hc.elim
 | .fn f a b,x,v,h,hc,hr=>by
   unfold okSh at h
   unfold CanSh at hc
   split at h
   ·rename_i g l m
    simp only [Bool.and_eq_true] at h
    obtain rfl:=Nat.eq_of_beq_eq_true h.1.1
    cases hr with
    | fn _ _ _ vs ws h1 h2 =>
      unfold enc dec
      exact .fn _ _ _ vs ws (encL_dec hc.1 h1) (encL_dec hc.2 h2)
   ·cases h
 | .ptr l,a,v,h,hc,hr=>by
   unfold okSh at h
   unfold CanSh at hc
   split at h
   ·rename_i m
    simp only [Bool.and_eq_true] at h
    cases hr with
    | xp _ ad vs hr hI hcl hn =>
      unfold enc dec
      show Rel C w (.xp (encL l (decL l (preL l m)))) _
      have h0:=preL_rel l hr
      have h1:=encL_dec hc h0
      have h2:=h1.len
      have h3:=h0.len
      have h5:=preL_len l m
      refine .xp _ ad (vs.take (preL l m).length) h1 (fun hne=>hI fun e=>hne ?_) (fun j hj=>?_) (enc_noOwnL h.1)
      ·have h4 : m.length = 0:=by rw [e]; rfl
       exact List.length_eq_zero_iff.1 (by omega)
      ·have h6 : j < (preL l m).length:=by omega
       rw [hcl j (by omega),List.getElem?_take_of_lt h6]
   ·cases h
 | .own i off,a,v,h,_,hr=>by
   unfold okSh at h
   split at h
   ·simp only [Bool.and_eq_true] at h
    obtain rfl:=Nat.eq_of_beq_eq_true h.1
    obtain rfl:=Nat.eq_of_beq_eq_true h.2
    unfold enc; exact hr
   ·cases h
 | .rowr i,a,v,h,_,hr=>by
   unfold okSh at h
   split at h
   ·obtain rfl:=Nat.eq_of_beq_eq_true h
    unfold enc; exact hr
   ·cases h
 | .any,a,v,_,_,hr=>by unfold enc dec; exact hr
theorem encL_dec : ∀ {l : List Sh} {m : List AV} {vs : List Value},CanL l m -> RelL C w m vs -> RelL C w (encL l (decL l m)) vs
 | [],m,vs,h,hr=>by
   unfold CanL at h
   split at h
   ·cases hr; unfold encL; exact .nil
   ·exact h.elim
 | s :: l,m,vs,h,hr=>by
   unfold CanL at h
   split at h
   ·rename_i a m
    cases hr with
    | cons _ _ v vs h1 h2 =>
      unfold encL decL
      exact .cons _ _ _ _ (enc_dec h.1 h.2.1 h1) (encL_dec h.2.2 h2)
   ·exact h.elim
end
mutual
theorem can_sh : ∀ {s : Sh} {a : AV},okSh s a = true -> (∀ p ∈ canSh s a,p.ok) -> CanSh s a
 | .int k,a,_,_=>by unfold CanSh; trivial
 | .bool,a,_,_=>by unfold CanSh; trivial
 | .any,a,_,_=>by unfold CanSh; trivial
 | .own _ _,a,_,_=>by unfold CanSh; trivial
 | .rowr _,a,_,_=>by unfold CanSh; trivial
 | .slice sz e,a,h,hc=>by
   unfold CanSh
   split
   ·rename_i n sz' el
    exact hc ⟨CanEl e,(n.val,el)⟩ (by unfold canSh; exact List.mem_singleton.2 rfl)
   ·trivial
 | .agg l,a,h,hc=>by
   unfold okSh at h
   unfold CanSh
   split at h
   ·rename_i m
    exact can_shL h (fun p hp=>hc p (by unfold canSh; exact hp))
   ·cases h
 | .fn f a b,v,h,hc=>by
   unfold okSh at h
   unfold CanSh
   split at h
   ·rename_i g l m
    simp only [Bool.and_eq_true] at h
    obtain ⟨h1,h2⟩:=appP_mem (l:=canShL a l) (m:=canShL b m) fun p hp=>hc p (by unfold canSh; exact hp)
    exact ⟨can_shL h.1.2 h1,can_shL h.2 h2⟩
   ·cases h
 | .ptr l,a,h,hc=>by
   unfold okSh at h
   unfold CanSh
   split at h
   ·rename_i m
    simp only [Bool.and_eq_true] at h
    exact can_shL h.2 (fun p hp=>hc p (by unfold canSh; exact hp))
   ·cases h
theorem can_shL : ∀ {l : List Sh} {m : List AV},okShL l m = true -> (∀ p ∈ canShL l m,p.ok) -> CanL l m
 | [],m,h,_=>by
   unfold okShL at h
   unfold CanL
   split at h
   ·trivial
   ·cases h
 | s :: l,m,h,hc=>by
   unfold okShL at h
   unfold CanL
   split at h
   ·rename_i a m
    simp only [Bool.and_eq_true] at h
    obtain ⟨h1,h2⟩:=appP_mem (l:=canSh s a) (m:=canShL l m) fun p hp=>hc p (by unfold canShL; exact hp)
    exact ⟨h.1,can_sh h.1 h1,can_shL h.2 h2⟩
   ·cases h
end
structure Spec (shs : List Sh) where
 pre : DatL shs -> Prop
 res : DatL shs -> AV
noncomputable def mkSum (shs : List Sh) (sp : Spec shs) : Summ:=fun args=>match okShLN shs args with
 | true=>decKLN shs args fun x=>some ⟨appP (canShLN shs args) [⟨sp.pre,x⟩],sp.res x,[]⟩
 | false=>none
mutual
theorem decK_eq {β : Type 1} : ∀ {s : Sh} {a : AV} {f : Dat s -> β},okSh s a = true -> decK s a f = f (dec s a)
 | .int k,a,f,h=>by
   unfold okSh at h
   cases a <;> simp [kindOf] at h <;> simp [decK,dec,intOf]
 | .bool,a,f,h=>by
   unfold okSh at h
   cases a <;> simp [isBoolA] at h <;> simp [decK,dec,boolOf]
 | .slice sz e,a,f,h=>by
   unfold okSh at h
   simp only [Bool.and_eq_true] at h
   obtain ⟨_,h⟩:=h
   split at h
   ·rename_i n _ el; unfold decK dec; cases n <;> rfl
   ·unfold decK dec; rfl
   ·cases h
 | .agg l,a,f,h=>by
   unfold okSh at h
   split at h
   ·unfold decK dec; exact decKL_eq h
   ·cases h
 | .fn _ x y,a,f,h=>by
   unfold okSh at h
   split at h
   ·simp only [Bool.and_eq_true] at h
    unfold decK dec
    simp only
    rw [decKL_eq h.1.2,decKL_eq h.2]
   ·cases h
 | .ptr l,a,f,h=>by
   unfold okSh at h
   split at h
   ·simp only [Bool.and_eq_true] at h
    unfold decK dec; exact decKL_eq h.2
   ·cases h
 | .own _ _,a,f,_=>by unfold decK dec; rfl
 | .rowr _,a,f,_=>by unfold decK dec; rfl
 | .any,a,f,_=>by unfold decK dec; rfl
theorem decKL_eq {β : Type 1} : ∀ {l : List Sh} {m : List AV} {f : DatL l -> β},okShL l m = true -> decKL l m f = f (decL l m)
 | [],m,f,h=>by unfold decKL decL; rfl
 | s :: l,m,f,h=>by
   unfold okShL at h
   split at h
   ·simp only [Bool.and_eq_true] at h
    unfold decKL decL
    simp only
    rw [decK_eq h.1,decKL_eq h.2]
   ·cases h
end
theorem Fn.weaken {f : FuncId} {args args' : List AV} {r : AV} {H' : Heap} (h : Fn P f args' H r H') (hw : ∀ (C : Cx) (w : World) (vs : List Value),RelL C w args vs -> RelL C w args' vs) : Fn P f args H r H' :=
 fun C w vs hO hH ha=>h C w vs hO hH (hw C w vs ha)
def FnSpec (P : Program) (f : FuncId) (shs : List Sh) (sp : Spec shs) : Prop:=∀ x : DatL shs,sp.pre x -> Fn P f (encL shs x) [] (sp.res x) []
theorem mkSum_ok {f : FuncId} {shs : List Sh} {sp : Spec shs} (h : FnSpec P f shs sp) : ∀ args pre res new,mkSum shs sp args = some ⟨pre,res,new⟩ -> (∀ p ∈ pre,p.ok) -> Fn P f args [] res new:=by
 intro args pre res new hm hp
 unfold mkSum at hm
 simp only [okShLN_eq,decKLN_eq,canShLN_eq] at hm
 split at hm
 ·rename_i hok
  rw [decKL_eq hok] at hm
  injection hm with hm; injection hm with h1 h2 h3
  subst h1 h2 h3
  obtain ⟨h4,h5⟩:=appP_mem hp
  exact (h _ (h5 _ (List.mem_singleton.2 rfl))).weaken fun C w vs ha=>encL_dec (can_shL hok h4) ha
 ·cases hm
theorem SumsOK.nil (P : Program) (lo : Nat) (eqs : List (Nat × List (Option IntKind))) (h : ∀ t ks,findS eqs t = some ks -> EqOK P t ks) : SumsOK P ⟨[],[],lo,eqs,[],[]⟩ :=
 ⟨(fun _ _ h=>by cases h),(fun _ _ h=>by cases h),h,(fun _ _ h=>by cases h),(fun _ _ h=>by cases h),(fun _ _ h=>by cases h)⟩
theorem SumsOK.addIt {one : List (Nat × Summ)} {two : List (Nat × Summ2)} {lo : Nat} {eqs : List (Nat × List (Option IntKind))} {its : List (Nat × Iter)} {imm : List Nat} (hS : SumsOK P ⟨one, two, lo, eqs, its, imm⟩) {f : FuncId} {fn : Func} (hf : P.funcs[f]? = some fn) (hn : (fn.name == "runtime.NumGoroutine") = false) (hb : fn.body.isNone = false)
  {it : Iter} (h : IterOK P f it) : SumsOK P ⟨one,two,lo,eqs,(f,it) :: its,imm⟩:=by
 refine ⟨hS.one,hS.two,hS.eqs,hS.bodyOne,hS.bodyTwo,fun g s1 hg=>?_⟩
 simp only [findS] at hg
 split at hg
 ·rename_i e
  injection hg with hg; subst hg
  obtain rfl:=Nat.eq_of_beq_eq_true e
  exact ⟨h,fn,hf,hn,hb⟩
 ·exact hS.its g s1 hg
theorem SumsOK.cons {one : List (Nat × Summ)} {two : List (Nat × Summ2)} {lo : Nat} {eqs : List (Nat × List (Option IntKind))} {its : List (Nat × Iter)} {imm : List Nat} (hS : SumsOK P ⟨one, two, lo, eqs, its, imm⟩) {f : FuncId} {fn : Func} (hf : P.funcs[f]? = some fn) (hn : (fn.name == "runtime.NumGoroutine") = false) (hb : fn.body.isNone = false)
  {shs : List Sh} {sp : Spec shs} (h : FnSpec P f shs sp) : SumsOK P ⟨(f,mkSum shs sp) :: one,two,lo,eqs,its,imm⟩:=by
 refine ⟨fun g s1 hg=>?_,hS.two,hS.eqs,fun g s1 hg=>?_,hS.bodyTwo,hS.its⟩
 ·simp only [findS] at hg
  split at hg
  ·rename_i e
   injection hg with hg; subst hg
   obtain rfl:=Nat.eq_of_beq_eq_true e
   exact mkSum_ok h
  ·exact hS.one g s1 hg
 ·simp only [findS] at hg
  split at hg
  ·rename_i e
   obtain rfl:=Nat.eq_of_beq_eq_true e
   exact ⟨fn,hf,hn,hb⟩
  ·exact hS.bodyOne g s1 hg
def FnSat (P : Program) (S : Sums) (U : Nat) (I : Anns) (fn : Func) (args : List AV) (H : Heap) (r : AV) (H' : Heap) : Prop :=
 (wpFT P S U I fn args H).sat fun a hp=>(leS H.length [a] hp ⟨[r],H'⟩).sat fun _ _=>True
theorem Fn.of (hS : SumsOK P S) (hm : P.follows .mixedOrders = true) {U : Nat} {I : Anns} {f : FuncId} {fn : Func} {c : Code} (hf : P.funcs[f]? = some fn) (hb : fn.body = some c) (hok : codeOK c = true) {args : List AV} {r : AV} {H' : Heap}
  (hlo : S.lo = H.length) (hng : ∀ t,notGd (getL args t)) (hn : args.length <= fn.ntmps) (h : FnSat P S U I fn args H r H') : Fn P f args H r H':=by
 intro C w vs hO hH ha
 refine (calls_wpF hS hm hf hb hok (by omega) hH ha hng hn (wpFT_sat h)).mono ?_
 rintro e w' ⟨v,a,hp',C1,he,hle,h1,h2,h3,h4⟩
 rw [hlo] at h1 h4
 obtain ⟨h5,h6,h7,h8⟩:=leS_sat hle h2 h1
 have h9 : Rel (C1.cut H.length H') w' r v:=by
  unfold leS at hle
  unfold leL at hle
  exact ((leA_sat hle).2 C1 w' h2 v h3).1
 refine ⟨v,_,he,h5,h9,((Since.refl (fun i hi=>?_) hO).step h4).step h8⟩
 cases hc : C.ρ i with
 | none=>rfl
 | some p=>have:=hH.lt hc; omega
structure SpecN (shs : List Sh) where
 pre : DatL shs -> Prop
 res : DatL shs -> AV
 new : DatL shs -> Heap
noncomputable def mkSumN (shs : List Sh) (sp : SpecN shs) : Summ:=fun args=>match okShLN shs args with
 | true=>decKLN shs args fun x=>some ⟨appP (canShLN shs args) [⟨sp.pre,x⟩],sp.res x,sp.new x⟩
 | false=>none
def FnSpecN (P : Program) (f : FuncId) (shs : List Sh) (sp : SpecN shs) : Prop:=∀ x : DatL shs,sp.pre x -> Fn P f (encL shs x) [] (sp.res x) (sp.new x)
theorem mkSumN_ok {f : FuncId} {shs : List Sh} {sp : SpecN shs} (h : FnSpecN P f shs sp) : ∀ args pre res new,mkSumN shs sp args = some ⟨pre,res,new⟩ -> (∀ p ∈ pre,p.ok) -> Fn P f args [] res new:=by
 intro args pre res new hm hp
 unfold mkSumN at hm
 simp only [okShLN_eq,decKLN_eq,canShLN_eq] at hm
 split at hm
 ·rename_i hok
  rw [decKL_eq hok] at hm
  injection hm with hm; injection hm with h1 h2 h3
  subst h1 h2 h3
  obtain ⟨h4,h5⟩:=appP_mem hp
  exact (h _ (h5 _ (List.mem_singleton.2 rfl))).weaken fun C w vs ha=>encL_dec (can_shL hok h4) ha
 ·cases hm
def SummOK (P : Program) (f : FuncId) (s : Summ) : Prop:=∀ args pre res new,s args = some ⟨pre,res,new⟩ -> (∀ p ∈ pre,p.ok) -> Fn P f args [] res new
def altSum (s t : Summ) : Summ:=fun args=>match s args with | some r=>some r | none=>t args
theorem altSum_ok {f : FuncId} {s t : Summ} (hs : SummOK P f s) (ht : SummOK P f t) : SummOK P f (altSum s t):=by
 intro args pre res new h hp
 unfold altSum at h
 split at h
 ·rename_i r hr
  injection h with h; subst h
  exact hs _ _ _ _ hr hp
 ·exact ht _ _ _ _ h hp
theorem SumsOK.add {one : List (Nat × Summ)} {two : List (Nat × Summ2)} {lo : Nat} {eqs : List (Nat × List (Option IntKind))} {its : List (Nat × Iter)} {imm : List Nat} (hS : SumsOK P ⟨one, two, lo, eqs, its, imm⟩) {f : FuncId} {fn : Func} (hf : P.funcs[f]? = some fn) (hn : (fn.name == "runtime.NumGoroutine") = false) (hb : fn.body.isNone = false)
  {s : Summ} (h : SummOK P f s) : SumsOK P ⟨(f,s) :: one,two,lo,eqs,its,imm⟩:=by
 refine ⟨fun g s1 hg=>?_,hS.two,hS.eqs,fun g s1 hg=>?_,hS.bodyTwo,hS.its⟩
 ·simp only [findS] at hg
  split at hg
  ·rename_i e
   injection hg with hg; subst hg
   obtain rfl:=Nat.eq_of_beq_eq_true e
   exact h
  ·exact hS.one g s1 hg
 ·simp only [findS] at hg
  split at hg
  ·rename_i e
   obtain rfl:=Nat.eq_of_beq_eq_true e
   exact ⟨fn,hf,hn,hb⟩
  ·exact hS.bodyOne g s1 hg
def noAny : List Sh -> Bool
 | []=>true
 | .any :: _=>false
 | _ :: l=>noAny l
theorem encL_ng : ∀ {l : List Sh} {x : DatL l},noAny l = true -> ∀ t,notGd (getL (encL l x) t)
 | [],_,_,t=>by simp only [encL,getL]; trivial
 | s :: l,x,h,0=>by
   simp only [encL,getL]
   cases s <;> simp [enc,notGd]
   cases h
 | s :: l,x,h,t + 1=>by
   simp only [encL,getL]
   exact encL_ng (by cases s <;> first | exact h | cases h) t
theorem FnSpec.of (hS : SumsOK P S) (hm : P.follows .mixedOrders = true) {shs : List Sh} {U : Nat} {I : DatL shs -> Anns} {f : FuncId} {fn : Func} {c : Code} (hf : P.funcs[f]? = some fn) (hb : fn.body = some c) (hok : codeOK c = true) {sp : Spec shs}
  (hlo : S.lo = 0) (hany : noAny shs = true) (hn : shs.length <= fn.ntmps) (h : ∀ x,sp.pre x -> FnSat P S U (I x) fn (encL shs x) [] (sp.res x) []) : FnSpec P f shs sp :=
 fun x hx=>Fn.of hS hm hf hb hok hlo (encL_ng hany) (by rw [encL_len]; exact hn) (h x hx)
theorem FnSpecN.of (hS : SumsOK P S) (hm : P.follows .mixedOrders = true) {shs : List Sh} {U : Nat} {I : DatL shs -> Anns} {f : FuncId} {fn : Func} {c : Code} (hf : P.funcs[f]? = some fn) (hb : fn.body = some c) (hok : codeOK c = true) {sp : SpecN shs}
  (hlo : S.lo = 0) (hany : noAny shs = true) (hn : shs.length <= fn.ntmps) (h : ∀ x,sp.pre x -> FnSat P S U (I x) fn (encL shs x) [] (sp.res x) (sp.new x)) : FnSpecN P f shs sp :=
 fun x hx=>Fn.of hS hm hf hb hok hlo (encL_ng hany) (by rw [encL_len]; exact hn) (h x hx)
end
end Abs
end Go.Proofs.YtlacopdaibhkkaaGreat

namespace Go.Proofs.YtlacopdaibhkkaaGreat
namespace Abs
open Go
@[simp] theorem iadd_eq (a b : Int) : iadd a b = a + b:=by unfold iadd; rfl
@[simp] theorem isub_eq (a b : Int) : isub a b = a - b:=by unfold isub; rfl
@[simp] theorem imul_eq (a b : Int) : imul a b = a * b:=by unfold imul; rfl
@[simp] theorem iquo_eq (a b : Int) : iquo a b = a.tdiv b:=by unfold iquo; rfl
@[simp] theorem irem_eq (a b : Int) : irem a b = a.tmod b:=by unfold irem; rfl
@[simp] theorem ieq_eq (a b : Int) : ieq a b = (a == b):=by unfold ieq; rfl
@[simp] theorem ilt_eq (a b : Int) : ilt a b = decide (a < b):=by unfold ilt; rfl
@[simp] theorem ile_eq (a b : Int) : ile a b = decide (a <= b):=by unfold ile; rfl
@[simp] theorem imin_eq (a b : Int) : imin a b = min a b:=by unfold imin; split <;> omega
@[simp] theorem imax_eq (a b : Int) : imax a b = max a b:=by unfold imax; split <;> omega
@[simp] theorem iwrap_eq (k : IntKind) (a : Int) : iwrap k a = k.wrap a:=by unfold iwrap; rfl
@[simp] theorem ibnot_eq (a : Bool) : bnot a = !a:=bnot_eq a
@[simp] theorem iband_eq (a b : Bool) : band a b = (a && b):=band_eq a b
@[simp] theorem ibor_eq (a b : Bool) : bor a b = (a || b):=bor_eq a b
@[simp] theorem beqb_eq (a b : Bool) : beqb a b = (a == b):=by unfold beqb; rfl
@[simp] theorem ibite_eq (c a b : Bool) : bite c a b = if c then a else b:=bite_eq c a b
@[simp] theorem nat_eq (a : Int) : nat a = a.toNat:=by unfold nat; rfl
@[simp] theorem icast_eq (a : Nat) : icast a = (a : Int):=by unfold icast; rfl
@[simp] theorem nadd_eq (a b : Nat) : nadd a b = a + b:=by unfold nadd; rfl
@[simp] theorem nlt_eq (a b : Nat) : nlt a b = decide (a < b):=by unfold nlt; rfl
@[simp] theorem nsub_eq (a b : Nat) : nsub a b = a - b:=by unfold nsub; rfl
@[simp] theorem inr64 (n : Int) : InR .i64 n ↔ -9223372036854775808 <= n /\ n <= 9223372036854775807:=by
 unfold InR; simp [IntKind.min,IntKind.max,IntKind.signed,IntKind.bits]
inductive Ins where
 | k (n : Nat)
 | s (a : AV)
 | t (n : Nat)
noncomputable def keepL (n : Nat) : (List AV -> List AV) -> List AV -> List AV :=
 Nat.rec (motive:=fun _=>(List AV -> List AV) -> List AV -> List AV) (fun f l=>f l) (fun _ ih f l=>List.rec (motive:=fun _=>List AV) [] (fun x l _=>x :: ih f l) l) n
noncomputable def anyL (n : Nat) : (List AV -> List AV) -> List AV -> List AV :=
 Nat.rec (motive:=fun _=>(List AV -> List AV) -> List AV -> List AV) (fun f l=>f l) (fun _ ih f l=>List.rec (motive:=fun _=>List AV) [] (fun _ l _=>.top :: ih f l) l) n
noncomputable def frI : List Ins -> List AV -> List AV
 | [],l=>l
 | .k n :: is,l=>keepL n (frI is) l
 | .s a :: is,l=>(match l with | _ :: l=>a :: frI is l | []=>[])
 | .t n :: is,l=>anyL n (frI is) l
def putC (hp : Heap) (i : Nat) (l : List AV) : Heap:=match getB hp i with | .cells t _=>setB hp i (.cells t l) | _=>hp
@[simp] theorem annPre_eq (G α : Type) (st : G -> AS) (dat : G -> α) (q : α -> Prop) (mu : G -> Nat) (g : G) : Ann.pre ⟨G,st,α,dat,q,mu⟩ g = q (dat g):=rfl
section
variable {R : AV -> Heap -> Prop}
@[simp] theorem sat_fail : VC.sat R .fail ↔ False:=Iff.rfl
@[simp] theorem sat_need (p : Cd) (k : VC) : VC.sat R (.need p k) ↔ p.ok /\ k.sat R:=Iff.rfl
@[simp] theorem sat_branch (b : Bool) (t e : VC) : VC.sat R (.branch b t e) ↔ (b = true -> t.sat R) /\ (b = false -> e.sat R):=Iff.rfl
@[simp] theorem sat_out (r : AV) (hp : Heap) : VC.sat R (.out r hp) ↔ R r hp:=Iff.rfl
@[simp] theorem sat_done : VC.sat R .done ↔ True:=Iff.rfl
@[simp] theorem sat_loop (A : Ann) (d : A.G -> A.α) (e : VC) (b : A.G -> VC) : VC.sat R (.loop d e b) ↔ e.sat R /\ ∀ g,A.q (d g) -> (b g).sat R:=Iff.rfl
@[simp] theorem sat_ex (A : Ann) (d : A.G -> A.α) (m : Option Nat) (k : A.G -> VC) : VC.sat R (.ex d m k) ↔ ∃ g,(k g).sat R /\ A.q (d g) /\ (match m with | some n=>A.mu g < n | none=>True) :=
 ⟨fun ⟨g,h1,h2,h3⟩=>⟨g,h3,h1,h2⟩,fun ⟨g,h1,h2,h3⟩=>⟨g,h2,h3,h1⟩⟩
end
@[simp] theorem nrmL_nil : nrmL [] = []:=rfl
@[simp] theorem nrmL_cons (a : AV) (l : List AV) : nrmL (a :: l) = nrm a :: nrmL l:=rfl
@[simp] theorem nrm_si (k : IntKind) (n : Int) : nrm (.si k n) = .si k n:=rfl
@[simp] theorem nrm_li (k : IntKind) (n : Int) : nrm (.li k n) = .si k n:=rfl
@[simp] theorem nrm_sb (b : Bool) : nrm (.sb b) = .sb b:=rfl
@[simp] theorem nrm_lb (b : Bool) : nrm (.lb b) = .sb b:=rfl
@[simp] theorem nrm_slc (n : LN) (sz : Nat) (el : Nat -> List AV) : nrm (.slc n sz el) = .slc n sz el:=rfl
@[simp] theorem nrm_v (x : Value) : nrm (.v x) = .v x:=rfl
@[simp] theorem nrm_pa1 (n sz : Nat) (el : Nat -> List AV) : nrm (.pa (n + 1) sz el) = .pa (n + 1) sz el:=rfl
@[simp] theorem nrm_xp (l : List AV) : nrm (.xp l) = .xp l:=rfl
@[simp] theorem selI_eq (k j : Nat) (a b : Int) : selI k j a b = if j = k then a else b:=by unfold selI; rfl
@[simp] theorem selB_eq (k j : Nat) (a b : Bool) : selB k j a b = if j = k then a else b:=by unfold selB; rfl
theorem catE_eq (n : Nat) (f g : Nat -> List AV) (k : Nat) : catE n f g k = if k < n then f k else g (k - n):=by unfold catE; rfl
theorem app_one {sz g j : Nat} {F : Nat -> List AV} {c r : List AV} (h : j < g + 1) (h1 : j < g -> nrmL (F j) = r) (h2 : j = g -> nrmL (takeL c sz) = r) : nrmL (catE g F (rowAt sz c) j) = r:=by
 rw [catE_eq]
 by_cases hj : j < g
 ·rw [if_pos hj]; exact h1 hj
 ·rw [if_neg hj,show j - g = 0 by omega]
  exact h2 (by omega)
@[simp] theorem canL_nil : CanL [] [] ↔ True:=by unfold CanL; exact Iff.rfl
@[simp] theorem canL_cons (s : Sh) (l : List Sh) (a : AV) (m : List AV) : CanL (s :: l) (a :: m) ↔ okSh s a = true /\ CanSh s a /\ CanL l m:=by rw [CanL]
@[simp] theorem okSh_si (k : IntKind) (n : Int) : okSh (.int k) (.si k n) = true:=by simp [okSh,kindOf]
@[simp] theorem okSh_li (k : IntKind) (n : Int) : okSh (.int k) (.li k n) = true:=by simp [okSh,kindOf]
@[simp] theorem okSh_sb (b : Bool) : okSh .bool (.sb b) = true:=by simp [okSh,isBoolA]
@[simp] theorem okSh_lb (b : Bool) : okSh .bool (.lb b) = true:=by simp [okSh,isBoolA]
@[simp] theorem okSh_slc (sz : Nat) (e : List Sh) (n : LN) (el : Nat -> List AV) : okSh (.slice sz e) (.slc n sz el) = cellShL e:=by simp [okSh]
@[simp] theorem canSh_int (k : IntKind) (a : AV) : CanSh (.int k) a ↔ True:=by unfold CanSh; exact Iff.rfl
@[simp] theorem canSh_bool (a : AV) : CanSh .bool a ↔ True:=by unfold CanSh; exact Iff.rfl
@[simp] theorem canSh_slc (sz sz' : Nat) (e : List Sh) (n : LN) (el : Nat -> List AV) : CanSh (.slice sz e) (.slc n sz' el) ↔ ∀ k,k < n.val -> CanL e (el k):=by rw [CanSh]
@[simp] theorem canEl_iff (e : List Sh) (n : Nat) (el : Nat -> List AV) : CanEl e (n,el) ↔ ∀ k,k < n -> CanL e (el k):=Iff.rfl
attribute [simp] cellShL cellSh
@[simp] theorem imp_all_true (n : Nat) : (∀ k : Nat,k < n -> True) ↔ True:=by simp
attribute [simp] leS leL leA leH leB Cd.ok kindOf intOf LN.val
end Abs
end Go.Proofs.YtlacopdaibhkkaaGreat

namespace Go.Proofs.YtlacopdaibhkkaaGreat
namespace Abs
open Go Go.RowKit
def fieldsKs (rc : TypeId -> Option (List (Option IntKind))) : List Field -> Nat -> Option (List (Option IntKind))
 | [],_=>some []
 | f :: fs, off => (match f.name == "_", Nat.beq f.offset off, rc f.type with
   | false,true,some ks=>(match fieldsKs rc fs (off + ks.length) with | some ks'=>some (ks ++ ks') | none=>none)
   | _,_,_=>none)
def eqKs (P : Program) : Nat -> TypeId -> Option (List (Option IntKind))
 | 0,_=>none
 | d + 1,t=>(match P.underlying t with
   | some (.int k)=>some [some k]
   | some .bool=>some [none]
   | some (.struct fs)=>(match P.stoodInHeld t,fieldsKs (eqKs P d) fs.toList 0 with
     | false,some ks=>(match Nat.beq (sizeT P t) ks.length with | true=>some ks | false=>none)
     | _,_=>none)
   | some (.array n e)=>(match eqKs P d e with
     | some ks=>(match Nat.beq (sizeT P e) ks.length && Nat.beq (sizeT P t) (n * ks.length) with | true=>some (List.replicate n ks).flatten | false=>none)
     | none=>none)
   | _=>none)
inductive Kd : List (Option IntKind) -> List Value -> Prop
 | nil : Kd [] []
 | int (k : IntKind) (n : Int) (ks : List (Option IntKind)) (vs : List Value) (h : Kd ks vs) : Kd (some k :: ks) (.int k n :: vs)
 | bool (b : Bool) (ks : List (Option IntKind)) (vs : List Value) (h : Kd ks vs) : Kd (none :: ks) (.bool b :: vs)
def eq1 : Value -> Value -> Bool
 | .int _ a,.int _ b=>a == b
 | .bool a,.bool b=>a == b
 | _,_=>false
def eqV : List Value -> List Value -> Bool
 | [],[]=>true
 | x :: xs,y :: ys=>eq1 x y && eqV xs ys
 | _,_=>false
theorem Kd.len {ks : List (Option IntKind)} {vs : List Value} (h : Kd ks vs) : vs.length = ks.length:=by induction h <;> simp [*]
theorem Kd.split {ks ks' : List (Option IntKind)} : ∀ {vs : List Value},Kd (ks ++ ks') vs -> Kd ks (vs.take ks.length) /\ Kd ks' (vs.drop ks.length):=by
 induction ks with
 | nil=>intro vs h; exact ⟨by simpa using Kd.nil,by simpa using h⟩
 | cons k ks ih =>
   intro vs h
   cases h with
   | int k n _ vs h=>obtain ⟨h1,h2⟩:=ih h; exact ⟨by simpa using Kd.int k n _ _ h1,by simpa using h2⟩
   | bool b _ vs h=>obtain ⟨h1,h2⟩:=ih h; exact ⟨by simpa using Kd.bool b _ _ h1,by simpa using h2⟩
theorem eqV_append : ∀ {a b : List Value} {c d : List Value},a.length = b.length -> eqV (a ++ c) (b ++ d) = (eqV a b && eqV c d)
 | [],[],c,d,_=>by simp [eqV]
 | x :: a,y :: b,c,d,h=>by simp at h; simp [eqV,eqV_append h,Bool.and_assoc]
def mkV (P : Program) (t : TypeId) (l : List Value) : Value:=match isAgg P t with | some true=>.agg ⟨l⟩ | _=>l.headD undef
section
variable {P : Program}
theorem eqKs_size {d : Nat} {t : TypeId} {ks : List (Option IntKind)} (h : eqKs P d t = some ks) : (isAgg P t = some true /\ sizeT P t = ks.length /\ ∃ i,P.info? t = some i) \/ (isAgg P t = some false /\ ks.length = 1):=by
 cases d with
 | zero=>simp [eqKs] at h
 | succ d =>
   unfold eqKs at h
   split at h
   ·rename_i k hu; injection h with h; subst h; exact .inr ⟨by simp [isAgg,hu],rfl⟩
   ·rename_i hu; injection h with h; subst h; exact .inr ⟨by simp [isAgg,hu],rfl⟩
   ·rename_i fs hu
    split at h
    ·split at h
     ·rename_i hs; injection h with h; subst h
      exact .inl ⟨by simp [isAgg,hu],Nat.eq_of_beq_eq_true hs,info_of_underlying hu⟩
     ·cases h
    ·cases h
   ·rename_i n e hu
    split at h
    ·split at h
     ·rename_i ks' _ _ hs
      simp only [Bool.and_eq_true] at hs
      injection h with h; subst h
      refine .inl ⟨by simp [isAgg,hu],?_,info_of_underlying hu⟩
      rw [Nat.eq_of_beq_eq_true hs.2]
      simp
     ·cases h
    ·cases h
   ·cases h
theorem run_partK {d : Nat} {t : TypeId} {ks : List (Option IntKind)} (h : eqKs P d t = some ks) (w : World) {xs : List Value} {off : Nat} (hk : Kd ks ((xs.drop off).take ks.length)) :
  (part t ⟨xs⟩ off).run P w = .ok (mkV P t ((xs.drop off).take ks.length)) w:=by
 rcases eqKs_size h with ⟨h1,h2,i,hi⟩ | ⟨h1,h2⟩
 ·simp [part,run_isAgg h1,run_sizeT hi,mkV,h1,h2]
 ·have hl:=hk.len
  rw [h2] at hl
  cases hd : xs.drop off with
  | nil=>rw [hd] at hl; simp at hl
  | cons v vs =>
    have hv : xs[off]? = some v:=by
     have:=congrArg (fun l=>l[0]?) hd
     simpa using this
    simp [part,run_isAgg h1,mkV,h1,h2,hv]
theorem fields_eq {d m : Nat} (IH : ∀ (t : TypeId) (ks : List (Option IntKind)),eqKs P d t = some ks -> ∀ (w : World) (vs ws : List Value),Kd ks vs -> Kd ks ws -> (Op.equalIn (m + d) t (mkV P t vs) (mkV P t ws)).run P w = .ok (eqV vs ws) w) (w : World) (xs ys : List Value) :
  ∀ (fs : List Field) (off : Nat) (ks : List (Option IntKind)),fieldsKs (eqKs P d) fs off = some ks -> Kd ks ((xs.drop off).take ks.length) -> Kd ks ((ys.drop off).take ks.length) ->
    (Op.eqFields (m + d) ⟨xs⟩ ⟨ys⟩ fs).run P w = .ok (eqV ((xs.drop off).take ks.length) ((ys.drop off).take ks.length)) w
 | [],off,ks,h,_,_=>by
   unfold fieldsKs at h
   injection h with h; subst h
   simp [Op.eqFields,eqV]
 | f :: fs,off,ks,h,hx,hy=>by
   unfold fieldsKs at h
   split at h
   ·rename_i kf hn hoff hks
    split at h
    ·rename_i ks' hrest
     injection h with h; subst h
     have hoff:=Nat.eq_of_beq_eq_true hoff
     have e1 : ∀ l : List Value,(l.drop off).take (kf ++ ks').length = (l.drop off).take kf.length ++ (l.drop (off + kf.length)).take ks'.length:=fun l=>by
      rw [List.length_append,List.take_add,List.drop_drop]
     rw [e1] at hx hy
     obtain ⟨hx1,hx2⟩:=hx.split
     obtain ⟨hy1,hy2⟩:=hy.split
     have hlx:=hx.len
     have hly:=hy.len
     simp only [List.length_append] at hlx hly
     have hlx1 : ((xs.drop off).take kf.length).length = kf.length:=by
      have h1:=List.length_take_le kf.length (xs.drop off)
      have h2:=List.length_take_le ks'.length (xs.drop (off + kf.length))
      omega
     have hly1 : ((ys.drop off).take kf.length).length = kf.length:=by
      have h1:=List.length_take_le kf.length (ys.drop off)
      have h2:=List.length_take_le ks'.length (ys.drop (off + kf.length))
      omega
     rw [List.take_left' hlx1] at hx1
     rw [List.drop_left' hlx1] at hx2
     rw [List.take_left' hly1] at hy1
     rw [List.drop_left' hly1] at hy2
     rw [e1,e1,eqV_append (by rw [hlx1,hly1])]
     have hne : f.name ≠ "_" := by simpa using hn
     have ih:=fields_eq IH w xs ys fs (off + kf.length) ks' hrest hx2 hy2
     simp only [Op.eqFields,hne,ne_eq,not_false_eq_true,if_true,Sem.run_bind,hoff,run_partK hks w hx1,run_partK hks w hy1,Result.andThen_ok,IH _ _ hks w _ _ hx1 hy1]
     cases eqV ((xs.drop off).take kf.length) ((ys.drop off).take kf.length) with
     | false=>simp
     | true=>simpa using ih
    ·cases h
   ·cases h
theorem items_eq {d m : Nat} {e : TypeId} {ks : List (Option IntKind)} (hks : eqKs P d e = some ks) (IH : ∀ (w : World) (vs ws : List Value),Kd ks vs -> Kd ks ws -> (Op.equalIn (m + d) e (mkV P e vs) (mkV P e ws)).run P w = .ok (eqV vs ws) w) (w : World) (xs ys : List Value) :
  ∀ (n s : Nat),Kd (List.replicate n ks).flatten ((xs.drop (s * ks.length)).take (n * ks.length)) -> Kd (List.replicate n ks).flatten ((ys.drop (s * ks.length)).take (n * ks.length)) ->
    (Op.eqItems (m + d) e ks.length ⟨xs⟩ ⟨ys⟩ (List.range' s n)).run P w = .ok (eqV ((xs.drop (s * ks.length)).take (n * ks.length)) ((ys.drop (s * ks.length)).take (n * ks.length))) w
 | 0,s,_,_=>by simp [Op.eqItems,eqV]
 | n + 1,s,hx,hy=>by
   have e1 : ∀ l : List Value,(l.drop (s * ks.length)).take ((n + 1) * ks.length) = (l.drop (s * ks.length)).take ks.length ++ (l.drop ((s + 1) * ks.length)).take (n * ks.length):=fun l=>by
    rw [Nat.add_mul,Nat.one_mul,Nat.add_comm,List.take_add,List.drop_drop,Nat.add_mul,Nat.one_mul]
   rw [e1,List.replicate_succ,List.flatten_cons] at hx hy
   obtain ⟨hx1,hx2⟩:=hx.split
   obtain ⟨hy1,hy2⟩:=hy.split
   have hlx:=hx.len
   have hly:=hy.len
   have hfl : (List.replicate n ks).flatten.length = n * ks.length:=by simp
   simp only [List.length_append,hfl] at hlx hly
   have hlx1 : ((xs.drop (s * ks.length)).take ks.length).length = ks.length:=by
    have h1:=List.length_take_le ks.length (xs.drop (s * ks.length))
    have h2:=List.length_take_le (n * ks.length) (xs.drop ((s + 1) * ks.length))
    omega
   have hly1 : ((ys.drop (s * ks.length)).take ks.length).length = ks.length:=by
    have h1:=List.length_take_le ks.length (ys.drop (s * ks.length))
    have h2:=List.length_take_le (n * ks.length) (ys.drop ((s + 1) * ks.length))
    omega
   rw [List.take_left' hlx1] at hx1
   rw [List.drop_left' hlx1] at hx2
   rw [List.take_left' hly1] at hy1
   rw [List.drop_left' hly1] at hy2
   rw [e1,e1,eqV_append (by rw [hlx1,hly1]),List.range'_succ]
   have ih:=items_eq hks IH w xs ys n (s + 1) hx2 hy2
   simp only [Op.eqItems,Sem.run_bind,run_partK hks w hx1,run_partK hks w hy1,Result.andThen_ok,IH w _ _ hx1 hy1]
   cases eqV ((xs.drop (s * ks.length)).take ks.length) ((ys.drop (s * ks.length)).take ks.length) with
   | false=>simp
   | true=>simpa using ih
theorem cellsOf_eq {t : TypeId} {i : TypeInfo} (h : P.info? t = some i) : P.cellsOf t = sizeT P t:=by simp [Program.cellsOf,sizeT,h]
theorem equalIn_eq (m : Nat) : ∀ (d : Nat) (t : TypeId) (ks : List (Option IntKind)),eqKs P d t = some ks -> ∀ (w : World) (vs ws : List Value),Kd ks vs -> Kd ks ws -> (Op.equalIn (m + d) t (mkV P t vs) (mkV P t ws)).run P w = .ok (eqV vs ws) w:=by
 intro d
 induction d with
 | zero=>intro t ks h; simp [eqKs] at h
 | succ d ih =>
   intro t ks h w vs ws hv hw
   have hsz:=eqKs_size h
   unfold eqKs at h
   split at h
   ·rename_i k hu
    injection h with h; subst h
    cases hv with | int _ a _ _ hv=>cases hv
                                    cases hw with | int _ b _ _ hw=>cases hw
                                                                    simp only [mkV,isAgg,hu,List.headD_cons,<- Nat.add_assoc]
                                                                    rw [run_equalIn_int w (m + d) t k k a b hu]
                                                                    simp [eqV,eq1]
   ·rename_i hu
    injection h with h; subst h
    cases hv with | bool a _ _ hv=>cases hv
                                   cases hw with | bool b _ _ hw=>cases hw
                                                                  simp only [mkV,isAgg,hu,List.headD_cons,<- Nat.add_assoc]
                                                                  rw [run_equalIn_bool' w (m + d) t a b hu]
                                                                  simp [eqV,eq1]
   ·rename_i fs hu
    split at h
    ·rename_i ks' hst hf
     split at h
     ·injection h with h; subst h
      have hfs : P.fieldsOf t = fs:=by simp [Program.fieldsOf,hu]
      have hag : isAgg P t = some true:=by simp [isAgg,hu]
      simp only [mkV,hag,<- Nat.add_assoc]
      rw [run_equalIn_struct w (m + d) t _ _ (by rw [hfs]; exact hu) hst,hfs]
      have e1 : ∀ l : List Value,Kd ks' l -> (l.drop 0).take ks'.length = l:=fun l hl=>by rw [List.drop_zero,<- hl.len,List.take_length]
      have:=fields_eq (m:=m) ih w vs ws fs.toList 0 ks' hf (by rw [e1 _ hv]; exact hv) (by rw [e1 _ hw]; exact hw)
      rw [e1 _ hv,e1 _ hw] at this
      exact this
     ·cases h
    ·cases h
   ·rename_i n e hu
    split at h
    ·rename_i ks' hks
     split at h
     ·rename_i hs
      simp only [Bool.and_eq_true] at hs
      injection h with h; subst h
      have hag : isAgg P t = some true:=by simp [isAgg,hu]
      have hse:=Nat.eq_of_beq_eq_true hs.1
      have hlen : (List.replicate n ks').flatten.length = n * ks'.length:=by simp
      simp only [mkV,hag,<- Nat.add_assoc]
      have e1 : ∀ l : List Value,Kd (List.replicate n ks').flatten l -> (l.drop (0 * ks'.length)).take (n * ks'.length) = l:=fun l hl=>by
       rw [Nat.zero_mul,List.drop_zero,<- hlen,<- hl.len,List.take_length]
      have key:=items_eq (m:=m) hks (ih e ks' hks) w vs ws n 0 (by rw [e1 _ hv]; exact hv) (by rw [e1 _ hw]; exact hw)
      rw [e1 _ hv,e1 _ hw] at key
      have hie : ∃ i,P.info? e = some i:=by
       cases d with
       | zero=>simp [eqKs] at hks
       | succ d =>
         unfold eqKs at hks
         cases hue : P.underlying e with
         | none=>simp [hue] at hks
         | some _=>exact info_of_underlying hue
      obtain ⟨i,hi⟩:=hie
      rw [run_equalIn_array w (m + d) _ _ hu hi,cellsOf_eq hi,hse,List.range_eq_range']
      exact key
     ·cases h
    ·cases h
   ·cases h
theorem okKs_kd {C : Cx} {w : World} : ∀ {ks : List (Option IntKind)} {l : List AV} {vs : List Value},okKs ks l = true -> RelL C w l vs -> Kd ks vs
 | [],[],_,_,h=>by cases h; exact .nil
 | some k :: ks,a :: l,_,h,hr=>by
   simp only [okKs] at h
   cases hr with
   | cons _ _ v vs h0 h1 =>
     split at h
     ·rename_i k' hk
      simp only [Bool.and_eq_true] at h
      have:=of_decide_eq_true h.1
      subst this
      rw [kindOf_rel h0 hk]
      exact .int _ _ _ _ (okKs_kd h.2 h1)
     ·cases h
 | none :: ks,a :: l,_,h,hr=>by
   simp only [okKs,Bool.and_eq_true] at h
   cases hr with
   | cons _ _ v vs h0 h1 =>
     have : ∃ b,v = .bool b:=by
      cases a <;> simp [isBoolV] at h
      ·cases h0; exact ⟨_,rfl⟩
      ·cases h0; exact ⟨_,rfl⟩
     obtain ⟨b,rfl⟩:=this
     exact .bool _ _ _ (okKs_kd h.2 h1)
 | [],_ :: _,_,h,_=>by simp [okKs] at h
 | some _ :: _,[],_,h,_=>by simp [okKs] at h
 | none :: _,[],_,h,_=>by simp [okKs] at h
theorem eqCells_eq {C : Cx} {w : World} : ∀ {l m : List AV} {vs ws : List Value} {r : Bool},eqCells l m = some r -> RelL C w l vs -> RelL C w m ws -> eqV vs ws = r
 | [],[],_,_,r,h,h1,h2=>by
   cases h1; cases h2
   simp [eqCells] at h; subst h; rfl
 | a :: l,b :: m,_,_,r,h,h1,h2=>by
   cases h1 with
   | cons _ _ x xs h1 h3 =>
   cases h2 with
   | cons _ _ y ys h2 h4 =>
   have one : ∀ r,eqC a b = some r -> eq1 x y = r:=fun r he=>by
    rcases eqC_rel h1 h2 he with ⟨k,p,q,rfl,rfl,rfl⟩ | ⟨p,q,rfl,rfl,rfl⟩
    ·rfl
    ·rfl
   unfold eqCells at h
   split at h
   ·cases h3; cases h4
    simp [eqV,one _ h]
   ·split at h
    ·rename_i r1 s1 e1 e2
     injection h with h; subst h
     rw [band_eq,eqV,one _ e1,eqCells_eq e2 h3 h4]
    ·cases h
 | [],_ :: _,_,_,r,h,_,_=>by simp [eqCells] at h
 | _ :: _,[],_,_,r,h,_,_=>by simp [eqCells] at h
theorem EqOK.of {t : TypeId} {ks : List (Option IntKind)} (d : Nat) (hd : d <= 10000) (hg : P.eqGuardType P.depth t = false) (ha : isAgg P t = some true) (h : eqKs P d t = some ks) (ht : t < 1048576:=by decide) : EqOK P t ks:=by
 refine ⟨fun _=>⟨hg,fun C w l m vs ws r h1 h2 h3 h4 he=>?_⟩,fun h=>absurd (Nat.lt_of_lt_of_le ht h) (Nat.lt_irrefl _)⟩
 have:=equalIn_eq (10000 - d) d t ks h w vs ws (okKs_kd h1 h3) (okKs_kd h2 h4)
 rw [show 10000 - d + d = 10000 by omega,eqCells_eq he h3 h4] at this
 simpa [mkV,ha] using this
theorem EqOK.zero {t n : Nat} {z : AV} {ks : List (Option IntKind)} (hb : bigT P t = some (n,z)) (h : ZeroIs P (t,n,z)) : EqOK P (t + 1048576) ks:=by
 refine ⟨fun h=>absurd h (Nat.not_lt.2 (Nat.le_add_left _ _)),fun _ n' z' hb'=>?_⟩
 rw [Nat.add_sub_cancel] at hb' ⊢
 rw [hb] at hb'
 injection hb' with hb'; injection hb' with e1 e2; subst e1 e2
 exact h
end
end Abs
end Go.Proofs.YtlacopdaibhkkaaGreat

namespace Go.Proofs.YtlacopdaibhkkaaGreat
namespace Abs
open Go Go.RowKit Go.ChangeShapes Go.WideShapes
def fieldsSh (rc : TypeId -> Option (List Sh)) : List Field -> Nat -> Option (List Sh)
 | [],_=>some []
 | f :: fs,off=>(match Nat.beq f.offset off,rc f.type with
   | true,some l=>(match fieldsSh rc fs (off + l.length) with | some l'=>some (l ++ l') | none=>none)
   | _,_=>none)
def shOf (P : Program) : Nat -> TypeId -> Option (List Sh)
 | 0,_=>none
 | d + 1,t=>(match P.underlying t with
   | some (.int k)=>(match Nat.beq (sizeT P t) 1 with | true=>some [.int k] | false=>none)
   | some .bool=>(match Nat.beq (sizeT P t) 1 with | true=>some [.bool] | false=>none)
   | some (.slice e)=>(match shOf P d e with
     | some l=>(match Nat.beq (sizeT P t) 1 && cellShL l && Nat.blt 0 l.length with | true=>some [.slice l.length l] | false=>none)
     | none=>none)
   | some (.struct fs)=>(match fieldsSh (shOf P d) fs.toList 0 with
     | some l=>(match Nat.beq (sizeT P t) l.length with | true=>some l | false=>none)
     | none=>none)
   | some (.array n e)=>(match shOf P d e with
     | some l=>(match Nat.beq (sizeT P t) (n * l.length) with | true=>some (List.replicate n l).flatten | false=>none)
     | none=>none)
   | _=>none)
def argSh (P : Program) (d : Nat) (t : TypeId) : Option Sh:=match shOf P d t with
 | none=>none
 | some l=>(match isAgg P t with
   | some true=>some (.agg l)
   | some false=>(match l with | [s]=>some s | _=>none)
   | none=>none)
def argShs (P : Program) (d : Nat) : List TypeId -> Option (List Sh)
 | []=>some []
 | t :: ts=>(match argSh P d t,argShs P d ts with | some s,some l=>some (s :: l) | _,_=>none)
mutual
def Valid : (s : Sh) -> Dat s -> Prop
 | .int k,n=>InR k n
 | .bool,_=>True
 | .slice _ e,x=>x.1 <= maxLen /\ ∀ k,k < x.1 -> ValidL e (x.2 k)
 | .agg l,x=>ValidL l x
 | .fn _ a b,x=>ValidL a x.1 /\ ValidL b x.2
 | .ptr l,x=>ValidL l x
 | .own _ _,_=>True
 | .rowr _,_=>True
 | .any,_=>True
def ValidL : (l : List Sh) -> DatL l -> Prop
 | [],_=>True
 | s :: l,x=>Valid s x.1 /\ ValidL l x.2
end
theorem shOf_size {P : Program} {d : Nat} {t : TypeId} {l : List Sh} (h : shOf P d t = some l) : sizeT P t = l.length:=by
 cases d with
 | zero=>simp [shOf] at h
 | succ d =>
   unfold shOf at h
   split at h
   ·split at h
    ·rename_i hs; injection h with h; subst h; exact Nat.eq_of_beq_eq_true hs
    ·cases h
   ·split at h
    ·rename_i hs; injection h with h; subst h; exact Nat.eq_of_beq_eq_true hs
    ·cases h
   ·split at h
    ·split at h
     ·rename_i hs
      simp only [Bool.and_eq_true] at hs
      injection h with h; subst h; exact Nat.eq_of_beq_eq_true hs.1.1
     ·cases h
    ·cases h
   ·split at h
    ·split at h
     ·rename_i hs; injection h with h; subst h; exact Nat.eq_of_beq_eq_true hs
     ·cases h
    ·cases h
   ·split at h
    ·split at h
     ·rename_i hs; injection h with h; subst h; rw [Nat.eq_of_beq_eq_true hs]; simp
     ·cases h
    ·cases h
   ·cases h
theorem sizeT_cells (P : Program) (t : TypeId) : P.cellsOf t = sizeT P t:=by
 unfold Program.cellsOf sizeT
 cases P.info? t <;> rfl
theorem app_data : ∀ (l l' : List Sh) (y : DatL l) (y' : DatL l'),∃ z : DatL (l ++ l'),encL (l ++ l') z = encL l y ++ encL l' y' /\ (ValidL l y -> ValidL l' y' -> ValidL (l ++ l') z)
 | [],l',y,y'=>⟨y',by simp [encL],fun _ h=>h⟩
 | s :: l,l',y,y'=>by
   obtain ⟨z,h1,h2⟩:=app_data l l' y.2 y'
   refine ⟨(y.1,z),?_,?_⟩
   ·show enc s y.1 :: encL (l ++ l') z = _
    rw [h1]; simp [encL]
   ·intro h h'
    unfold ValidL at h
    show ValidL (s :: (l ++ l')) (y.1,z)
    unfold ValidL
    exact ⟨h.1,h2 h.2 h'⟩
section
variable {H : Type} {enc' : TypeId × Value -> H} {P : Program} {w : World}
def Cx.all (w : World) : Cx:=⟨fun _=>none,fun b=>b < w.heap.size,fun _=>none⟩
theorem hr_all (w : World) : HR (Cx.all w) [] w:=⟨fun i p h=>by simp [Cx.all] at h,fun i j b c n b' c' n' h=>by simp [Cx.all] at h,fun i b c n h=>by simp [Cx.all] at h,fun b hb=>hb,fun b x h=>by simp [Cx.all] at h⟩
theorem choose_fn {α : Type} (d : α) {n : Nat} {p : Nat -> α -> Prop} (h : ∀ i,i < n -> ∃ x,p i x) : ∃ f : Nat -> α,∀ i,i < n -> p i (f i):=by
 classical
 refine ⟨fun i=>if hi : i < n then Classical.choose (h i hi) else d,fun i hi=>?_⟩
 simp only [dif_pos hi]
 exact Classical.choose_spec (h i hi)
theorem read_fields {d : Nat} {base : Nat} {spare : Nat -> Bool} {held : Bool} {cs : List Value}
  (IH : ∀ (fuel : Nat) (t : TypeId) (cs : List Value) (x : DataW H × List MemPlace),DataW.trod enc' P w base spare held fuel t cs = some x -> ∀ l,shOf P d t = some l -> ∃ y : DatL l,RelL (Cx.all w) w (encL l y) cs /\ ValidL l y) :
  ∀ (fs : List Field) (off : Nat) (l : List Sh),fieldsSh (shOf P d) fs off = some l -> (∀ f ∈ fs,∃ fuel x,DataW.trod enc' P w base spare held fuel f.type ((cs.drop f.offset).take (P.cellsOf f.type)) = some x) ->
    ∃ y : DatL l,RelL (Cx.all w) w (encL l y) ((cs.drop off).take l.length) /\ ValidL l y
 | [],off,l,h,_=>by
   unfold fieldsSh at h
   injection h with h; subst h
   exact ⟨(),by simp [encL]; exact .nil,trivial⟩
 | f :: fs,off,l,h,hx=>by
   unfold fieldsSh at h
   split at h
   ·rename_i l1 hoff h1
    split at h
    ·rename_i l2 h2
     injection h with h; subst h
     obtain ⟨fuel,x,hx1⟩:=hx f (by simp)
     rw [sizeT_cells,shOf_size h1,Nat.eq_of_beq_eq_true hoff] at hx1
     obtain ⟨y1,hr1,hv1⟩:=IH _ _ _ _ hx1 l1 h1
     obtain ⟨y2,hr2,hv2⟩:=read_fields IH fs (off + l1.length) l2 h2 (fun g hg=>hx g (by simp [hg]))
     obtain ⟨z,hz1,hz2⟩:=app_data l1 l2 y1 y2
     refine ⟨z,?_,hz2 hv1 hv2⟩
     rw [hz1,List.length_append,List.take_add,List.drop_drop]
     exact hr1.append hr2
    ·cases h
   ·cases h
theorem read_items {d : Nat} {base : Nat} {spare : Nat -> Bool} {held : Bool} {cs : List Value} {e : TypeId} {l : List Sh} (hl : shOf P d e = some l)
  (IH : ∀ (fuel : Nat) (t : TypeId) (cs : List Value) (x : DataW H × List MemPlace),DataW.trod enc' P w base spare held fuel t cs = some x -> ∀ l,shOf P d t = some l -> ∃ y : DatL l,RelL (Cx.all w) w (encL l y) cs /\ ValidL l y) :
  ∀ (n s : Nat),(∀ i,s <= i -> i < s + n -> ∃ fuel x,DataW.trod enc' P w base spare held fuel e ((cs.drop (i * l.length)).take l.length) = some x) ->
    ∃ y : DatL (List.replicate n l).flatten,RelL (Cx.all w) w (encL (List.replicate n l).flatten y) ((cs.drop (s * l.length)).take (n * l.length)) /\ ValidL (List.replicate n l).flatten y
 | 0,s,_=>⟨(),by simp [encL]; exact .nil,trivial⟩
 | n + 1,s,hx=>by
   obtain ⟨fuel,x,hx1⟩:=hx s (Nat.le_refl _) (by omega)
   obtain ⟨y1,hr1,hv1⟩:=IH _ _ _ _ hx1 l hl
   obtain ⟨y2,hr2,hv2⟩:=read_items hl IH n (s + 1) (fun i h1 h2=>hx i (by omega) (by omega))
   obtain ⟨z,hz1,hz2⟩:=app_data l (List.replicate n l).flatten y1 y2
   refine ⟨z,?_,hz2 hv1 hv2⟩
   show RelL (Cx.all w) w (encL (l ++ (List.replicate n l).flatten) z) _
   rw [hz1,Nat.add_mul,Nat.one_mul,Nat.add_comm (n * l.length),List.take_add,List.drop_drop]
   rw [Nat.add_mul,Nat.one_mul] at hr2
   exact hr1.append hr2
theorem read_cells {base : Nat} {spare : Nat -> Bool} {held : Bool} : ∀ (d : Nat) (fuel : Nat) (t : TypeId) (cs : List Value) (x : DataW H × List MemPlace),DataW.trod enc' P w base spare held fuel t cs = some x ->
  ∀ l,shOf P d t = some l -> ∃ y : DatL l,RelL (Cx.all w) w (encL l y) cs /\ ValidL l y:=by
 intro d
 induction d with
 | zero=>intro fuel t cs x h l hl; simp [shOf] at hl
 | succ d ih =>
   intro fuel t cs x h l hl
   have hsz:=shOf_size hl
   unfold shOf at hl
   split at hl
   ·rename_i k hu
    split at hl
    ·injection hl with hl; subst hl
     obtain ⟨n,rfl,_,hw⟩:=DataW.trod_int hu h
     refine ⟨((n : Int),()),.cons _ _ _ _ (.si k n) .nil,?_,trivial⟩
     simp only [Lit.wf,Bool.and_eq_true,decide_eq_true_eq] at hw
     exact hw
    ·cases hl
   ·rename_i hu
    split at hl
    ·injection hl with hl; subst hl
     obtain ⟨b,rfl,_⟩:=DataW.trod_bool hu h
     exact ⟨((b : Bool),()),.cons _ _ _ _ (.sb b) .nil,trivial,trivial⟩
    ·cases hl
   ·rename_i e hu
    split at hl
    ·rename_i le hle
     split at hl
     ·rename_i hc
      simp only [Bool.and_eq_true] at hc
      injection hl with hl; subst hl
      have hpos : 0 < le.length:=by have:=Nat.le_of_ble_eq_true (show Nat.ble (0 + 1) le.length = true from hc.2); omega
      have hse : P.cellsOf e = le.length:=by rw [sizeT_cells,shOf_size hle]
      rcases Go.Deep.open_slice hu h with ⟨rfl,_⟩ | ⟨a,len,cap,m,n,D,Pl,rfl,hb,hlc,hcm,hm,_,hel⟩
      ·refine ⟨((0,fun _=>decL le []),()),.cons _ _ _ _ ?_ .nil,⟨Nat.zero_le _,fun k hk=>by simp at hk⟩,trivial⟩
       exact .slc (.sym 0) _ _ none 0 (fun _=>[]) (Nat.le_refl _) (fun h=>by simp [LN.val] at h) (fun k hk=>by simp [LN.val] at hk) (fun k hk=>by simp [LN.val] at hk) (fun k hk=>by simp [LN.val] at hk)
      ·have hle2 : len <= m:=by rw [hm]; split <;> omega
       obtain ⟨f,hf⟩:=choose_fn (decL le [],([] : List Value)) (n:=len) (p:=fun i (z : DatL le × List Value)=>RelL (Cx.all w) w (encL le z.1) z.2 /\ ValidL le z.1 /\ w.cells? base (a.add (i * le.length)) le.length = some z.2) (fun i hi=>by
        obtain ⟨cs',h1,h2⟩:=hel i (by omega)
        rw [hse] at h1
        obtain ⟨y,hr,hv⟩:=ih _ _ _ _ h2 le hle
        exact ⟨(y,cs'),hr,hv,h1⟩)
       refine ⟨((len,fun i=>(f i).1),()),.cons _ _ _ _ ?_ .nil,⟨by simp only; omega,fun k hk=>(hf k hk).2.1⟩,trivial⟩
       refine .slc (.sym len) _ _ (some a) cap (fun i=>(f i).2) hlc (fun h0=>⟨a,rfl,?_,fun k hk j hj=>?_⟩) (fun k hk=>(hf k hk).1) (fun k hk=>?_) (fun k hk=>enc_okL hc.1.2)
       ·obtain ⟨_,h1,h2⟩:=World.cells?_some (hf 0 h0).2.2
        have h3:=h2 0 (by omega)
        rw [List.getElem?_eq_getElem (by omega),Nat.zero_mul] at h3
        show a.block < w.heap.size
        rcases Nat.lt_or_ge a.block w.heap.size with h | h
        ·exact h
        ·exfalso
         unfold World.cell? at h3
         rw [add_block,add_block,Array.getElem?_eq_none h] at h3
         simp at h3
       ·obtain ⟨_,h1,h2⟩:=World.cells?_some (hf k hk).2.2
        rw [<- add_add]
        exact h2 j hj
       ·exact (World.cells?_some (hf k hk).2.2).2.1
     ·cases hl
    ·cases hl
   ·rename_i fs hu
    split at hl
    ·rename_i lf hf
     split at hl
     ·injection hl with hl; subst hl
      obtain ⟨xs,n,_,_,hlen,hxl,hx⟩:=DataW.trod_struct hu h
      obtain ⟨y,hr,hv⟩:=read_fields ih fs.toList 0 lf hf (cs:=cs) (fun f hfm=>by
       obtain ⟨i,hi,hfi⟩:=List.getElem_of_mem hfm
       have h1:=hx i f (by simp at hi; simp [hi]; simpa using hfi)
       have h2 : xs[i]? = some (xs[i]'(by simp at hi; omega)):=List.getElem?_eq_getElem _
       exact ⟨n,_,by rw [h1,h2]⟩)
      refine ⟨y,?_,hv⟩
      rwa [List.drop_zero,List.take_of_length_le (by rw [hlen,sizeT_cells,hsz]; exact Nat.le_refl _)] at hr
     ·cases hl
    ·cases hl
   ·rename_i n e hu
    split at hl
    ·rename_i le hle
     split at hl
     ·injection hl with hl; subst hl
      obtain ⟨xs,m,_,_,hlen,hxl,hx⟩:=DataW.trod_array hu h
      obtain ⟨y,hr,hv⟩:=read_items (cs:=cs) hle ih n 0 (fun i _ hi=>by
       have h1:=hx i (by omega)
       rw [sizeT_cells,shOf_size hle] at h1
       exact ⟨m,_,by rw [h1,List.getElem?_eq_getElem (by omega)]⟩)
      refine ⟨y,?_,hv⟩
      rw [Nat.zero_mul,List.drop_zero,List.take_of_length_le (by rw [hlen,sizeT_cells,hsz]; simp)] at hr
      exact hr
     ·cases hl
    ·cases hl
   ·cases hl
theorem read_arg {d base b0 : Nat} {r : Reach} {spare : Nat -> Bool} {held : Bool} {t : TypeId} {v : Value} {dd : DataW H} {ps : List MemPlace} {s : Sh} (hval : Value.okWide P w r b0 t v) (h : DataW.Trod enc' P w base spare held t v dd ps) (hs : argSh P d t = some s) :
  ∃ y : Dat s,Rel (Cx.all w) w (enc s y) v /\ Valid s y:=by
 obtain ⟨fuel,h⟩:=h
 unfold argSh at hs
 split at hs
 ·cases hs
 ·rename_i l hl
  split at hs
  ·rename_i ha
   injection hs with hs; subst hs
   obtain ⟨y,hr,hv⟩:=read_cells d _ _ _ _ h l hl
   have hagg : ∃ cs,v = .agg cs:=by
    unfold Value.okWide at hval
    unfold isAgg at ha
    split at ha
    ·rename_i fs hu; rw [hu] at hval; obtain ⟨cs,h1,_⟩:=hval; exact ⟨cs,h1⟩
    ·rename_i n e hu; rw [hu] at hval; obtain ⟨cs,h1,_⟩:=hval; exact ⟨cs,h1⟩
    ·cases ha
    ·cases ha
   obtain ⟨cs,rfl⟩:=hagg
   refine ⟨y,?_,?_⟩
   ·unfold enc; exact .agg _ _ hr
   ·unfold Valid; exact hv
  ·split at hs
   ·injection hs with hs; subst hs
    obtain ⟨y,hr,hv⟩:=read_cells d _ _ _ _ h _ hl
    have ha : isAgg P t = some false:=by assumption
    have hone : v.cells.toList = [v]:=by
     unfold isAgg at ha
     have hsz:=shOf_size hl
     cases d with
     | zero=>simp [shOf] at hl
     | succ d =>
       unfold shOf at hl
       split at hl
       ·rename_i k hu; obtain ⟨n,h1,_⟩:=DataW.trod_int hu h
        unfold Value.okWide Cell.okWide Cell.ok at hval
        simp only [hu] at hval
        cases v <;> simp at hval <;> rfl
       ·rename_i hu; obtain ⟨n,h1,_⟩:=DataW.trod_bool hu h
        unfold Value.okWide Cell.okWide Cell.ok at hval
        simp only [hu] at hval
        cases v <;> simp at hval <;> rfl
       ·rename_i e hu
        unfold Value.okWide Cell.okWide Cell.ok at hval
        simp only [hu] at hval
        cases v <;> simp at hval <;> rfl
       ·rename_i fs hu; simp [hu] at ha
       ·rename_i n e hu; simp [hu] at ha
       ·cases hl
    rw [hone] at hr
    cases hr with
    | cons _ _ _ _ h1 h2 =>
      unfold ValidL at hv
      exact ⟨y.1,h1,hv.1⟩
   ·cases hs
  ·cases hs
theorem read_all {d base b0 : Nat} {r : Reach} {spare : Nat -> Bool} {held : Bool} : ∀ {ts : List TypeId} {vs : List Value} {ds : List (DataW H)} {ps : List MemPlace} {shs : List Sh},DataW.TrodAll enc' P w base spare held ts vs ds ps ->
  (∀ (j : Nat) (t : TypeId) (v : Value),ts[j]? = some t -> vs[j]? = some v -> Value.okWide P w r b0 t v) -> argShs P d ts = some shs -> ∃ x : DatL shs,RelL (Cx.all w) w (encL shs x) vs /\ ValidL shs x
 | [],vs,ds,ps,shs,h,_,hs=>by
   unfold argShs at hs
   injection hs with hs; subst hs
   obtain ⟨rfl,_,_⟩:=trodAll_nil h
   exact ⟨(),by unfold encL; exact .nil,trivial⟩
 | t :: ts,vs,ds,ps,shs,h,hok,hs=>by
   unfold argShs at hs
   split at hs
   ·rename_i s l h1 h2
    injection hs with hs; subst hs
    obtain ⟨v,vs,dd,ds,p,q,rfl,rfl,rfl,h3,h4⟩:=trodAll_cons h
    obtain ⟨y,hr,hv⟩:=read_arg (hok 0 t v rfl rfl) h3 h1
    obtain ⟨x,hrs,hvs⟩:=read_all h4 (fun j t' v' ht hv=>hok (j + 1) t' v' (by simpa using ht) (by simpa using hv)) h2
    exact ⟨(y,x),by unfold encL; exact .cons _ _ _ _ hr hrs,by unfold ValidL; exact ⟨hv,hvs⟩⟩
   ·cases hs
end
end Abs
end Go.Proofs.YtlacopdaibhkkaaGreat

namespace Go.Proofs.YtlacopdaibhkkaaGreat
namespace Abs
open Go Go.RowKit Go.ChangeShapes Go.WideShapes
section
variable {H : Type} {enc' : TypeId × Value -> H} {P : Program} {W W' : World}
theorem trodAll_stays (laid : laidOutB P = true) (hb : Below W.heap.size W W') : ∀ {ts : List TypeId} {vs : List Value} {ds : List (DataW H)} {ps : List MemPlace},(ts.all fun t=>P.readableRec t && decide (t < P.types.size)) = true ->
  DataW.TrodAll enc' P W 0 (fun _=>true) true ts vs ds ps -> (∀ x ∈ ps,x.block < W.heap.size) -> DataW.TrodAll enc' P W' 0 (fun b=>decide (b < W.heap.size)) true ts vs ds ps
 | [],vs,ds,ps,_,h,_=>by
   obtain ⟨rfl,rfl,rfl⟩:=trodAll_nil h
   exact trodAll_mk0
 | t :: ts,vs,ds,ps,hr,h,hlt=>by
   obtain ⟨v,vs,d,ds,p,q,rfl,rfl,rfl,h1,h2⟩:=trodAll_cons h
   simp only [List.all_cons,Bool.and_eq_true,decide_eq_true_eq] at hr
   exact trodAll_cons_mk (Below.trod laid hr.1.1 hr.1.2 h1 hb fun x hx=>hlt x (List.mem_append_left _ hx)) (trodAll_stays laid hb hr.2 h2 fun x hx=>hlt x (List.mem_append_right _ hx))
theorem trodAll_len : ∀ {ts : List TypeId} {vs : List Value} {ds : List (DataW H)} {ps : List MemPlace} {base : Nat} {sp : Nat -> Bool} {held : Bool},DataW.TrodAll enc' P W base sp held ts vs ds ps -> ds.length = ts.length
 | [],vs,ds,ps,_,_,_,h=>by
   obtain ⟨rfl,rfl,rfl⟩:=trodAll_nil h
   rfl
 | t :: ts,vs,ds,ps,_,_,_,h=>by
   obtain ⟨v,vs,d,ds,p,q,rfl,rfl,rfl,h1,h2⟩:=trodAll_cons h
   simp [trodAll_len h2]
theorem law_post {f : Func} {s : ChangeSpec} {tb : TypeId} {apart handsOn fresh : Bool} (laid : laidOutB P = true) (hrt : f.resultTypes = #[tb]) (hub : P.underlying tb = some .bool) (hpar : (f.params.toList.all fun t=>P.readableRec t && decide (t < P.types.size)) = true)
  (hsv : s.vars = []) {args : Array Value} {ds gs : List (DataW H)} {before : List MemPlace} (n : Nat) (hn : f.params.toList.length = n) (hsf0 : ∀ ds : List (DataW H),ds.length = n -> (s.fn H ds).results = [.lit (.bool true)] /\ (s.fn H ds).args = ds /\ (s.fn H ds).vars = [])
  (hW : DataW.Whole enc' P f.params.toList s.vars apart W args.toList ds gs before) (hb : Below W.heap.size W W') : s.post enc' P f apart fresh handsOn false W args (.bool true) W':=by
 have hlt:=hW.lt
 have hW':=hW
 obtain ⟨p,q,hA,hV,rfl,hfz,hnd⟩:=hW
 have hsf:=hsf0 ds ((trodAll_len hA).trans hn)
 rw [hsv] at hV
 obtain ⟨rfl,rfl⟩:=trodVars_none hV
 rw [List.append_nil] at hlt hW'
 refine ⟨ds,[],p,[],p,[],hW',?_,?_,?_,hb.frame _,fun h=>by cases h⟩
 ·rw [List.append_nil,hsf.1,hrt]
  exact trodAll_mk1 (shut_bool hub true)
 ·rw [List.append_nil,hsf.2.1]
  exact trodAll_stays laid hb hpar hA hlt
 ·rw [hsv,List.append_nil,hsf.2.2]
  exact rfl
def LawFn (P : Program) (f : FuncId) (shs : List Sh) : Prop:=FnSpec P f shs ⟨ValidL shs,fun _=>.sb true⟩
theorem law_calls {f : FuncId} {fn : Func} {shs : List Sh} (hl : LawFn P f shs) {d : Nat} {args : Array Value} {ds : List (DataW H)} {ps : List MemPlace} (hs : argShs P d fn.params.toList = some shs)
  (hA : DataW.TrodAll enc' P W 0 (fun _=>true) true fn.params.toList args.toList ds ps) {r : Reach} {base : Nat} (hval : ∀ (j : Nat) t v,fn.params[j]? = some t -> args[j]? = some v -> Value.okWide P W r base t v) :
  Calls P f args W fun e W'=>e = .returned (.bool true) /\ Below W.heap.size W W':=by
 obtain ⟨x,hr,hv⟩:=read_all (d:=d) hA (fun j t v ht hv=>hval j t v (by simpa using ht) (by simpa using hv)) hs
 have:=hl x hv (Cx.all W) W args.toList (fun _=>rfl) (hr_all W) hr
 refine Calls.mono this ?_
 rintro e w' ⟨v,C',he,h1,h2,h3⟩
 cases h2
 exact ⟨he,h3.os,h3.tape,h3.output,h3.size,fun k hk=>h3.keep k hk fun i b c n hi=>by simp at hi⟩
end
end Abs
end Go.Proofs.YtlacopdaibhkkaaGreat
