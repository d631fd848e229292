/- A part of the proof: no statement of its own. -/
import Derived.Test.YtlacopdaibhkkaaGreatQGef87c8b1
set_option linter.unusedSimpArgs false
set_option linter.unusedVariables false
namespace Go.Proofs.YtlacopdaibhkkaaGreat
namespace Abs
open Go Go.RowKit
def renA (f : Nat -> Nat) : AV -> AV
 | .own i off=>.own (f i) off
 | .row i=>.row (f i)
 | .agg l=>.agg (renL f l)
 | .tup l=>.tup (renL f l)
 | .fn g a b=>.fn g (renL f a) (renL f b)
 | a=>a
where renL (f : Nat -> Nat) : List AV -> List AV
 | []=>[]
 | a :: l=>renA f a :: renL f l
def okR (p : Nat -> Bool) : AV -> Bool
 | .own i _=>p i
 | .row i=>p i
 | .elt _ _ _ _=>false
 | .lsl _ _ _=>false
 | .gd _ _=>false
 | .agg l=>okRL p l
 | .tup l=>okRL p l
 | .fn _ a b=>okRL p a && okRL p b
 | _=>true
where okRL (p : Nat -> Bool) : List AV -> Bool
 | []=>true
 | a :: l=>okR p a && okRL p l
noncomputable section
def renA_renLP : {g : (Nat -> Nat) -> List AV -> List AV // renA.renL = g}:=⟨_,by delta renA.renL; rfl⟩
def renA_renLN : (Nat -> Nat) -> List AV -> List AV:=renA_renLP.1
theorem renA_renLN_eq : renA_renLN = renA.renL:=renA_renLP.2.symm
def renAP : {g : (Nat -> Nat) -> AV -> AV // renA = g}:=⟨_,by delta renA; rfl⟩
def renAN : (Nat -> Nat) -> AV -> AV:=renAP.1
theorem renAN_eq : renAN = renA:=renAP.2.symm
def okR_okRLP : {g : (Nat -> Bool) -> List AV -> Bool // okR.okRL = g}:=⟨_,by delta okR.okRL; rfl⟩
def okR_okRLN : (Nat -> Bool) -> List AV -> Bool:=okR_okRLP.1
theorem okR_okRLN_eq : okR_okRLN = okR.okRL:=okR_okRLP.2.symm
def okRP : {g : (Nat -> Bool) -> AV -> Bool // okR = g}:=⟨_,by delta okR; rfl⟩
def okRN : (Nat -> Bool) -> AV -> Bool:=okRP.1
theorem okRN_eq : okRN = okR:=okRP.2.symm
end
attribute [simp] renA_renLN_eq renAN_eq okR_okRLN_eq okRN_eq
noncomputable section
def renB (f : Nat -> Nat) : Blk -> Blk
 | .cells t l=>.cells t (renA_renLN f l)
 | b=>b
def okRB (p : Nat -> Bool) : Blk -> Bool
 | .cells _ l=>okR_okRLN p l
 | .rows _ _ _ _ _ _ _ _=>false
 | _=>true
def okRH (p : Nat -> Bool) : Heap -> Bool
 | []=>true
 | b :: l=>okRB p b && okRH p l
def posD : List Nat -> Nat -> Nat
 | [],_=>0
 | j :: l,i=>(match Nat.beq j i with | true=>0 | false=>posD l i + 1)
def nodupB : List Nat -> Bool
 | []=>true
 | j :: l=>!(memN j l) && nodupB l
def subH (js : List Nat) (hp : Heap) : List Nat -> Heap
 | []=>[]
 | j :: l=>renB (posD js) (getB hp j) :: subH js hp l
def okSub (js : List Nat) (hp : Heap) : List Nat -> Bool
 | []=>true
 | j :: l=>okRB (fun i=>memN i js) (getB hp j) && okSub js hp l
def outN (js : List Nat) (n : Nat) (k : Nat) : Nat:=match js[k]? with | some i=>i | none=>n + (k - js.length)
def putH (js : List Nat) (f : Nat -> Nat) (h1 : Heap) : Nat -> Heap -> Heap
 | _,[]=>[]
 | i,b :: l=>(match memN i js with | true=>renB f (getB h1 (posD js i)) | false=>b) :: putH js f h1 (i + 1) l
def newH (f : Nat -> Nat) : Nat -> Heap -> Heap
 | _,[]=>[]
 | 0,b :: l=>renB f b :: newH f 0 l
 | m + 1,_ :: l=>newH f m l
end
section
variable {P : Program} {S : Sums} {C C' C1 : Cx} {w w' : World} {H hp : Heap}
theorem ren_rel {f : Nat -> Nat} {p : Nat -> Bool} (hρ : ∀ i q,p i = true -> C.ρ i = some q -> C'.ρ (f i) = some q) (hI : ∀ b,C.I b -> C'.I b) {a : AV} {v : Value} (h : Rel C w a v) : okR p a = true -> Rel C' w (renA f a) v:=by
 refine Rel.rec (C:=C) (w:=w) (motive_1:=fun a v _=>okR p a = true -> Rel C' w (renA f a) v) (motive_2:=fun l vs _=>okR.okRL p l = true -> RelL C' w (renA.renL f l) vs)
  ?_ ?_ ?_ ?_ ?_ ?_ ?_ ?_ ?_ ?_ ?_ ?_ ?_ ?_ ?_ ?_ ?_ ?_ ?_ ?_ h
 ·exact fun v _=>.top v
 ·exact fun k a v ho=>by simp [okR] at ho
 ·exact fun k n _=>.li k n
 ·exact fun k n _=>.si k n
 ·exact fun b _=>.lb b
 ·exact fun b _=>.sb b
 ·exact fun x _=>.v x
 ·exact fun l vs _ h ho=>.agg _ vs (h (by simpa [okR] using ho))
 ·exact fun l vs _ h ho=>.tup _ vs (h (by simpa [okR] using ho))
 ·exact fun i off b c n h ho=>.own _ _ _ _ _ (hρ _ _ (by simpa [okR] using ho) h)
 ·exact fun i sz k off b c n h hk ho=>by simp [okR] at ho
 ·exact fun i b c n h ho=>.row _ _ _ _ (hρ _ _ (by simpa [okR] using ho) h)
 ·exact fun i n sz b c m h ho=>by simp [okR] at ho
 ·exact fun i h ho=>.rown _ (hρ _ _ (by simpa [okR] using ho) h)
 ·intro n sz el A cap vs hcap hA hr hl hn _ _
  exact (Rel.slc n sz el A cap vs hcap hA hr hl hn).change hI rfl
 ·intro l ad vs hr hI' hc hn _ _
  exact (Rel.xp l ad vs hr hI' hc hn).change hI rfl
 ·exact fun g l m vs ws _ _ h h' ho=>by
   simp [okR] at ho
   exact .fn _ _ _ vs ws (h ho.1) (h' ho.2)
 ·intro n sz el ad vs hI' hc hr hl hn _ _
  exact (Rel.pa n sz el ad vs hI' hc hr hl hn).change hI rfl
 ·exact fun _=>.nil
 ·exact fun a l v vs _ _ h h' ho=>by
   simp [okR.okRL] at ho
   exact .cons _ _ v vs (h ho.1) (h' ho.2)
theorem ren_relL {f : Nat -> Nat} {p : Nat -> Bool} (hρ : ∀ i q,p i = true -> C.ρ i = some q -> C'.ρ (f i) = some q) (hI : ∀ b,C.I b -> C'.I b) : ∀ {l : List AV} {vs : List Value},RelL C w l vs -> okR.okRL p l = true -> RelL C' w (renA.renL f l) vs
 | _,_,.nil,_=>.nil
 | _,_,.cons a l v vs h h',ho=>by
   simp [okR.okRL] at ho
   exact .cons _ _ _ _ (ren_rel hρ hI h ho.1) (ren_relL hρ hI h' ho.2)
theorem ren_brel {f : Nat -> Nat} {p : Nat -> Bool} (hρ : ∀ i q,p i = true -> C.ρ i = some q -> C'.ρ (f i) = some q) (hI : ∀ b,C.I b -> C'.I b) {b : Blk} {q : Pl} (h : BRel C w q b) (ho : okRB p b = true) : BRel C' w q (renB f b):=by
 cases b with
 | dead=>cases q <;> exact h.elim
 | cells t l =>
   cases q with
   | nil=>exact h.elim
   | «at» x cap n =>
     obtain ⟨vs,hr,hh⟩:=h
     unfold okRB at ho
     rw [okR_okRLN_eq] at ho
     unfold renB
     rw [renA_renLN_eq]
     exact ⟨vs,ren_relL hρ hI hr ho,hh⟩
 | row e sz m el =>
   cases q with
   | nil=>exact h
   | «at» x cap n =>
     obtain ⟨h1,h2,h3,cs,vs,hh,hs,hc⟩:=h
     exact ⟨h1,h2,h3,cs,vs,hh,hs,fun k hk=>⟨(hc k hk).1.change hI (own_ok (hc k hk).2.1),(hc k hk).2⟩⟩
 | mat t wd m f =>
   cases q with
   | nil=>exact h.elim
   | «at» x cap n =>
     obtain ⟨h1,h2,h3,cs,hh,hs,hc⟩:=h
     exact ⟨h1,h2,h3,cs,hh,hs,fun k hk j hj=>by
      obtain ⟨ho,v,hv,hr⟩:=hc k hk j hj
      exact ⟨ho,v,hv,hr.change hI (own_okC ho)⟩⟩
 | rows=>unfold okRB at ho; cases ho
theorem pos_mem : ∀ {js : List Nat} {i : Nat},memN i js = true -> js[posD js i]? = some i
 | [],i,h=>by simp [memN] at h
 | j :: l,i,h=>by
   unfold memN at h
   unfold posD
   split at h
   ·rename_i e; rw [e]; have:=Nat.eq_of_beq_eq_true e; subst this; rfl
   ·rename_i e; rw [e]; simpa using pos_mem h
theorem mem_get : ∀ {js : List Nat} {k i : Nat},js[k]? = some i -> memN i js = true
 | [],k,i,h=>by simp at h
 | j :: l,0,i,h=>by
   simp at h; subst h
   unfold memN; rw [Nat.beq_refl]
 | j :: l,k + 1,i,h=>by
   simp at h
   unfold memN
   split
   ·rfl
   ·exact mem_get h
theorem nodup_inj : ∀ {js : List Nat} {k k' i : Nat},nodupB js = true -> js[k]? = some i -> js[k']? = some i -> k = k'
 | [],k,k',i,_,h,_=>by simp at h
 | j :: l,0,0,i,_,_,_=>rfl
 | j :: l,0,k' + 1,i,hn,h,h'=>by
   simp at h h'; subst h
   simp [nodupB,mem_get h'] at hn
 | j :: l,k + 1,0,i,hn,h,h'=>by
   simp at h h'; subst h'
   simp [nodupB,mem_get h] at hn
 | j :: l,k + 1,k' + 1,i,hn,h,h'=>by
   simp at h h'
   simp [nodupB] at hn
   rw [nodup_inj hn.2 h h']
theorem getB_sub (js : List Nat) (hp : Heap) : ∀ (l : List Nat) (k i : Nat),l[k]? = some i -> getB (subH js hp l) k = renB (posD js) (getB hp i)
 | [],k,i,h=>by simp at h
 | j :: l,0,i,h=>by simp at h; subst h; rfl
 | j :: l,k + 1,i,h=>by simp at h; exact getB_sub js hp l k i h
theorem len_sub (js : List Nat) (hp : Heap) : ∀ l : List Nat,(subH js hp l).length = l.length
 | []=>rfl
 | _ :: l=>by simp [subH,len_sub js hp l]
theorem ok_sub (js : List Nat) (hp : Heap) : ∀ (l : List Nat) (k i : Nat),okSub js hp l = true -> l[k]? = some i -> okRB (fun i=>memN i js) (getB hp i) = true
 | [],k,i,_,h=>by simp at h
 | j :: l,0,i,ho,h=>by simp at h; subst h; simp [okSub] at ho; exact ho.1
 | j :: l,k + 1,i,ho,h=>by simp at h; simp [okSub] at ho; exact ok_sub js hp l k i ho.2 h
theorem len_put (js : List Nat) (f : Nat -> Nat) (h1 : Heap) : ∀ (i : Nat) (l : Heap),(putH js f h1 i l).length = l.length
 | _,[]=>rfl
 | i,_ :: l=>by simp [putH,len_put js f h1 (i + 1) l]
theorem getB_put (js : List Nat) (f : Nat -> Nat) (h1 : Heap) : ∀ (i k : Nat) (l : Heap),k < l.length -> getB (putH js f h1 i l) k = (match memN (i + k) js with | true=>renB f (getB h1 (posD js (i + k))) | false=>getB l k)
 | i,k,[],h=>by simp at h
 | i,0,b :: l,_=>rfl
 | i,k + 1,b :: l,h=>by
   have:=getB_put js f h1 (i + 1) k l (by simpa using h)
   rw [show i + 1 + k = i + (k + 1) by omega] at this
   exact this
theorem getB_new (f : Nat -> Nat) : ∀ (m k : Nat) (l : Heap),getB (newH f m l) k = renB f (getB l (k + m))
 | m,k,[]=>by cases m <;> rfl
 | 0,0,b :: l=>rfl
 | 0,k + 1,b :: l=>by have:=getB_new f 0 k l; exact this
 | m + 1,k,b :: l=>by have:=getB_new f m k l; rw [show k + (m + 1) = (k + m) + 1 by omega]; exact this
theorem okRH_get {p : Nat -> Bool} : ∀ {l : Heap} {k : Nat},okRH p l = true -> okRB p (getB l k) = true
 | [],_,_=>rfl
 | b :: l,0,h=>by simp [okRH] at h; exact h.1
 | b :: l,k + 1,h=>by simp [okRH] at h; exact okRH_get (l:=l) h.2
theorem Fn.focus {f : FuncId} {args : List AV} {js : List Nat} {res : AV} {h1 : Heap} (hnd : nodupB js = true) (hoa : okR.okRL (fun i=>memN i js) args = true) (hoh : okSub js hp js = true)
  (hor : okR (fun _=>true) res = true) (ho1 : okRH (fun _=>true) h1 = true)
  (h : Fn P f (renA.renL (posD js) args) (subH js hp js) res h1) :
  Fn P f args hp (renA (outN js hp.length) res) (putH js (outN js hp.length) h1 0 hp ++ newH (outN js hp.length) js.length h1):=by
 intro C w vs hO hH ha
 have hpos : ∀ i q,memN i js = true -> C.ρ i = some q -> (⟨fun k=>match js[k]? with | some i=>C.ρ i | none=>none,C.I,fun _=>none⟩ : Cx).ρ (posD js i) = some q:=fun i q hm hq=>by
  simp only [pos_mem hm]; exact hq
 have hC0 : ∀ k q,(⟨fun k=>match js[k]? with | some i=>C.ρ i | none=>none,C.I,fun _=>none⟩ : Cx).ρ k = some q -> ∃ i,js[k]? = some i /\ C.ρ i = some q:=fun k q hq=>by
  simp only at hq
  split at hq
  ·rename_i i hi; exact ⟨i,hi,hq⟩
  ·cases hq
 have hH0 : HR (⟨fun k=>match js[k]? with | some i=>C.ρ i | none=>none,C.I,fun _=>none⟩ : Cx) (subH js hp js) w:=by
  refine ⟨fun k q hq=>?_,fun k k' b c n b' c' n' hq hq' hne=>?_,fun k b c n hq=>?_,hH.ilt,fun b x h=>by cases h⟩
  ·obtain ⟨i,hi,hq⟩:=hC0 k q hq
   rw [getB_sub js hp js k i hi]
   exact ren_brel hpos (fun _ h=>h) (hH.live i q hq) (ok_sub js hp js k i hoh hi)
  ·obtain ⟨i,hi,hq⟩:=hC0 _ _ hq
   obtain ⟨i',hi',hq'⟩:=hC0 _ _ hq'
   exact hH.inj i i' _ _ _ _ _ _ hq hq' fun e=>hne (by subst e; exact nodup_inj hnd hi hi')
  ·obtain ⟨i,hi,hq⟩:=hC0 _ _ hq
   exact hH.fresh _ _ _ _ hq
 refine (h _ w vs (fun _=>rfl) hH0 (ren_relL hpos (fun _ h=>h) ha hoa)).mono ?_
 rintro e w' ⟨v,C1,he,h2,h3,h4⟩
 rw [len_sub] at h4
 have hlt : ∀ {i : Nat} {p : Pl},C.ρ i = some p -> i < hp.length:=fun hi=>hH.lt hi
 have hkeep : ∀ b,b < w.heap.size -> (∀ i c n,memN i js = true -> C.ρ i ≠ some (.at b c n)) -> w'.heap[b]? = w.heap[b]?:=fun b hb hn=>h4.keep b hb fun k b' c n hk hq e=>by
  subst e
  obtain ⟨i,hi,hq⟩:=hC0 _ _ hq
  exact hn i c n (mem_get hi) hq
 let C' : Cx:=⟨fun i=>if i < hp.length then C.ρ i else C1.ρ (i - hp.length + js.length),C1.I,C1.O⟩
 have hρ1 : ∀ k i,js[k]? = some i -> C1.ρ k = C.ρ i:=fun k i hi=>by
  rw [h4.rho k (List.getElem?_eq_some_iff.1 hi).1]; simp only [hi]
 have hout : ∀ k q,(fun _ : Nat=>true) k = true -> C1.ρ k = some q -> C'.ρ (outN js hp.length k) = some q:=fun k q _ hq=>by
  unfold outN
  cases hk : js[k]? with
  | some i =>
    rw [hρ1 k i hk] at hq
    show (if i < hp.length then C.ρ i else _) = _
    rw [if_pos (hlt hq)]; exact hq
  | none =>
    have:=List.getElem?_eq_none_iff.1 hk
    show (if hp.length + (k - js.length) < hp.length then _ else C1.ρ (hp.length + (k - js.length) - hp.length + js.length)) = _
    rw [if_neg (by omega),show hp.length + (k - js.length) - hp.length + js.length = k by omega]; exact hq
 have hx : Cext C w C' w':=⟨fun i p hi=>by show (if i < hp.length then _ else _) = _; rw [if_pos (hlt hi)]; exact hi,fun b hb=>h4.imm b hb,fun b hb=>hkeep b (hH.ilt b hb) fun i c n _ hq=>(hH.fresh _ _ _ _ hq).2 hb⟩
 have hold : ∀ {i : Nat} {q : Pl},i < hp.length -> C'.ρ i = some q -> C.ρ i = some q:=fun hi hq=>by
  have hq : (if _ < hp.length then C.ρ _ else C1.ρ _) = some _:=hq
  rwa [if_pos hi] at hq
 have hnew : ∀ {i : Nat} {q : Pl},¬ i < hp.length -> C'.ρ i = some q -> C1.ρ (i - hp.length + js.length) = some q:=fun hi hq=>by
  have hq : (if _ < hp.length then C.ρ _ else C1.ρ _) = some _:=hq
  rwa [if_neg hi] at hq
 have hlen:=len_put js (outN js hp.length) h1 0 hp
 refine ⟨v,C',he,⟨fun i q hi=>?_,fun i j b c n b' c' n' hi hj hne=>?_,fun i b c n hi=>?_,h2.ilt,fun b x hb=>?_⟩,ren_rel hout (fun _ h=>h) h3 hor,?_⟩
 ·by_cases hin : i < hp.length
  ·have hq:=hold hin hi
   rw [getB_eq,List.getD_eq_getElem?_getD,List.getElem?_append_left (by omega),<- List.getD_eq_getElem?_getD,<- getB_eq,getB_put _ _ _ _ _ _ hin,Nat.zero_add]
   cases hm : memN i js with
   | true =>
     have hk:=pos_mem hm
     have:=h2.live (posD js i) q (by rw [hρ1 _ _ hk]; exact hq)
     exact ren_brel hout (fun _ h=>h) this (okRH_get ho1)
   | false =>
     refine (hH.live i q hq).mono hx (fun b c n e=>?_) fun b x hb=>by rw [hO b] at hb; cases hb
     subst e
     refine hkeep b (hH.fresh _ _ _ _ hq).1 fun j c' n' hj hq'=>?_
     have : i ≠ j:=fun e=>by subst e; rw [hm] at hj; cases hj
     exact hH.inj _ _ _ _ _ _ _ _ hq hq' this rfl
  ·have hq:=hnew hin hi
   rw [getB_eq,List.getD_eq_getElem?_getD,List.getElem?_append_right (by omega),<- List.getD_eq_getElem?_getD,<- getB_eq,hlen,getB_new]
   exact ren_brel hout (fun _ h=>h) (h2.live _ q hq) (okRH_get ho1)
 ·by_cases hi' : i < hp.length <;> by_cases hj' : j < hp.length
  ·exact hH.inj _ _ _ _ _ _ _ _ (hold hi' hi) (hold hj' hj) hne
  ·have h5:=(hH.fresh _ _ _ _ (hold hi' hi)).1
   have h6:=h4.own _ _ _ _ (by omega) (hnew hj' hj)
   omega
  ·have h5:=(hH.fresh _ _ _ _ (hold hj' hj)).1
   have h6:=h4.own _ _ _ _ (by omega) (hnew hi' hi)
   omega
  ·exact h2.inj _ _ _ _ _ _ _ _ (hnew hi' hi) (hnew hj' hj) (by omega)
 ·by_cases hi' : i < hp.length
  ·have h5:=hH.fresh _ _ _ _ (hold hi' hi)
   refine ⟨Nat.lt_of_lt_of_le h5.1 h4.size,fun hI=>?_⟩
   rcases h4.imm' b hI with h6 | h6
   ·exact h5.2 h6
   ·omega
  ·exact h2.fresh _ _ _ _ (hnew hi' hi)
 ·obtain ⟨s1,s2,s3,s4⟩:=h2.sub b x hb
  refine ⟨s1,s2,fun i b' c n hi=>?_,s4⟩
  by_cases hi' : i < hp.length
  ·have h5:=hH.fresh _ _ _ _ (hold hi' hi)
   have h6:=h4.sub b x hb
   omega
  ·exact s3 _ _ _ _ (hnew hi' hi)
 ·refine ⟨h4.os,h4.tape,h4.output,h4.size,fun k hk hno=>hkeep k hk fun i c n _ hq=>?_,h4.imm,h4.imm',fun i hi=>?_,fun i b c n hi hq=>h4.own _ _ _ _ (by omega) (hnew (by omega) hq),h4.sub⟩
  ·exact hno i k c n (hlt hq) hq rfl
  ·show (if i < hp.length then _ else _) = _; rw [if_pos hi]
end
end Abs
end Go.Proofs.YtlacopdaibhkkaaGreat

namespace Go.Proofs.YtlacopdaibhkkaaGreat
namespace Abs
open Go Go.RowKit
inductive OB where
 | cells (t : TypeId) (l : List Sh)
 | row (e : TypeId) (sz : Nat) (l : List Sh)
@[reducible] def DatB : OB -> Type
 | .cells _ l=>DatL l
 | .row _ _ l=>Nat × (Nat -> DatL l)
@[reducible] def DatH : List OB -> Type
 | []=>Unit
 | b :: l=>DatB b × DatH l
def encB : (b : OB) -> DatB b -> Blk
 | .cells t l,x=>.cells t (encL l x)
 | .row e sz l,x=>.row e sz (.sym x.1) (fun k=>encL l (x.2 k))
def encH : (l : List OB) -> DatH l -> Heap
 | [],_=>[]
 | b :: l,x=>encB b x.1 :: encH l x.2
noncomputable section
def okB : OB -> Blk -> Bool
 | .cells t l,b=>(match b with | .cells t' m=>Nat.beq t' t && okShLN l m | _=>false)
 | .row e sz l,b=>(match b with | .row e' sz' _ _=>Nat.beq e' e && Nat.beq sz' sz && cellShL l | _=>false)
def okHB : List OB -> Heap -> Bool
 | [],h=>(match h with | []=>true | _=>false)
 | b :: l,h=>(match h with | c :: h=>okB b c && okHB l h | []=>false)
def canB : OB -> Blk -> List Cd
 | .cells _ l,b=>(match b with | .cells _ m=>canShLN l m | _=>[])
 | .row _ _ l,b=>(match b with | .row _ _ n el=>[⟨CanEl l,(n.val,el)⟩] | _=>[])
def canHB : List OB -> Heap -> List Cd
 | [],_=>[]
 | b :: l,h=>(match h with | c :: h=>appP (canB b c) (canHB l h) | []=>[])
def decB : (b : OB) -> Blk -> DatB b
 | .cells _ l,b=>(match b with | .cells _ m=>decL l m | _=>decL l [])
 | .row _ _ l,b=>(match b with | .row _ _ n el=>(n.val,fun k=>decL l (el k)) | _=>(0,fun _=>decL l []))
def decH : (l : List OB) -> Heap -> DatH l
 | [],_=>()
 | b :: l,h=>(match h with | c :: h=>(decB b c,decH l h) | []=>(decB b .dead,decH l []))
def decBK {β : Type 1} : (b : OB) -> Blk -> (DatB b -> β) -> β
 | .cells _ l,b,f=>(match b with | .cells _ m=>decKLN l m f | _=>f (decL l []))
 | .row _ _ l,b,f=>(match b with | .row _ _ n el=>(match n with | .lit n=>f (n,fun k=>decL l (el k)) | .sym n=>f (n,fun k=>decL l (el k))) | _=>f (0,fun _=>decL l []))
def decHK {β : Type 1} : (l : List OB) -> Heap -> (DatH l -> β) -> β
 | [],_,f=>f ()
 | b :: l,h,f=>(match h with | c :: h=>decBK b c fun x=>decHK l h fun y=>f (x,y) | []=>f (decB b .dead,decH l []))
structure SpecF (obs : List OB) (shs : List Sh) where
 pre : DatH obs -> DatL shs -> Prop
 res : DatH obs -> DatL shs -> AV
 after : DatH obs -> DatL shs -> Heap
def FnSpecF (P : Program) (f : FuncId) (obs : List OB) (shs : List Sh) (sp : SpecF obs shs) : Prop :=
 ∀ o x,sp.pre o x -> Fn P f (encL shs x) (encH obs o) (sp.res o x) (sp.after o x)
def refsA : AV -> List Nat
 | .own i _=>[i]
 | .row i=>[i]
 | .agg l=>refsL l
 | .tup l=>refsL l
 | .fn _ a b=>refsL a ++ refsL b
 | _=>[]
where refsL : List AV -> List Nat
 | []=>[]
 | a :: l=>refsA a ++ refsL l
def addJ (js : List Nat) : List Nat -> List Nat
 | []=>js
 | i :: l=>(match memN i js with | true=>addJ js l | false=>addJ (js ++ [i]) l)
def refsH (hp : Heap) : List Nat -> List Nat
 | []=>[]
 | j :: l=>(match getB hp j with | .cells _ m=>refsA.refsL m | _=>[]) ++ refsH hp l
def forceN {β : Type 1} : List Nat -> (List Nat -> β) -> β
 | [],k=>k []
 | a :: l,k=>forceN l fun l'=>k (a :: l')
def refsA_refsLP : {g : List AV -> List Nat // refsA.refsL = g}:=⟨_,by delta refsA.refsL; rfl⟩
def refsA_refsLN : List AV -> List Nat:=refsA_refsLP.1
theorem refsA_refsLN_eq : refsA_refsLN = refsA.refsL:=refsA_refsLP.2.symm
def mkSumF (obs : List OB) (shs : List Sh) (sp : SpecF obs shs) : Summ2:=fun args hp =>
 forceN (addJ [] (refsA_refsLN args)) fun j1=>forceN (addJ j1 (refsH hp j1)) fun js =>
 match nodupB js && okR_okRLN (fun i=>memN i js) args && okSub js hp js && okHB obs (subH js hp js) && okShLN shs (renA_renLN (posD js) args) with
 | true=>decHK obs (subH js hp js) fun o=>decKLN shs (renA_renLN (posD js) args) fun x =>
   (match okRN (fun _=>true) (sp.res o x) && okRH (fun _=>true) (sp.after o x) with
   | true=>some ⟨appP (canHB obs (subH js hp js)) (appP (canShLN shs (renA_renLN (posD js) args)) [⟨fun z : DatH obs × DatL shs=>sp.pre z.1 z.2,(o,x)⟩]),
     renAN (outN js hp.length) (sp.res o x),putH js (outN js hp.length) (sp.after o x) 0 hp ++ newH (outN js hp.length) js.length (sp.after o x)⟩
   | false=>none)
 | false=>none
end
section
variable {P : Program} {S : Sums} {C C' C1 : Cx} {w w' : World} {H hp : Heap}
theorem forceN_eq {β : Type 1} : ∀ (l : List Nat) (k : List Nat -> β),forceN l k = k l
 | [],_=>rfl
 | a :: l,k=>by unfold forceN; rw [forceN_eq l]
theorem decBK_eq {β : Type 1} {b : OB} {c : Blk} {f : DatB b -> β} (h : okB b c = true) : decBK b c f = f (decB b c):=by
 cases b with
 | cells t l =>
   unfold okB at h
   cases c <;> simp only at h <;> first | (cases h; done) | skip
   simp only [okShLN_eq,Bool.and_eq_true] at h
   unfold decBK decB
   exact (decKLN_eq _ _ _).trans (decKL_eq h.2)
 | row e sz l =>
   cases c <;> unfold okB at h <;> simp only at h <;> first | (cases h; done) | skip
   rename_i n _
   unfold decBK decB
   cases n <;> rfl
theorem decHK_eq {β : Type 1} : ∀ {l : List OB} {h : Heap} {f : DatH l -> β},okHB l h = true -> decHK l h f = f (decH l h)
 | [],_,_,_=>rfl
 | b :: l,[],f,h=>by cases h
 | b :: l,c :: h,f,ho=>by
   unfold okHB at ho
   simp only [Bool.and_eq_true] at ho
   unfold decHK decH
   simp only
   rw [decBK_eq ho.1,decHK_eq ho.2]
theorem enc_decB {b : OB} {c : Blk} (h : okB b c = true) (hc : ∀ p ∈ canB b c,p.ok) {q : Pl} (hr : BRel C w q c) : BRel C w q (encB b (decB b c)):=by
 cases b with
 | cells t l =>
   unfold okB at h
   cases c <;> simp only at h <;> first | (cases h; done) | skip
   simp only [okShLN_eq,Bool.and_eq_true] at h
   unfold canB at hc
   simp only [canShLN_eq] at hc
   obtain rfl:=Nat.eq_of_beq_eq_true h.1
   unfold encB decB
   cases q with
   | nil=>exact hr.elim
   | «at» x cap n =>
     obtain ⟨vs,h1,h2⟩:=hr
     exact ⟨vs,encL_dec (can_shL h.2 hc) h1,h2⟩
 | row e sz l =>
   cases c <;> unfold okB at h <;> simp only at h <;> first | (cases h; done) | skip
   rename_i e' sz' n el
   simp only [Bool.and_eq_true] at h
   obtain rfl:=Nat.eq_of_beq_eq_true h.1.1
   obtain rfl:=Nat.eq_of_beq_eq_true h.1.2
   unfold encB decB
   have hcan : CanEl l (n.val,el):=hc ⟨CanEl l,(n.val,el)⟩ (by unfold canB; exact List.mem_singleton.2 rfl)
   cases q with
   | nil=>exact hr
   | «at» x cap m =>
     obtain ⟨h1,h2,h3,cs,vs,hh,hs,hcl⟩:=hr
     exact ⟨h1,h2,h3,cs,vs,hh,hs,fun k hk=>⟨encL_dec (hcan k (by rw [h1]; exact hk)) (hcl k hk).1,enc_okL h.2,(hcl k hk).2.2⟩⟩
theorem enc_decH : ∀ {l : List OB} {h : Heap},okHB l h = true -> (∀ p ∈ canHB l h,p.ok) -> ∀ (i : Nat) {q : Pl},BRel C w q (getB h i) -> BRel C w q (getB (encH l (decH l h)) i)
 | [],[],_,_,i,q,hr=>by cases q <;> exact hr.elim
 | [],_ :: _,h,_,_,_,_=>by cases h
 | b :: l,[],h,_,_,_,_=>by cases h
 | b :: l,c :: h,ho,hc,i,q,hr=>by
   unfold okHB at ho
   simp only [Bool.and_eq_true] at ho
   obtain ⟨h1,h2⟩:=appP_mem (l:=canB b c) (m:=canHB l h) fun p hp=>hc p (by unfold canHB; exact hp)
   cases i with
   | zero=>exact enc_decB ho.1 h1 hr
   | succ i=>exact enc_decH ho.2 h2 i hr
theorem len_encH : ∀ {l : List OB} {h : Heap},okHB l h = true -> (encH l (decH l h)).length = h.length
 | [],[],_=>rfl
 | [],_ :: _,h=>by cases h
 | b :: l,[],h=>by cases h
 | b :: l,c :: h,ho=>by
   unfold okHB at ho
   simp only [Bool.and_eq_true] at ho
   unfold encH decH
   simp [len_encH ho.2]
theorem Fn.weakenH {f : FuncId} {args : List AV} {H0 : Heap} {r : AV} {H' : Heap} (h : Fn P f args H0 r H') (hl : H0.length = H.length) (hw : ∀ (C : Cx) (w : World) (i : Nat) (q : Pl),BRel C w q (getB H i) -> BRel C w q (getB H0 i)) : Fn P f args H r H' :=
 fun C w vs hO hH ha=>(h C w vs hO ⟨fun i q hi=>hw C w i q (hH.live i q hi),hH.inj,hH.fresh,hH.ilt,hH.sub⟩ ha).mono fun _e _w' ⟨v,C',h1,h2,h3,h4⟩=>⟨v,C',h1,h2,h3,hl ▸ h4⟩
def Summ2OK (P : Program) (f : FuncId) (s : Summ2) : Prop:=∀ args hp pre res hp',s args hp = some ⟨pre,res,hp'⟩ -> (∀ p ∈ pre,p.ok) -> Fn P f args hp res hp'
theorem mkSumF_ok {f : FuncId} {obs : List OB} {shs : List Sh} {sp : SpecF obs shs} (h : FnSpecF P f obs shs sp) : Summ2OK P f (mkSumF obs shs sp):=by
 intro args hp pre res hp' hm hpre
 unfold mkSumF at hm
 simp only [okShLN_eq,decKLN_eq,canShLN_eq,okR_okRLN_eq,okRN_eq,renA_renLN_eq,renAN_eq,refsA_refsLN_eq] at hm
 rw [forceN_eq,forceN_eq] at hm
 generalize addJ (addJ [] (refsA.refsL args)) (refsH hp (addJ [] (refsA.refsL args))) = js at hm
 split at hm
 ·rename_i hok
  simp only [Bool.and_eq_true] at hok
  obtain ⟨⟨⟨⟨h1,h2⟩,h3⟩,h4⟩,h5⟩:=hok
  rw [decHK_eq h4,decKL_eq h5] at hm
  split at hm
  ·rename_i h6
   simp only [Bool.and_eq_true] at h6
   injection hm with hm; injection hm with e1 e2 e3
   subst e1 e2 e3
   obtain ⟨h7,h8⟩:=appP_mem hpre
   obtain ⟨h9,h10⟩:=appP_mem h8
   have:=h _ _ (h10 _ (List.mem_singleton.2 rfl))
   refine Fn.focus h1 h2 h3 h6.1 h6.2 ?_
   exact (this.weakenH (len_encH h4) fun C w i q=>enc_decH h4 h7 i).weaken fun C w vs ha=>encL_dec (can_shL h5 h9) ha
  ·cases hm
 ·cases hm
theorem SumsOK.addTwo {one : List (Nat × Summ)} {two : List (Nat × Summ2)} {lo : Nat} {eqs : List (Nat × List (Option IntKind))} {its : List (Nat × Iter)} {imm : List Nat} (hS : SumsOK P ⟨one, two, lo, eqs, its, imm⟩) {f : FuncId} {fn : Func} (hf : P.funcs[f]? = some fn) (hn : (fn.name == "runtime.NumGoroutine") = false) (hb : fn.body.isNone = false)
  {s : Summ2} (h : Summ2OK P f s) : SumsOK P ⟨one,(f,s) :: two,lo,eqs,its,imm⟩:=by
 refine ⟨hS.one,fun g s1 hg=>?_,hS.eqs,hS.bodyOne,fun g s1 hg=>?_,hS.its⟩
 ·simp only [findS] at hg
  split at hg
  ·rename_i e
   injection hg with hg; subst hg
   obtain rfl:=Nat.eq_of_beq_eq_true e
   exact h
  ·exact hS.two g s1 hg
 ·simp only [findS] at hg
  split at hg
  ·rename_i e
   obtain rfl:=Nat.eq_of_beq_eq_true e
   exact ⟨fn,hf,hn,hb⟩
  ·exact hS.bodyTwo g s1 hg
theorem SumsOK.setLo {one : List (Nat × Summ)} {two : List (Nat × Summ2)} {lo : Nat} {eqs : List (Nat × List (Option IntKind))} {its : List (Nat × Iter)} {imm : List Nat} (hS : SumsOK P ⟨one,two,lo,eqs,its,imm⟩) (n : Nat) : SumsOK P ⟨one,two,n,eqs,its,imm⟩ :=
 ⟨hS.one,hS.two,hS.eqs,hS.bodyOne,hS.bodyTwo,hS.its⟩
theorem SumsOK.setImm {one : List (Nat × Summ)} {two : List (Nat × Summ2)} {lo : Nat} {eqs : List (Nat × List (Option IntKind))} {its : List (Nat × Iter)} {imm : List Nat} (hS : SumsOK P ⟨one,two,lo,eqs,its,imm⟩) (l : List Nat) : SumsOK P ⟨one,two,lo,eqs,its,l⟩ :=
 ⟨hS.one,hS.two,hS.eqs,hS.bodyOne,hS.bodyTwo,hS.its⟩
theorem SumsOK.setEqs {one : List (Nat × Summ)} {two : List (Nat × Summ2)} {lo : Nat} {eqs eqs' : List (Nat × List (Option IntKind))} {its : List (Nat × Iter)} {imm : List Nat} (hS : SumsOK P ⟨one,two,lo,eqs,its,imm⟩) (h : ∀ t ks,findS eqs' t = some ks -> EqOK P t ks) : SumsOK P ⟨one,two,lo,eqs',its,imm⟩ :=
 ⟨hS.one,hS.two,h,hS.bodyOne,hS.bodyTwo,hS.its⟩
theorem encH_len : ∀ {l : List OB} {x : DatH l},(encH l x).length = l.length
 | [],_=>rfl
 | b :: l,x=>by simp [encH,encH_len]
theorem FnSpecF.of {one : List (Nat × Summ)} {two : List (Nat × Summ2)} {lo : Nat} {eqs : List (Nat × List (Option IntKind))} {its : List (Nat × Iter)} {imm : List Nat} (hS : SumsOK P ⟨one,two,lo,eqs,its,imm⟩) (hm : P.follows .mixedOrders = true) {obs : List OB} {shs : List Sh} {U : Nat} {I : DatH obs -> DatL shs -> Anns} {f : FuncId} {fn : Func} {c : Code} (hf : P.funcs[f]? = some fn) (hb : fn.body = some c) (hok : codeOK c = true) {sp : SpecF obs shs}
  (hany : noAny shs = true) (hn : shs.length <= fn.ntmps) (h : ∀ o x,sp.pre o x -> FnSat P ⟨one,two,obs.length,eqs,its,imm⟩ U (I o x) fn (encL shs x) (encH obs o) (sp.res o x) (sp.after o x)) : FnSpecF P f obs shs sp :=
 fun o x hx=>Fn.of (hS.setLo obs.length) hm hf hb hok (by rw [encH_len]) (encL_ng hany) (by rw [encL_len]; exact hn) (h o x hx)
end
end Abs
end Go.Proofs.YtlacopdaibhkkaaGreat
