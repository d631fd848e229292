/- A part of the proof: no statement of its own. -/
import Derived.Test.YtdfdjlijghjdaaaQG00d437e3
import Derived.Deep.LoopGhost
set_option linter.unusedSimpArgs false
set_option linter.unusedVariables false
namespace Go.Proofs.Ytdfdjlijghjdaaa
namespace Abs
open Go Go.RowKit
section
variable {P : Program} {S : Sums} {C C' : Cx} {w w' : World} {H hp : Heap}
def Dom (C : Cx) (hp : Heap) (b : Nat) : Prop := ∃ i c n t l, C.ρ i = some (.at b c n) /\ getB hp i = .cells t l /\ nonIntL l = true
theorem expV_own : ∀ (d : Nat) (hp : Heap) (a : AV), ownIn (expV d hp a) = false := by
 intro d
 cases d with
 | zero => intro hp a; rfl
 | succ d =>
   intro hp a
   unfold expV
   split
   ·split
    ·split <;> rfl
    ·rfl
   ·split
    ·rfl
    ·rename_i h; exact h
theorem expV_ownL (d : Nat) (hp : Heap) : ∀ l : List AV, ownIn.ownInL (l.map (expV d hp)) = false
 | [] => rfl
 | a :: l => by simp [ownIn.ownInL, expV_own d hp a, expV_ownL d hp l]
theorem map_rel {f : AV -> AV} (hf : ∀ a v, Rel C w a v -> Rel C' w' (f a) v) : ∀ {l : List AV} {vs : List Value}, RelL C w l vs -> RelL C' w' (l.map f) vs
 | _, _, .nil => .nil
 | _, _, .cons a l v vs h h' => .cons _ _ _ _ (hf _ _ h) (map_rel hf h')
theorem expV_rel (hH : HR C hp w) : ∀ (d : Nat) (a : AV) (v : Value), Rel C w a v -> Rel ⟨fun _ => none, fun b => C.I b \/ Dom C hp b, fun _ => none⟩ w (expV d hp a) v := by
 intro d
 induction d with
 | zero => intro a v _; exact .top _
 | succ d ih =>
   intro a v h
   unfold expV
   split
   ·rename_i i off
    split
    ·rename_i t l hb
     split
     ·rename_i hn
      cases h with
      | own _ _ b c n hρ =>
        have hl := hH.live _ _ hρ
        rw [hb] at hl
        obtain ⟨vs, hr, hh⟩ := hl
        rw [dropL_eq]
        refine .xp _ _ (vs.drop off) (map_rel (fun a v => ih a v) (hr.drop off)) (fun _ => .inr ⟨i, c, n, t, l, hρ, hb, hn⟩) (fun j _ => ?_) (expV_ownL d hp _)
        rw [cell_add hh]
        simp [List.getElem?_drop]
     ·exact .top _
    ·exact .top _
   ·split
    ·exact .top _
    ·rename_i ho
     exact Rel.change (C' := ⟨fun _ => none, fun b => C.I b \/ Dom C hp b, fun _ => none⟩) (fun b hb => Or.inl hb) h ho
theorem expVL_rel (hH : HR C hp w) : ∀ {l : List AV} {vs : List Value}, RelL C w l vs -> RelL ⟨fun _ => none, fun b => C.I b \/ Dom C hp b, fun _ => none⟩ w (expVL hp l) vs
 | _, _, .nil => .nil
 | _, _, .cons a l v vs h h' => .cons _ _ _ _ (expV_rel hH 5 _ _ h) (expVL_rel hH h')
theorem nonInt_rel {a : AV} {v : Value} (h : Rel C w a v) (hn : nonInt a = true) : ∀ k n, v ≠ .int k n := by
 intro k n
 cases h <;> first | (simp [nonInt] at hn; done) | (intro e; cases e; done) | skip
 intro e
 subst e
 simp [nonInt] at hn
theorem nonIntL_rel : ∀ {l : List AV} {vs : List Value}, RelL C w l vs -> nonIntL l = true -> ∀ v ∈ vs, ∀ k n, v ≠ .int k n
 | _, _, .nil, _, v, hv => by simp at hv
 | _, _, .cons a l u vs h h', hn, v, hv => by
   simp only [nonIntL, Bool.and_eq_true] at hn
   rcases List.mem_cons.1 hv with rfl | hv
   ·exact nonInt_rel h hn.1
   ·exact nonIntL_rel h' hn.2 v hv
theorem int_rel {a : AV} {v : Value} (h : Rel C w a v) (hk : kindOf a ≠ none) : (∃ k n, v = .int k n) /\ Rel C' w' a v := by
 cases a <;> simp [kindOf] at hk
 ·cases h; exact ⟨⟨_, _, rfl⟩, .li _ _⟩
 ·cases h; exact ⟨⟨_, _, rfl⟩, .si _ _⟩
theorem int_relL : ∀ {l : List AV} {vs : List Value}, RelL C w l vs -> (∀ a ∈ l, kindOf a ≠ none) -> RelL C' w' l vs
 | _, _, .nil, _ => .nil
 | _, _, .cons a l v vs h h', hk => .cons _ _ _ _ (int_rel h (hk a (by simp))).2 (int_relL h' fun b hb => hk b (by simp [hb]))
theorem item_strip {D : Nat -> Prop} (hD : ∀ b, D b -> ∃ vs t, w.heap[b]? = some (.cells ⟨vs⟩ t (0, 0)) /\ ∀ v ∈ vs, ∀ k n, v ≠ .int k n) {I1 : Nat -> Prop} {a : AV} {v : Value} (hi : IntItem a)
  (h : Rel ⟨fun _ => none, I1, fun _ => none⟩ w a v) : Rel ⟨fun _ => none, fun b => I1 b /\ ¬ D b, fun _ => none⟩ w a v := by
 cases a <;> unfold IntItem at hi <;> first | exact hi.elim | skip
 ·cases h; exact .li _ _
 ·cases h; exact .si _ _
 ·cases h; exact .lb _
 ·cases h; exact .sb _
 ·rename_i n sz el
  obtain ⟨hsz, hk⟩ := hi
  cases h with
  | slc _ _ _ A cap vs hcap hA hr hl hn =>
    refine .slc n sz el A cap vs hcap (fun h0 => ?_) (fun k hk' => int_relL (hr k hk') (hk k hk')) hl hn
    obtain ⟨ad, rfl, hI, hc⟩ := hA h0
    refine ⟨ad, rfl, ⟨hI, fun hd => ?_⟩, hc⟩
    obtain ⟨us, t, hh, hu⟩ := hD _ hd
    have h1 := hc 0 h0 0 hsz
    have hlen := hl 0 h0
    have hrel := hr 0 h0
    obtain ⟨v0, hv0⟩ : ∃ v0, (vs 0)[0]? = some v0 := ⟨_, List.getElem?_eq_getElem (by omega)⟩
    rw [hv0] at h1
    have hmem : v0 ∈ us := by
     unfold World.cell? at h1
     rw [add_block, hh] at h1
     simp only at h1
     split at h1
     ·cases h1
     ·simp only [List.getElem?_toArray] at h1
      exact List.mem_of_getElem? h1
    have hl2 := hrel.len
    obtain ⟨a0, ha0⟩ : ∃ a0, (el 0)[0]? = some a0 := ⟨_, List.getElem?_eq_getElem (by omega)⟩
    obtain ⟨v1, hv1, hr1⟩ := hrel.get ha0
    rw [hv0] at hv1
    injection hv1 with hv1; subst hv1
    obtain ⟨⟨k, m, rfl⟩, _⟩ := int_rel (C' := ⟨fun _ => none, I1, fun _ => none⟩) (w' := w) hr1 (hk 0 h0 a0 (List.mem_of_getElem? ha0))
    exact hu _ hmem k m rfl
theorem items_strip {D : Nat -> Prop} (hD : ∀ b, D b -> ∃ vs t, w.heap[b]? = some (.cells ⟨vs⟩ t (0, 0)) /\ ∀ v ∈ vs, ∀ k n, v ≠ .int k n) {I1 : Nat -> Prop} {l : List AV} : ∀ {vs : List Value}, IntItems l ->
  RelL ⟨fun _ => none, I1, fun _ => none⟩ w l vs -> RelL ⟨fun _ => none, fun b => I1 b /\ ¬ D b, fun _ => none⟩ w l vs := by
 induction l with
 | nil => intro vs _ h; cases h; exact .nil
 | cons a l ih =>
   intro vs hi h
   cases h with
   | cons _ _ v vs h h' => exact .cons _ _ _ _ (item_strip hD (hi a (by simp)) h) (ih (fun b hb => hi b (by simp [hb])) h')
theorem dom_int (hH : HR C hp w) : ∀ b, Dom C hp b -> ∃ vs t, w.heap[b]? = some (.cells ⟨vs⟩ t (0, 0)) /\ ∀ v ∈ vs, ∀ k n, v ≠ .int k n := by
 rintro b ⟨i, c, n, t, l, hρ, hb, hn⟩
 have hl := hH.live _ _ hρ
 rw [hb] at hl
 obtain ⟨vs, hr, hh⟩ := hl
 exact ⟨vs, t, hh, nonIntL_rel hr hn⟩
theorem itSel_sat {R : AV -> Heap -> Prop} {d gf : Nat} {caps : List AV} {k : Iter -> List AV -> Option (Nat × Nat × List AV) -> VC} (h : (itSel S d gf hp caps k).sat R) :
  (∃ it, findS S.its gf = some it /\ ownIn.ownInL caps = false /\ gf < 1048576 /\ (k it caps none).sat R) \/ ∃ it, findS S.its (itsKey gf) = some it /\ (k it (expVL hp caps) (some (d, gf, expVL hp caps))).sat R := by
 unfold itSel at h
 split at h
 ·rename_i it h1 h2
  split at h
  ·rename_i h3
   exact .inl ⟨it, h1, h2, by simpa [Nat.blt_eq] using h3, h⟩
  ·exact h.elim
 ·split at h
  ·rename_i it h1
   rw [forceLD_eq] at h
   exact .inr ⟨it, h1, h⟩
  ·exact h.elim
theorem capI_sat {R : AV -> Heap -> Prop} {c : Option (Nat × Nat × List AV)} {its : List AV} {k : VC} (h : (capI c its k).sat R) : k.sat R /\ (c.isSome = true -> IntItems its) := by
 unfold capI at h
 cases c with
 | none => exact ⟨h, fun h => by cases h⟩
 | some x => exact ⟨h.2, fun _ => h.1⟩
end
end Abs
end Go.Proofs.Ytdfdjlijghjdaaa

namespace Go.Proofs.Ytdfdjlijghjdaaa
namespace Abs
open Go Go.RowKit
section
variable {P : Program} {S : Sums} {C C' : Cx} {w w' : World} {H hp : Heap} {T T1 T' : List Cnd} {all : List Oper}
variable {F : Fence} {n : Nat} {Q : Exit -> Act -> World -> Prop} {J : World -> Prop}
theorem s_first {i : Nat} {oi : Oper} {a0 : Act} {v : Value} (hi : all.toArray[i]? = some oi) (hf : Fix P J all.toArray oi a0 v) (hF : ∀ f, F.fn f) (hsel : ∀ (j : Nat) (o : Oper) cs b, all.toArray[j]? = some o -> o.op ≠ .select cs b) (hQ : ∀ c a w, ¬ Q (.panic c) a w)
  (fuel : Nat) (listed : Array Bool) (a : Act) (w : World)
  (hfree : ∀ j oj, all.toArray[j]? = some oj -> j ≠ i -> listed.getD j true = false -> (∀ e ∈ oj.after, Region.binds .any e = true -> e.on ≠ i) -> oi.apart all.toArray oj = true)
  (hr : i ∈ Region.ready .any all.toArray listed) (hE : SameAt all.toArray oi a0 a) (hJ : J w)
  (h : wpAnyI (fun _ w => J w) F n P all.toArray Q fuel (listed.setIfInBounds i true) (a.put oi.dst v) w) : wpAnyI (fun _ w => J w) F n P all.toArray Q (fuel + 1) listed a w :=
 s_firstI (I := fun _ w => J w) hi hf hF hsel hQ (fun _ _ h => h) fuel listed a w hfree hr hE hJ hJ (wpAnyI_mono (fun _ _ h => ⟨h, h⟩) _ _ _ _ h)
inductive PRun (P : Program) (J : World -> Prop) (all : List Oper) : List Oper -> List Bool -> Act -> Act -> Prop
 | nil (a : Act) : PRun P J all [] [] a a
 | skip (o : Oper) (l : List Oper) (m : List Bool) (a a' : Act) (h : PRun P J all l m a a') : PRun P J all (o :: l) (false :: m) a a'
 | op (o : Oper) (l : List Oper) (m : List Bool) (a a' : Act) (v : Value) (hf : Fix P J all.toArray o a v) (h : PRun P J all l m (a.put o.dst v) a') : PRun P J all (o :: l) (true :: m) a a'
def pLst : List Bool -> Nat -> Array Bool -> Array Bool
 | [], _, D => D
 | true :: m, k, D => pLst m (k + 1) (D.setIfInBounds k true)
 | false :: m, k, D => pLst m (k + 1) D
def cntT : List Bool -> Nat
 | [] => 0
 | true :: m => cntT m + 1
 | false :: m => cntT m
theorem pLst_spec : ∀ (m : List Bool) (k : Nat) (D : Array Bool), k + m.length = D.size -> (pLst m k D).size = D.size /\ ∀ i, Lst (pLst m k D) i ↔ Lst D i \/ ∃ j, i = k + j /\ m[j]? = some true
 | [], k, D, _ => ⟨rfl, fun i => ⟨.inl, fun h => by
   rcases h with h | ⟨j, _, h⟩
   ·exact h
   ·simp at h⟩⟩
 | true :: m, k, D, hs => by
   simp only [List.length_cons] at hs
   obtain ⟨h1, h2⟩ := pLst_spec m (k + 1) (D.setIfInBounds k true) (by simp; omega)
   simp only [pLst]
   refine ⟨by rw [h1]; simp, fun i => ?_⟩
   rw [h2, show Lst (D.setIfInBounds k true) i ↔ Lst D i \/ i = k from by unfold Lst; rw [lst_set (by omega)]; simp]
   constructor
   ·rintro ((h | h) | ⟨j, h3, h4⟩)
    ·exact .inl h
    ·exact .inr ⟨0, by omega, by simp⟩
    ·exact .inr ⟨j + 1, by omega, by simpa using h4⟩
   ·rintro (h | ⟨j, h3, h4⟩)
    ·exact .inl (.inl h)
    ·cases j with
     | zero => exact .inl (.inr (by omega))
     | succ j => exact .inr ⟨j, by omega, by simpa using h4⟩
 | false :: m, k, D, hs => by
   simp only [List.length_cons] at hs
   obtain ⟨h1, h2⟩ := pLst_spec m (k + 1) D (by omega)
   simp only [pLst]
   refine ⟨h1, fun i => ?_⟩
   rw [h2]
   constructor
   ·rintro (h | ⟨j, h3, h4⟩)
    ·exact .inl h
    ·exact .inr ⟨j + 1, by omega, by simpa using h4⟩
   ·rintro (h | ⟨j, h3, h4⟩)
    ·exact .inl h
    ·cases j with
     | zero => simp at h4
     | succ j => exact .inr ⟨j, by omega, by simpa using h4⟩
theorem getFl_eq : ∀ (l : List Bool) (i : Nat), getFl l i = l.getD i false
 | [], _ => rfl
 | _ :: _, 0 => rfl
 | _ :: l, i + 1 => by simp [getFl, getFl_eq l i]
theorem edgesFl_spec {fl : List Bool} : ∀ {l : List Edge}, edgesFl fl l = true -> ∀ e ∈ l, getFl fl e.on = true
 | [], _, e, he => by cases he
 | x :: l, h, e, he => by
   simp only [edgesFl] at h
   split at h
   ·rename_i hx
    rcases List.mem_cons.1 he with rfl | he
    ·exact hx
    ·exact edgesFl_spec h e he
   ·cases h
theorem s_all {fl : List Bool} (hF : ∀ f, F.fn f) (hsel : ∀ (j : Nat) (o : Oper) cs b, all[j]? = some o -> o.op ≠ .select cs b) (hQ : ∀ c a w, ¬ Q (.panic c) a w) (hback : Back all)
  (hap : ∀ (i : Nat) (oi : Oper), all[i]? = some oi -> getFl fl i = true -> (∀ e ∈ oi.after.toList, getFl fl e.on = true) /\ ∀ (j : Nat) (oj : Oper), all[j]? = some oj -> j ≠ i -> ¬ (getFl fl j = true /\ j < i) -> (∀ e ∈ oj.after, Region.binds .any e = true -> e.on ≠ i) -> oi.apart all.toArray oj = true) {fuel : Nat} :
  ∀ (l : List Oper) (m : List Bool) (k : Nat) (D : Array Bool) (a a' : Act) (w : World), PRun P J all l m a a' -> (∀ j, l[j]? = all[k + j]?) -> (∀ j, m[j]? = fl[k + j]?) -> D.size = all.length -> (∀ i, k <= i -> ¬ Lst D i) -> (∀ i, i < k -> getFl fl i = true -> Lst D i) -> J w ->
    wpAnyI (fun _ w => J w) F n P all.toArray Q fuel (pLst m k D) a' w -> wpAnyI (fun _ w => J w) F n P all.toArray Q (fuel + cntT m) D a w := by
 intro l m k D a a' w hr
 induction hr generalizing k D with
 | nil a => intro _ _ _ _ _ _ h; exact h
 | skip o l m a a' h ih =>
   intro hl hm hsz hD hD' hJ hh
   have hl' : ∀ j, l[j]? = all[k + 1 + j]? := fun j => by
    have := hl (j + 1)
    rw [List.getElem?_cons_succ] at this
    rw [this]; congr 1; omega
   have hm' : ∀ j, m[j]? = fl[k + 1 + j]? := fun j => by
    have := hm (j + 1)
    rw [List.getElem?_cons_succ] at this
    rw [this]; congr 1; omega
   refine ih (k + 1) D hl' hm' hsz (fun i hi => hD i (by omega)) (fun i hi hf => ?_) hJ hh
   rcases Nat.lt_or_ge i k with h' | h'
   ·exact hD' i h' hf
   ·obtain rfl : i = k := by omega
    have := hm 0
    simp at this
    rw [getFl_eq, List.getD_eq_getElem?_getD, <- this] at hf
    simp at hf
 | op o l m a a' v hf h ih =>
   intro hl hm hsz hD hD' hJ hh
   have h0 : all[k]? = some o := by simpa using (hl 0).symm
   have hlt := (List.getElem?_eq_some_iff.1 h0).1
   have hfk : getFl fl k = true := by
    have := hm 0
    simp at this
    rw [getFl_eq, List.getD_eq_getElem?_getD, <- this]; rfl
   have hl' : ∀ j, l[j]? = all[k + 1 + j]? := fun j => by
    have := hl (j + 1)
    rw [List.getElem?_cons_succ] at this
    rw [this]; congr 1; omega
   have hm' : ∀ j, m[j]? = fl[k + 1 + j]? := fun j => by
    have := hm (j + 1)
    rw [List.getElem?_cons_succ] at this
    rw [this]; congr 1; omega
   obtain ⟨g1, g2⟩ := hap k o h0 hfk
   simp only [cntT, pLst] at hh ⊢
   rw [<- Nat.add_assoc]
   have hset : ∀ i, Lst (D.setIfInBounds k true) i ↔ Lst D i \/ i = k := fun i => by unfold Lst; rw [lst_set (by omega)]; simp
   refine s_first (i := k) (oi := o) (a0 := a) (by simpa using h0) hf hF (fun j o' cs b hj => hsel j o' cs b (by simpa using hj)) hQ _ D a w (fun j oj hj hne hun hno => ?_) ?_ (fun t _ => rfl) hJ
    (ih (k + 1) _ hl' hm' (by simp [hsz]) (fun i hi hl => ?_) (fun i hi hfi => ?_) hJ hh)
   ·have hj' : all[j]? = some oj := by simpa using hj
    refine g2 j oj hj' hne (fun hc => ?_) hno
    have h5 := hD' j hc.2 hc.1
    have hjl := (List.getElem?_eq_some_iff.1 hj').1
    rw [getD_tf (by omega)] at hun
    unfold Lst at h5
    rw [hun] at h5; cases h5
   ·refine mem_ready h0 ?_ fun e he hb => ?_
    ·rw [getD_tf (by omega)]
     have := hD k (Nat.le_refl _)
     unfold Lst at this
     simpa using this
    ·exact hD' e.on (hback k o h0 e he hb) (g1 e he)
   ·rcases (hset i).1 hl with h' | h'
    ·exact hD i (by omega) h'
    ·omega
   ·refine (hset i).2 ?_
    rcases Nat.lt_or_ge i k with h' | h'
    ·exact .inl (hD' i h' hfi)
    ·exact .inr (by omega)
end
end Abs
end Go.Proofs.Ytdfdjlijghjdaaa

namespace Go.Proofs.Ytdfdjlijghjdaaa
namespace Abs
open Go Go.RowKit
section
variable {P : Program} {S : Sums} {C C' : Cx} {w w' : World} {H hp : Heap} {T T1 T' : List Cnd} {all : List Oper} {F : Fence} {n : Nat} {Q : Exit -> Act -> World -> Prop} {J : World -> Prop}
theorem snocB_eq : ∀ (l : List Bool) (x : Bool), snocB l x = l ++ [x]
 | [], _ => rfl
 | _ :: l, x => by simp [snocB, snocB_eq l]
theorem len_frGo : ∀ (l : List Oper) (fl : List Bool), (frGo all l fl).length = fl.length + l.length
 | [], fl => rfl
 | o :: l, fl => by simp only [frGo]; rw [len_frGo l, snocB_eq]; simp; omega
theorem len_frL : (frL all).length = all.length := by unfold frL; rw [len_frGo]; simp
theorem tagL_get {fl : List Bool} : ∀ (l : List Oper) (m : List Bool) (i : Nat) (o : Oper), m.length = l.length -> l[i]? = some o -> (tagL fl l m)[i]? = some (tagO fl (getFl m i) o)
 | [], _, i, o, _, h => by simp at h
 | _ :: _, [], i, o, hl, h => by simp at hl
 | p :: l, b :: m, 0, o, hl, h => by simp at h; subst h; rfl
 | p :: l, b :: m, i + 1, o, hl, h => by
   simp only [tagL, getFl, List.getElem?_cons_succ] at h ⊢
   exact tagL_get l m i o (by simpa using hl) h
theorem len_tagL {fl : List Bool} : ∀ (l : List Oper) (m : List Bool), m.length = l.length -> (tagL fl l m).length = l.length
 | [], [], _ => rfl
 | [], _ :: _, h => by simp at h
 | _ :: _, [], h => by simp at h
 | p :: l, b :: m, h => by simp only [tagL, List.length_cons]; rw [len_tagL l m (by simpa using h)]
def GK (all : List Oper) (fl : List Bool) (a : Act) : Prop := ∀ i o g b, all[i]? = some o -> getFl fl i = false -> o.guard = some (g, b) -> getFl fl g = true -> yielded all.toArray a.tmps g = some b
theorem ready_tag {fl : List Bool} (hlen : fl.length = all.length) {D : Array Bool} (hs : D.size = all.length) (hD : ∀ i, getFl fl i = true -> i < all.length -> Lst D i) (i : Nat) : i ∈ Region.ready .any all.toArray D ↔ i ∈ Region.ready .any (tagL fl all fl).toArray D := by
 have nf : ∀ {i}, i < all.length -> D.getD i true = false -> getFl fl i = false := fun {i} hi h => by
  cases hf : getFl fl i with
  | false => rfl
  | true =>
    have := hD i hf hi
    rw [getD_tf (by omega)] at h
    unfold Lst at this
    rw [h] at this; cases this
 constructor
 ·intro h
  obtain ⟨o, ho, hn, hp⟩ := ready_mem h
  have hlt := (List.getElem?_eq_some_iff.1 ho).1
  have ht := tagL_get (fl := fl) all fl i o hlen ho
  rw [nf hlt hn] at ht
  exact mem_ready ht hn hp
 ·intro h
  obtain ⟨o', ho', hn, hp⟩ := ready_mem h
  have hlt := (List.getElem?_eq_some_iff.1 ho').1
  rw [len_tagL all fl hlen] at hlt
  have ho : all[i]? = some (all[i]'hlt) := List.getElem?_eq_getElem _
  have ht := tagL_get (fl := fl) all fl i _ hlen ho
  rw [nf hlt hn, ho'] at ht
  injection ht with ht
  subst ht
  exact mem_ready ho hn hp
theorem retag {fl : List Bool} (hlen : fl.length = all.length) {I : Act -> World -> Prop} (hIJ : ∀ a w, I a w -> GK all fl a /\ J w) : ∀ (fuel : Nat) (D : Array Bool) (a : Act) (w : World), D.size = all.length -> (∀ i, getFl fl i = true -> i < all.length -> Lst D i) -> GK all fl a ->
  wpAnyI I F n P (tagL fl all fl).toArray Q fuel D a w -> wpAnyI (fun _ w => J w) F n P all.toArray Q fuel D a w := by
 intro fuel
 induction fuel with
 | zero =>
   intro D a w hs hD hG h
   refine ⟨?_, h.2⟩
   cases hr : Region.ready .any all.toArray D with
   | nil => rfl
   | cons i l =>
     have := (ready_tag hlen hs hD i).1 (by rw [hr]; simp)
     rw [h.1] at this; cases this
 | succ fuel ih =>
   intro D a w hs hD hG h
   refine ⟨fun hr => h.1 ?_, fun i hi => ?_⟩
   ·cases hr' : Region.ready .any (tagL fl all fl).toArray D with
    | nil => rfl
    | cons i l =>
      have := (ready_tag hlen hs hD i).2 (by rw [hr']; simp)
      rw [hr] at this; cases this
   ·have h1 := h.2 i ((ready_tag hlen hs hD i).1 hi)
    obtain ⟨o, ho, hn, hp⟩ := ready_mem hi
    have hlt := (List.getElem?_eq_some_iff.1 ho).1
    have hnf : getFl fl i = false := by
     cases hf : getFl fl i with
     | false => rfl
     | true =>
       have := hD i hf hlt
       rw [getD_tf (by omega)] at hn
       unfold Lst at this
       rw [hn] at this; cases this
    have ht := tagL_get (fl := fl) all fl i o hlen ho
    rw [hnf] at ht
    have hao : all.toArray[i]? = some o := by simpa using ho
    have hao' : (tagL fl all fl).toArray[i]? = some (tagO fl false o) := by simpa using ht
    have hD' : ∀ k, getFl fl k = true -> k < all.length -> Lst (D.setIfInBounds i true) k := fun k hk hkl => by
     have := hD k hk hkl
     unfold Lst at this ⊢
     rw [lst_set (by omega), this]; rfl
    have hwt : Region.wanted (tagO fl false o) (yielded (tagL fl all fl).toArray a.tmps) = Region.wanted o (yielded all.toArray a.tmps) := by
     unfold Region.wanted
     cases hgu : o.guard with
     | none => simp only [tagO, hgu, dropG]
     | some gw =>
       obtain ⟨g, b⟩ := gw
       cases hgf : getFl fl g with
       | true =>
         have := hG i o g b ho hnf hgu hgf
         simp only [tagO, hgu, dropG, hgf, this]
         simp
       | false =>
         have hy : yielded (tagL fl all fl).toArray a.tmps g = yielded all.toArray a.tmps g := by
          unfold yielded
          simp only [List.getElem?_toArray]
          cases hog : all[g]? with
          | none =>
            have : (tagL fl all fl)[g]? = none := by
             rw [List.getElem?_eq_none_iff] at hog ⊢
             rw [len_tagL all fl hlen]; exact hog
            rw [this]
          | some og =>
            rw [tagL_get (fl := fl) all fl g og hlen hog, hgf]
            rfl
         simp only [tagO, hgu, dropG, hgf, hy]
    unfold wpOpIn at h1 ⊢
    simp only [hao'] at h1
    simp only [hao]
    rw [hwt] at h1
    split
    ·rename_i hw
     rw [if_pos hw] at h1
     have h1' : Oper.wpIn F n P o a w (fun a' w' => I a' w' /\ wpAnyI I F n P (tagL fl all fl).toArray Q fuel (D.setIfInBounds i true) a' w') Q := h1
     exact Oper.wpIn_mono (fun a' w' h2 => ⟨(hIJ _ _ h2.1).2, ih _ a' w' (by simp [hs]) hD' (hIJ _ _ h2.1).1 h2.2⟩) h1'
    ·rename_i hw
     rw [if_neg hw] at h1
     exact ⟨h1.1, (hIJ _ _ h1.2.1).2, ih _ _ _ (by simp [hs]) hD' (hIJ _ _ h1.2.1).1 h1.2.2⟩
theorem hoist_anyI {I : Act -> World -> Prop} (hbk : Back all) (hgd : ∀ (i : Nat) (o : Oper) (g : Nat) (b : Bool), all[i]? = some o -> o.guard = some (g, b) -> mvAt all g = false /\ g < all.length) : ∀ (fuel : Nat) (D D' : Array Bool) (a : Act) (w : World), Ren all D D' ->
  wpAnyI I F n P (hoist all).toArray Q fuel D' a w -> wpAnyI I F n P all.toArray Q fuel D a w := by
 intro fuel
 induction fuel with
 | zero =>
   intro D D' a w r h
   refine ⟨?_, h.2⟩
   cases hr : Region.ready .any all.toArray D with
   | nil => rfl
   | cons i l =>
     obtain ⟨o, _, _, h2⟩ := r.ready hbk (i := i) (by rw [hr]; simp)
     rw [h.1] at h2; cases h2
 | succ fuel ih =>
   intro D D' a w r h
   refine ⟨fun hr => h.1 ?_, fun i hi => ?_⟩
   ·have hall := all_listed hbk r.s hr
    cases hr' : Region.ready .any (hoist all).toArray D' with
    | nil => rfl
    | cons q l =>
      exfalso
      obtain ⟨o', ho', hn', _⟩ := ready_mem (show q ∈ Region.ready .any (hoist all).toArray D' by rw [hr']; simp)
      have hlt := (List.getElem?_eq_some_iff.1 ho').1
      rw [hoist_len] at hlt
      rw [getD_tf (by rw [r.s']; exact hlt)] at hn'
      have hln : Lst D' q := by
       rcases Nat.lt_or_ge q (mvOps all).length with hq | hq
       ·exact r.mv' q hq
       ·obtain ⟨i, o, h1, h2, rfl⟩ := hoist_inv hq hlt
        exact (r.ot i o h1 h2).2 (hall i (List.getElem?_eq_some_iff.1 h1).1)
      unfold Lst at hln
      rw [hn'] at hln; cases hln
   ·obtain ⟨o, ho, hx, hrd⟩ := r.ready hbk hi
    have hg := hoist_get ho hx
    have hlt := (List.getElem?_eq_some_iff.1 ho).1
    have hlt' : (mvOps all).length + nmv all i < all.length := by have := (List.getElem?_eq_some_iff.1 hg).1; rwa [hoist_len] at this
    have h1 := h.2 _ hrd
    have hao : all.toArray[i]? = some o := by simpa using ho
    have hao' : (hoist all).toArray[(mvOps all).length + nmv all i]? = some (renO all (mvOps all).length o) := by simpa using hg
    have r' : Ren all (D.setIfInBounds i true) (D'.setIfInBounds ((mvOps all).length + nmv all i) true) := by
     have e1 : ∀ k, Lst (D.setIfInBounds i true) k ↔ Lst D k \/ k = i := fun k => by unfold Lst; rw [lst_set (by rw [r.s]; exact hlt)]; simp
     have e2 : ∀ k, Lst (D'.setIfInBounds ((mvOps all).length + nmv all i) true) k ↔ Lst D' k \/ k = (mvOps all).length + nmv all i := fun k => by unfold Lst; rw [lst_set (by rw [r.s']; exact hlt')]; simp
     refine ⟨by simp [r.s], by simp [r.s'], fun j o' x hj hx' => (e1 j).2 (.inl (r.mv j o' x hj hx')), fun j hj => (e2 j).2 (.inl (r.mv' j hj)), fun j o' hj hx' => ?_⟩
     rw [e1, e2, r.ot j o' hj hx']
     constructor
     ·rintro (h | h)
      ·exact .inl h
      ·exact .inr (nmv_inj hj hx' ho hx (by omega))
     ·rintro (h | h)
      ·exact .inl h
      ·subst h; exact .inr rfl
    have hwt : Region.wanted (renO all (mvOps all).length o) (yielded (hoist all).toArray a.tmps) = Region.wanted o (yielded all.toArray a.tmps) := by
     unfold Region.wanted
     cases hgu : o.guard with
     | none => simp only [renO, hgu]
     | some gw =>
       obtain ⟨g, b⟩ := gw
       obtain ⟨h2, h3⟩ := hgd i o g b ho hgu
       have ho2 : all[g]? = some (all[g]'h3) := List.getElem?_eq_getElem _
       have hx2 : mvX (all[g]'h3) = none := by
        rw [mvAt_get ho2] at h2
        cases hx3 : mvX (all[g]'h3) with
        | none => rfl
        | some y => rw [hx3] at h2; simp at h2
       have hg2 := hoist_get ho2 hx2
       have hy : yielded (hoist all).toArray a.tmps ((mvOps all).length + nmv all g) = yielded all.toArray a.tmps g := by
        unfold yielded
        simp only [List.getElem?_toArray, hg2, ho2, Option.bind_some]
        rfl
       simp only [renO, hgu, hy]
    unfold wpOpIn at h1 ⊢
    simp only [hao'] at h1
    simp only [hao]
    rw [hwt] at h1
    split
    ·rename_i hw
     rw [if_pos hw] at h1
     have h1' : Oper.wpIn F n P o a w (fun a' w' => I a' w' /\ wpAnyI I F n P (hoist all).toArray Q fuel (D'.setIfInBounds ((mvOps all).length + nmv all i) true) a' w') Q := h1
     exact Oper.wpIn_mono (fun a' w' h2 => ⟨h2.1, ih _ _ a' w' r' h2.2⟩) h1'
    ·rename_i hw
     rw [if_neg hw] at h1
     exact ⟨h1.1, h1.2.1, ih _ _ _ _ r' h1.2.2⟩
end
end Abs
end Go.Proofs.Ytdfdjlijghjdaaa

namespace Go.Proofs.Ytdfdjlijghjdaaa
namespace Abs
open Go Go.RowKit
section
variable {P : Program} {S : Sums} {C C' : Cx} {w w' : World} {H hp : Heap} {T T1 T' : List Cnd} {all : List Oper} {F : Fence} {n : Nat} {Q : Exit -> Act -> World -> Prop} {J : World -> Prop}
theorem gdOK_spec {fr : List AV} {tm : Array Value} (hF : FR [] C w fr tm) {g : Nat} {b : Bool} (h : gdOK all fr (some (g, b)) = true) : yielded all.toArray tm g = some b := by
 simp only [gdOK] at h
 split at h
 ·rename_i d hd
  split at h
  ·rename_i c hc
   have h1 := (hF.get d).1
   rw [hc] at h1
   rw [yielded_eq hd]
   generalize tm.getD d undef = x at h1
   cases h1
   simpa [yv] using h
  ·cases h
 ·cases h
theorem pre_ok {R : AV -> Heap -> Prop} (hilt : ∀ b, C.I b -> b < w.heap.size) : ∀ (l : List Oper) (m : List Bool) (fr : List AV) (a : Act) (k : List AV -> VC), m.length = l.length -> FR [] C w fr a.tmps -> (preK P all l m fr k).sat R ->
  ∃ a' fr', PRun P (Imm C w) all l m a a' /\ FR [] C w fr' a'.tmps /\ (k fr').sat R
 | [], [], fr, a, k, _, hF, h => ⟨a, fr, .nil a, hF, by simpa [preK] using h⟩
 | [], _ :: _, _, _, _, hl, _, _ => by simp at hl
 | _ :: _, [], _, _, _, hl, _, _ => by simp at hl
 | o :: l, false :: m, fr, a, k, hl, hF, h => by
   simp only [preK] at h
   obtain ⟨a', fr', h1, h2, h3⟩ := pre_ok hilt l m fr a k (by simpa using hl) hF h
   exact ⟨a', fr', .skip o l m a a' h1, h2, h3⟩
 | o :: l, true :: m, fr, a, k, hl, hF, h => by
   simp only [preK] at h
   split at h
   ·exact h.elim
   ·rename_i hg
    rw [forceM_eq] at h
    split at h
    ·exact h.elim
    ·rename_i ps x hx
     obtain ⟨h1, h2⟩ := needs_sat h
     rw [forceD_eq, setK_eq] at h2
     obtain ⟨v, hv, hdf, hse, hrun⟩ := frVal_ok (w := w) (C := C) (σ := a.eval) hilt (fun y => sees_evM fr _ [] C w a hF y) (fun _ => rfl) hx h1
     have hF2 : FR [] C w (setO fr o.dst (noGd x)) (a.put o.dst v).tmps := hF.put (.plain (rel_noGd hv) (notGd_noGd _)) _
     obtain ⟨a', fr', h3, h4, h5⟩ := pre_ok hilt l m _ (a.put o.dst v) k (by simpa using hl) hF2 h2
     refine ⟨a', fr', .op o l m a a' v ⟨hdf, hse, ?_, hrun⟩ h3, h4, h5⟩
     unfold Region.wanted
     cases hgu : o.guard with
     | none => rfl
     | some gw =>
       obtain ⟨g, b⟩ := gw
       rw [hgu] at hg
       simp only [gdOK_spec hF hg]
       simp
theorem PRun.ds {l : List Oper} {m : List Bool} {a a' : Act} {ds : Act -> Prop} (h : PRun P J all l m a a') : (∀ o ∈ l, ∀ (a : Act) (v : Value), ds a -> ds (a.put o.dst v)) -> ds a -> ds a' := by
 induction h with
 | nil a => exact fun _ h => h
 | skip o l m a a' h ih => exact fun hp h => ih (fun o' ho' => hp o' (by simp [ho'])) h
 | op o l m a a' v hf h ih => exact fun hp h => ih (fun o' ho' => hp o' (by simp [ho'])) (hp o (by simp) _ _ h)
theorem gdAll_spec {fl : List Bool} {fr : List AV} : ∀ {l : List Oper} {m : List Bool}, gdAll all fl fr l m = true -> m.length = l.length -> ∀ i o g b, l[i]? = some o -> getFl m i = false -> o.guard = some (g, b) -> getFl fl g = true -> gdOK all fr (some (g, b)) = true
 | [], _, _, _, i, o, g, b, h, _, _, _ => by simp at h
 | _ :: _, [], _, hl, _, _, _, _, _, _, _, _ => by simp at hl
 | p :: l, c :: m, h, hl, i, o, g, b, hi, hf, hg, hgf => by
   have ht : gdAll all fl fr l m = true := by
    unfold gdAll at h
    split at h
    ·split at h
     ·split at h
      ·exact h
      ·cases h
     ·exact h
    ·exact h
   cases i with
   | zero =>
     simp at hi; subst hi
     simp only [getFl] at hf
     subst hf
     unfold gdAll at h
     rw [hg] at h
     simp only [hgf] at h
     split at h
     ·assumption
     ·cases h
   | succ i => exact gdAll_spec ht (by simpa using hl) i o g b (by simpa using hi) (by simpa [getFl] using hf) hg hgf
theorem cnt_mv {fl : List Bool} : ∀ (l : List Oper) (m : List Bool), m.length = l.length -> (∀ i o, (tagL fl l m)[i]? = some o -> (mvX o).isSome = getFl m i) -> (mvOps (tagL fl l m)).length = cntT m
 | [], [], _, _ => rfl
 | [], _ :: _, h, _ => by simp at h
 | _ :: _, [], h, _ => by simp at h
 | p :: l, b :: m, hl, h => by
   have ih := cnt_mv l m (by simpa using hl) fun i o hi => by
    have := h (i + 1) o (by simpa [tagL] using hi)
    simpa [getFl] using this
   have h0 := h 0 (tagO fl b p) (by simp [tagL])
   simp only [getFl] at h0
   cases b with
   | true =>
     simp only [tagL, mvOps, cntT]
     split
     ·simp [ih]
     ·rename_i hx; rw [hx] at h0; simp at h0
   | false =>
     simp only [tagL, mvOps, cntT]
     split
     ·rename_i x hx; rw [hx] at h0; simp at h0
     ·exact ih
theorem cntT_le : ∀ m : List Bool, cntT m <= m.length
 | [] => Nat.le_refl _
 | true :: m => by simp [cntT, cntT_le m]
 | false :: m => by have := cntT_le m; simp [cntT]; omega
theorem region_pre (hS : SumsOK P S) {ro : Option Nat} {rm : Nat} (hm : P.follows .mixedOrders = true) {id : Nat} {ops : Array Oper} (hok : prOK ops.toList = true) {R : AV -> Heap -> Prop} {K : List AV -> Heap -> VC} {Q : Exit -> Act -> World -> Prop} {fr : List AV} {act : Act}
  (hlo : S.lo <= hp.length) (hH : HR C hp w) (hF : FR [] C w fr act.tmps) (hbk : Back ops.toList) (h : (runPre P S ops.toList fr hp K).sat R) {ds : Act -> Prop} (hput : PutOK ops.toList ds) (hds : ds act) (hgoal : Goal P S R K Q C w ds) :
  (Code.region id ops true).wpIn (fen ro) rm P Q act w := by
 refine Go.wpIn_mono (Q := fun e a w => (∀ c, e ≠ .panic c) /\ Q e a w) ?_ fun e a w h => h.2
 apply wpIn_region_any hm
 have hlen : (frL ops.toList).length = ops.toList.length := len_frL
 unfold prOK at hok
 unfold runPre at h
 generalize hfl : frL ops.toList = fl at *
 have htl : (tagL fl ops.toList fl).length = ops.toList.length := len_tagL _ _ hlen
 have htg := fun i o => tagL_get (fl := fl) ops.toList fl i o hlen
 generalize htgd : tagL fl ops.toList fl = tg at *
 simp only [Bool.and_eq_true, regOK] at hok
 obtain ⟨⟨⟨hu, ht, hb⟩, huq⟩, hall⟩ := hok
 have hall : ∀ i o, ops.toList[i]? = some o -> (mvX (tagO fl (getFl fl i) o)).isSome = getFl fl i /\ (∀ cs b, o.op ≠ .select cs b) /\ (∀ g b, (tagO fl (getFl fl i) o).guard = some (g, b) -> mvAt tg g = false /\ g < ops.toList.length) /\ (getFl fl i = true -> prAp ops.toList fl i o = true /\ edgesFl fl o.after.toList = true) := fun i o ho => by
  have h1 := allLt_spec hall i (List.getElem?_eq_some_iff.1 ho).1
  simp only [ho, htg i o ho, Bool.and_eq_true, Bool.not_eq_true', beq_iff_eq] at h1
  obtain ⟨⟨⟨h2, h3⟩, h4⟩, h5⟩ := h1
  refine ⟨h2, fun cs b hc => ?_, fun g b hg => ?_, fun hf => ?_⟩
  ·rw [hc] at h3; simp [isSel] at h3
  ·rw [hg] at h4
   simpa [Nat.blt_eq] using h4
  ·rw [hf] at h5
   simpa using h5
 have hH1 : HR C hp { w with drawn := w.drawn + 1 } := HR.same (w := w) rfl hH
 have hF1 : FR [] C { w with drawn := w.drawn + 1 } fr act.tmps := FR.mono (w := w) (w' := { w with drawn := w.drawn + 1 }) (.same rfl) hF
 obtain ⟨a1, fr1, hrun, hF2, hk⟩ := pre_ok (C := C) (w := { w with drawn := w.drawn + 1 }) hH1.ilt ops.toList fl fr act _ hlen hF1 h
 split at hk
 rotate_left
 ·exact hk.elim
 rename_i hga
 have hGK : GK ops.toList fl a1 := fun i o g b ho hf hg hgf => gdOK_spec hF2 (gdAll_spec hga hlen i o g b ho hf hg hgf)
 have hds1 : ds a1 := hrun.ds (fun o ho a v h => hput o ho a v h) hds
 have hcnt : (mvOps tg).length = cntT fl := by
  rw [<- htgd]
  refine cnt_mv _ _ hlen fun i o ho => ?_
  have hi := (List.getElem?_eq_some_iff.1 ho).1
  rw [htgd, htl] at hi
  have ho2 : ops.toList[i]? = some (ops.toList[i]'hi) := List.getElem?_eq_getElem _
  rw [htgd, htg i _ ho2] at ho
  injection ho with ho
  subst ho
  exact (hall i _ ho2).1
 have hcl := cntT_le fl
 rw [hlen] at hcl
 have hno : ∀ i, ¬ Lst (Array.replicate ops.size false) i := fun i h => by
  unfold Lst at h
  rw [Array.getD_eq_getD_getElem?, Array.getElem?_replicate] at h
  split at h <;> simp at h
 have hsz : (Array.replicate ops.size false).size = ops.toList.length := by simp
 have key := s_all (P := P) (F := fen ro) (n := rm) (J := Imm C { w with drawn := w.drawn + 1 }) (Q := fun e a w => (∀ c, e ≠ .panic c) /\ Q e a w) (fl := fl) (fun f => trivial) (fun j o cs b hj => (hall j o hj).2.1 cs b) (fun c a w h => h.1 c rfl) hbk (fun i oi hi hf => by
   obtain ⟨h1, h2⟩ := (hall i oi hi).2.2.2 hf
   refine ⟨edgesFl_spec h2, fun j oj hj hne hnf hno => ?_⟩
   have h3 := allLt_spec h1 j (List.getElem?_eq_some_iff.1 hj).1
   simp only [hj, Bool.or_eq_true, List.any_eq_true, Bool.and_eq_true] at h3
   rcases h3 with ((h3 | ⟨h3, h4⟩) | ⟨e, h3, h4, h5⟩) | h3
   ·exact absurd (Nat.eq_of_beq_eq_true h3) hne
   ·exact absurd ⟨h3, by simpa [Nat.blt_eq] using h4⟩ hnf
   ·exact absurd (Nat.eq_of_beq_eq_true h5) (hno e (by simpa using h3) h4)
   ·exact h3) (fuel := ops.toList.length - cntT fl) ops.toList fl 0 (Array.replicate ops.size false) act a1 { w with drawn := w.drawn + 1 } hrun (fun j => by simp) (fun j => by simp) hsz (fun i _ => hno i) (fun i hi => by omega) (fun _ _ => rfl) ?_
 ·rw [Nat.sub_add_cancel hcl] at key
  simpa using wpAnyI_any _ _ _ _ key
 obtain ⟨hz1, hz2⟩ := pLst_spec fl 0 (Array.replicate ops.size false) (by simp [hlen])
 have hD1 : ∀ i, Lst (pLst fl 0 (Array.replicate ops.size false)) i ↔ getFl fl i = true := fun i => by
  rw [hz2]
  constructor
  ·rintro (h | ⟨j, h1, h2⟩)
   ·exact absurd h (hno i)
   ·obtain rfl : i = j := by omega
    rw [getFl_eq, List.getD_eq_getElem?_getD, h2]; rfl
  ·intro h
   refine .inr ⟨i, by omega, ?_⟩
   rw [getFl_eq, List.getD_eq_getElem?_getD] at h
   cases hx : fl[i]? with
   | none => rw [hx] at h; simp at h
   | some b => rw [hx] at h; simp at h; rw [h]
 refine retag hlen (I := fun a w' => GK ops.toList fl a /\ Imm C { w with drawn := w.drawn + 1 } w') (fun a w h => h) _ _ _ _ (hz1.trans hsz) (fun i hi _ => (hD1 i).2 hi) hGK ?_
 rw [htgd]
 obtain ⟨D', hD1', hD2⟩ : ∃ D' : Array Bool, D'.size = ops.toList.length /\ ∀ i, Lst D' i ↔ i < (mvOps tg).length := by
  refine ⟨(List.replicate (mvOps tg).length true ++ List.replicate (ops.toList.length - (mvOps tg).length) false).toArray, by
   rw [List.size_toArray, List.length_append, List.length_replicate, List.length_replicate]; omega, fun i => ?_⟩
  unfold Lst
  rw [Array.getD_eq_getD_getElem?]
  simp only [List.getElem?_toArray]
  rcases Nat.lt_or_ge i (mvOps tg).length with hi | hi
  ·rw [List.getElem?_append_left (by simpa using hi), List.getElem?_replicate, if_pos hi]; simp [hi]
  ·rw [List.getElem?_append_right (by simpa using hi), List.getElem?_replicate]
   split <;> simp <;> omega
 have gett : ∀ i o, tg[i]? = some o -> ∃ oo, ops.toList[i]? = some oo /\ o = tagO fl (getFl fl i) oo := fun i o ho => by
  have hi := (List.getElem?_eq_some_iff.1 ho).1
  rw [htl] at hi
  have ho2 : ops.toList[i]? = some (ops.toList[i]'hi) := List.getElem?_eq_getElem _
  rw [htg i _ ho2] at ho
  injection ho with ho
  exact ⟨_, ho2, ho.symm⟩
 have hbt : Back tg := fun i o ho e he hb' => by
  obtain ⟨oo, h1, h2⟩ := gett i o ho
  cases hf : getFl fl i with
  | true => rw [h2, hf] at he; cases he
  | false =>
    rw [h2, hf] at he
    exact hbk i oo h1 e he hb'
 have hmvget : ∀ i, i < (mvOps tg).length -> ∃ o x, (hoist tg)[i]? = some o /\ mvX o = some x := fun i hi => by
  have h1 : (hoist tg)[i]? = some ((mvOps tg)[i]'hi) := by
   unfold hoist
   rw [List.getElem?_append_left hi, List.getElem?_eq_getElem hi]
  obtain ⟨x, hx⟩ := mvOps_mem (List.getElem_mem hi)
  exact ⟨_, x, h1, hx⟩
 refine hoist_anyI hbt (fun i o g b hi hg => ?_) _ _ D' _ _ ⟨by rw [hz1, hsz, htl], by rw [hD1', htl], fun i o x hi hx => ?_, fun i hi => (hD2 i).2 hi, fun i o hi hx => ?_⟩ ?_
 ·obtain ⟨oo, h1, h2⟩ := gett i o hi
  rw [h2] at hg
  obtain ⟨h3, h4⟩ := (hall i oo h1).2.2.1 g b hg
  exact ⟨h3, by rw [htl]; exact h4⟩
 ·obtain ⟨oo, h1, h2⟩ := gett i o hi
  have h3 := (hall i oo h1).1
  rw [<- h2, hx] at h3
  exact (hD1 i).2 h3.symm
 ·obtain ⟨oo, h1, h2⟩ := gett i o hi
  have h3 := (hall i oo h1).1
  rw [<- h2, hx] at h3
  rw [hD2, hD1]
  constructor
  ·intro h; omega
  ·intro h; rw [<- h3] at h; cases h
 have hkl : lenO (mvOps tg) = (mvOps tg).length := lenO_eq _
 rw [htgd, hkl] at hk
 have hdrop : (hoist tg).drop ((mvOps tg).length + ([] : List Info).length) = restO tg (mvOps tg).length tg := by
  unfold hoist
  rw [hkl]
  simp
 have hlen2 : (mvOps tg).length <= (hoist tg).length := by rw [hoist_len]; have := len_mv (all := tg) 0 tg; omega
 obtain ⟨L, T', hs, he⟩ := seg_run hS hu (s := (mvOps tg).length) (T0 := []) (fr0 := fr1) (hp0 := hp) _ [] [] ⟨by simpa using hlen2, .refl _, fun q hq => by simp at hq⟩ hdrop (fun k x hx => by simp at hx) hk
 obtain ⟨r, hr⟩ := hps_app hp L L.length
 have hput' : PutOK (hoist tg) fun a => ds a /\ GK ops.toList fl a := fun o ho a v hda => by
  obtain ⟨o', h1, h2⟩ := hoist_mem ho
  obtain ⟨i, hi⟩ := List.getElem?_of_mem h1
  obtain ⟨oo, h3, h4⟩ := gett i o' hi
  rw [h2, h4]
  cases hf : getFl fl i with
  | true => exact hda
  | false =>
    refine ⟨hput oo (List.mem_of_getElem? h3) a v hda.1, fun j o2 g b hj hfj hg hgf => ?_⟩
    have h5 := hda.2 j o2 g b hj hfj hg hgf
    show yielded ops.toList.toArray (a.put oo.dst v).tmps g = some b
    cases hd : dstOf ops.toList g with
    | none =>
      exfalso
      unfold yielded at h5
      unfold dstOf at hd
      simp only [List.getElem?_toArray] at h5
      cases hog : ops.toList[g]? with
      | none => rw [hog] at h5; simp at h5
      | some og => rw [hog] at hd h5; simp only at hd; simp [hd] at h5
    | some d =>
      rw [yielded_eq hd] at h5 ⊢
      rw [put_get, if_neg]
      ·exact h5
      ·rintro ⟨e, _⟩
       obtain ⟨og, hog, hdg⟩ := dstOf_some hd
       exact (uniq_spec huq hog).1 d hdg i oo (fun e' => by rw [e', hgf] at hf; cases hf) h3 e
 have hcount : unl (fun i => D'.getD i false) (hoist tg).length <= ops.toList.length - cntT fl := by
  rw [hoist_len, htl, <- hcnt]
  have : ∀ m, unl (fun i => D'.getD i false) m <= m - (mvOps tg).length := fun m => by
   induction m with
   | zero => exact Nat.zero_le _
   | succ m ih =>
     simp only [unl]
     rcases Nat.lt_or_ge m (mvOps tg).length with hm | hm
     ·have := (hD2 m).2 hm
      unfold Lst at this
      simp only [this, if_true]; omega
     ·split <;> omega
  exact this _
 have hIP : IP (hoist tg) (fun a w' => GK ops.toList fl a /\ Imm C { w with drawn := w.drawn + 1 } w') := fun o ho a v w' h => by
  refine ⟨fun j o2 g b hj hfj hg hgf => ?_, h.2⟩
  have h5 := h.1 j o2 g b hj hfj hg hgf
  obtain ⟨o', h1, h2⟩ := hoist_mem ho
  obtain ⟨i, hi⟩ := List.getElem?_of_mem h1
  obtain ⟨oo, h3, h4⟩ := gett i o' hi
  rw [h2, h4] at h5
  cases hf : getFl fl i with
  | true => rw [hf] at h5; exact h5
  | false =>
    rw [hf] at h5
    change yielded ops.toList.toArray (a.put oo.dst v).tmps g = some b at h5
    cases hd : dstOf ops.toList g with
    | none =>
      exfalso
      unfold yielded at h5
      unfold dstOf at hd
      simp only [List.getElem?_toArray] at h5
      cases hog : ops.toList[g]? with
      | none => rw [hog] at h5; simp at h5
      | some og => rw [hog] at hd h5; simp only at hd; simp [hd] at h5
    | some d =>
      rw [yielded_eq hd] at h5 ⊢
      rw [put_get, if_neg] at h5
      ·exact h5
      ·rintro ⟨e, _⟩
       obtain ⟨og, hog, hdg⟩ := dstOf_some hd
       exact (uniq_spec huq hog).1 d hdg i oo (fun e' => by rw [e', hgf] at hf; cases hf) h3 e
 refine (anyorder (Q := fun e a w => (∀ c, e ≠ .panic c) /\ Q e a w) hS hu ht (back_spec hb) hput' (ro := ro) (rm := rm) (fun c a w h => h.1 c rfl) _ _ hIP).1 D' _ [] _ hp L T' C { w with drawn := w.drawn + 1 } _ hs he
  ⟨by rw [hD1', hoist_len, htl], fun i hi => (hD2 i).2 hi, fun i hi hl => ?_, fun i o ho hl e he' hb' => ?_, ⟨by rw [hr]; exact hH1.ext r, fun q _ _ t _ => by
   obtain ⟨r', hr'⟩ := hps_app hp L q
   cases hc : C.ρ ((hps hp L q).length + t) with
   | none => rfl
   | some p => have := hH1.lt hc; rw [hr'] at this; simp at this; omega,
   fun q _ hl => ?_, fun t _ => (hF2.get t).sub hs.sub, hF2.len⟩⟩ hlo hcount ⟨hds1, hGK⟩ ⟨fun fr' hp' C' w' act' h1 h2 h3 h4 h5 h6 => ⟨fun c h => by (cases h), (hgoal.step (.draw _ _ _ _)) fr' hp' C' w' act' h1 h2 h3 h4 h5 h6.1⟩, fun C' w' act' t h => ⟨h.2, Imm.tr hH1 t⟩⟩
 ·have := (hD2 i).1 hl; omega
 ·have hlt := (hD2 i).1 hl
  obtain ⟨o', x, h1, h2⟩ := hmvget i hlt
  rw [ho] at h1; injection h1 with h1; subst h1
  rw [(mvX_spec h2).2.2] at he'; cases he'
 ·have := (hD2 _).1 hl; omega
end
end Abs
end Go.Proofs.Ytdfdjlijghjdaaa

namespace Go.Proofs.Ytdfdjlijghjdaaa
namespace Abs
open Go Go.RowKit
section
variable {P : Program} {S : Sums} {C C' : Cx} {w w' : World} {H hp : Heap}
theorem BRel.monoS (hx : Cext C w C' w) {p : Pl} {b : Blk} (hs : ∀ q c m, p = .at q c m -> ∀ b k, C.O b = some (q, k) -> C'.O b = some (q, k)) (h : BRel C w p b) : BRel C' w p b := by
 match p, b, h with
 | .at q c m, .mat t wd k f, h =>
   obtain ⟨h1, h2, h3, cs, hh, hz, hc⟩ := h
   exact ⟨h1, h2, h3, cs, hh, hz, fun k hk j hj => by
    obtain ⟨ho, v, hv, hr⟩ := hc k hk j hj
    exact ⟨ho, v, hv, hr.mono hx⟩⟩
 | .at q c m, .rows e e' sz k fz ln el ho, h =>
   obtain ⟨h1, h2, h3, cs, hh, hz, hc⟩ := h
   exact ⟨h1, h2, h3, cs, hh, hz, fun k hk => by
    obtain ⟨v, hv, hr, hn⟩ := hc k hk
    refine ⟨v, hv, fun h e => (hr h e).mono hx, fun hno => ⟨fun hf => ((hn hno).1 hf).mono hx, fun hf => ?_⟩⟩
    rcases (hn hno).2 hf with h | ⟨b', c', cs, vs, h1, h2, h3, h4, h5, h6, h7⟩
    ·exact .inl h
    ·exact .inr ⟨b', c', cs, vs, h1, hs q c m rfl _ _ h2, h3, h4, h5, h6, fun q hq => ⟨(h7 q hq).1.mono hx, (h7 q hq).2⟩⟩⟩
 | .at q c m, .cells t l, h =>
   obtain ⟨vs, hr, hh⟩ := h
   exact ⟨vs, hr.mono hx, hh⟩
 | .at q c m, .row e sz k el, h =>
   obtain ⟨h1, h2, h3, cs, vs, hh, hz, hc⟩ := h
   exact ⟨h1, h2, h3, cs, vs, hh, hz, fun k hk => ⟨(hc k hk).1.mono hx, (hc k hk).2⟩⟩
 | .nil, .row e sz k el, h => exact h
 | .at q c m, .tab k sz el, h =>
   obtain ⟨es, ck, vs, hh, hs, hc⟩ := h
   exact ⟨es, ck, vs, hh, hs, fun k hk => ⟨(hc k hk).1.mono hx, (hc k hk).2⟩⟩
theorem HR.reb {j : Nat} {b' : Blk} (hH : HR C hp w) (hj : j < hp.length) (hb : ∀ p, C.ρ j = some p -> BRel C w p b') : HR C (setB hp j b') w :=
 ⟨fun i p hi => by
  by_cases h : i = j
  ·subst h; rw [getB_set, if_pos ⟨rfl, hj⟩]; exact hb p hi
  ·rw [getB_set_ne h]; exact hH.live i p hi, hH.inj, hH.fresh, hH.ilt, hH.sub⟩
theorem brel_toRows {e e' : TypeId} {sz : Nat} {n : LN} {el : Nat -> List AV} {p : Pl} (hn : 0 < n.val) (hel : ∀ k, k < n.val -> el k = [.v (.slice none 0 0)]) (h : BRel C w p (.row e 1 n el)) :
  BRel C w p (.rows e e' (sz + 1) n (fun _ => false) (fun _ => 0) (fun _ _ => []) none) := by
 match p, h with
 | .at b c m, h =>
   obtain ⟨h1, h2, h3, cs, vs, hh, hs, hc⟩ := h
   refine ⟨h1, h2, ⟨Nat.succ_pos _, h3.2⟩, cs, hh, by rw [hs, Nat.mul_one], fun k hk => ?_⟩
   obtain ⟨g1, g2, g3, g4⟩ := hc k hk
   rw [hel k (by omega)] at g1
   have g5 := g4 0 (by omega)
   generalize vs k = u at g1 g5
   cases g1 with
   | cons _ _ v vs' g6 g7 =>
     cases g6
     refine ⟨.slice none 0 0, by simpa using g5, fun _ h => (by cases h), fun _ => ⟨fun h => (by cases h), fun _ => .inl ⟨rfl, rfl⟩⟩⟩
 | .nil, h => obtain ⟨h0, _⟩ : n.val = 0 /\ _ := h; omega
theorem HR.come {j : Nat} {p : Pl} {B Bn : Blk} {O1 : Nat -> Option (Nat × Nat)} (hH : HR C hp w) (hj : j < hp.length) (hno : C.ρ hp.length = none)
  (hO1 : ∀ b x, O1 b = some x -> C.O b = some x) (hOk : ∀ i q c m, i ≠ j -> C.ρ i = some (.at q c m) -> ∀ b k, C.O b = some (q, k) -> O1 b = some (q, k))
  (hBj : ∀ q, C.ρ j = some q -> BRel ⟨(C.put hp.length p).ρ, C.I, O1⟩ w q B) (hBn : BRel ⟨(C.put hp.length p).ρ, C.I, O1⟩ w p Bn)
  (hpl : ∀ b c m, p = .at b c m -> b < w.heap.size /\ ¬ C.I b /\ (∀ i b' c n, C.ρ i = some (.at b' c n) -> b' ≠ b) /\ O1 b = none) :
  Cext C w ⟨(C.put hp.length p).ρ, C.I, O1⟩ w /\ HR ⟨(C.put hp.length p).ρ, C.I, O1⟩ (setB hp j B ++ [Bn]) w := by
 have hx : Cext C w ⟨(C.put hp.length p).ρ, C.I, O1⟩ w := ⟨fun i q hq => by
  show (C.put hp.length p).ρ i = some q
  by_cases hi : i = hp.length
  ·subst hi; rw [hno] at hq; cases hq
  ·rw [Cx.put_ne hi]; exact hq, fun _ h => h, fun _ _ => rfl⟩
 have cls : ∀ i q, (C.put hp.length p).ρ i = some q -> (i = hp.length /\ q = p) \/ (i ≠ hp.length /\ C.ρ i = some q) := fun i q hq => by
  by_cases hi : i = hp.length
  ·subst hi; rw [Cx.put_eq] at hq; injection hq with hq; exact .inl ⟨rfl, hq.symm⟩
  ·rw [Cx.put_ne hi] at hq; exact .inr ⟨hi, hq⟩
 refine ⟨hx, fun i q hq => ?_, fun i i' b c n b1 c1 n1 h h' hne => ?_, fun i b c n h => ?_, hH.ilt, fun b x hb => ?_⟩
 ·rcases cls i q hq with ⟨rfl, rfl⟩ | ⟨hi, hq'⟩
  ·have e : getB (setB hp j B ++ [Bn]) hp.length = Bn := by
    rw [getB_eq, List.getD_eq_getElem?_getD, List.getElem?_append_right (by rw [len_setB]; exact Nat.le_refl _), len_setB, Nat.sub_self]; rfl
   rw [e]; exact hBn
  ·by_cases hij : i = j
   ·subst hij
    rw [getB_append _ _ _ (by rw [len_setB]; exact hj), getB_set, if_pos ⟨rfl, hj⟩]
    exact hBj q hq'
   ·by_cases hlt : i < hp.length
    ·rw [getB_append _ _ _ (by rw [len_setB]; exact hlt), getB_set_ne hij]
     exact (hH.live i q hq').monoS hx fun q' c m e b k hb => hOk i q' c m hij (by rw [<- e]; exact hq') b k hb
    ·have hl := hH.live i q hq'
     rw [getB_dead (by omega)] at hl
     cases q <;> exact hl.elim
 ·rcases cls i _ h with ⟨rfl, g⟩ | ⟨hi, g⟩
  ·rcases cls i' _ h' with ⟨rfl, g'⟩ | ⟨hi', g'⟩
   ·exact absurd rfl hne
   ·exact Ne.symm ((hpl b c n g.symm).2.2.1 i' b1 c1 n1 g')
  ·rcases cls i' _ h' with ⟨rfl, g'⟩ | ⟨hi', g'⟩
   ·exact (hpl b1 c1 n1 g'.symm).2.2.1 i b c n g
   ·exact hH.inj _ _ _ _ _ _ _ _ g g' hne
 ·rcases cls i _ h with ⟨rfl, g⟩ | ⟨hi, g⟩
  ·exact ⟨(hpl b c n g.symm).1, (hpl b c n g.symm).2.1⟩
  ·exact hH.fresh _ _ _ _ g
 ·obtain ⟨s1, s2, s3, s4⟩ := hH.sub b x (hO1 b x hb)
  refine ⟨s1, s2, fun i b' c n h => ?_, s4⟩
  rcases cls i _ h with ⟨rfl, g⟩ | ⟨hi, g⟩
  ·rintro rfl
   have hb' : O1 b' = some x := hb
   rw [(hpl b' c n g.symm).2.2.2] at hb'; cases hb'
  ·exact s3 i b' c n g
theorem open_ok {lo j k : Nat} {e e' : TypeId} {sz : Nat} {n : LN} {fz : Nat -> Bool} {ln : Nat -> Nat} {el : Nat -> Nat -> List AV} (hH : HR C hp w) (hb : getB hp j = .rows e e' sz n fz ln el none) (hk : k < n.val) (hf : fz k = false) (hlo : lo <= hp.length) :
  ∃ C', Cext C w C' w /\ HR C' (setB hp j (.rows e e' sz n fz ln el (some (k, some hp.length))) ++ [.row e' sz (.sym (ln k)) (el k)]) w /\ Tr lo C w C' w := by
 have hj : j < hp.length := getB_lt (by rw [hb]; simp)
 have hno : C.ρ hp.length = none := by
  have := (hH.free [.dead] 0 (by simp)).2
  simpa using this
 cases hρ : C.ρ j with
 | none =>
   exact ⟨C, .refl _ _, (hH.reb hj fun p hp => by rw [hρ] at hp; cases hp).ext _, .refl _ _ _⟩
 | some p =>
   have hl := hH.live j p hρ
   rw [hb] at hl
   match p, hl with
   | .at b cap m, hl =>
   obtain ⟨a1, a2, a3, cs, hh, hz, hc⟩ := hl
   obtain ⟨v, hv, hr, hn⟩ := hc k (by omega)
   have nh : ∀ q, q ≠ k -> ¬ holeB (some (k, some hp.length)) q := fun q hq ⟨x, hx⟩ => by
    injection hx with hx; injection hx with hx _; exact hq hx.symm
   have no : ∀ q, ¬ holeB none q := fun q ⟨x, hx⟩ => by cases hx
   rcases (hn (no k)).2 hf with ⟨g1, g2⟩ | ⟨b', c', cs', vs, g1, g2, g3, g4, g5, g6, g7⟩
   ·subst g2
    have hx : Cext C w ⟨(C.put hp.length .nil).ρ, C.I, C.O⟩ w := ⟨fun i q hq => by
     show (C.put hp.length .nil).ρ i = some q
     by_cases hi : i = hp.length
     ·subst hi; rw [hno] at hq; cases hq
     ·rw [Cx.put_ne hi]; exact hq, fun _ h => h, fun _ _ => rfl⟩
    obtain ⟨h1, h2⟩ := hH.come (j := j) (p := .nil) (B := .rows e e' sz n fz ln el (some (k, some hp.length))) (Bn := .row e' sz (.sym (ln k)) (el k)) (O1 := C.O) hj hno (fun _ _ h => h) (fun _ _ _ _ _ _ _ _ h => h) (fun q hq => by
     rw [hρ] at hq; injection hq with hq; subst hq
     refine ⟨a1, a2, a3, cs, hh, hz, fun q hq => ?_⟩
     obtain ⟨v2, hv2, _, hn2⟩ := hc q hq
     refine ⟨v2, hv2, fun h e => ?_, fun hno2 => ⟨fun h => ((hn2 (no q)).1 h).mono hx, fun g => SubOwn.mono (C := C) (w := w) (fun b x hb => ⟨hb, rfl⟩) (fun _ g' => RelL.mono hx g') ((hn2 (no q)).2 g)⟩⟩
     injection e with e; injection e with e1 e2; injection e2 with e2
     subst e1 e2
     rw [hv] at hv2; injection hv2 with hv2; subst hv2
     exact .rown _ Cx.put_eq) ⟨g1, a3.1⟩ (fun _ _ _ h => by cases h)
    refine ⟨_, h1, h2, rfl, rfl, rfl, Nat.le_refl _, fun _ _ _ _ => rfl, fun _ h => h, fun _ h => .inl h, fun i hi => Cx.put_ne (by omega), fun i q c m2 hi h => ?_, fun q x h => .inl ⟨x, h⟩⟩
    by_cases hi' : i = hp.length
    ·subst hi'; rw [Cx.put_eq] at h; cases h
    ·rw [Cx.put_ne hi'] at h; exact .inl ⟨i, c, m2, hi, h⟩
   ·subst g1
    obtain ⟨s1, s2, s3, s4⟩ := hH.sub b' _ g2
    let O1 : Nat -> Option (Nat × Nat) := fun q => if q = b' then none else C.O q
    have hO1 : ∀ q, q ≠ b' -> O1 q = C.O q := fun q h => if_neg h
    have hx : Cext C w ⟨(C.put hp.length (.at b' c' (ln k))).ρ, C.I, O1⟩ w := ⟨fun i q hq => by
     show (C.put hp.length _).ρ i = some q
     by_cases hi : i = hp.length
     ·subst hi; rw [hno] at hq; cases hq
     ·rw [Cx.put_ne hi]; exact hq, fun _ h => h, fun _ _ => rfl⟩
    obtain ⟨h1, h2⟩ := hH.come (j := j) (p := .at b' c' (ln k)) (B := .rows e e' sz n fz ln el (some (k, some hp.length))) (Bn := .row e' sz (.sym (ln k)) (el k)) (O1 := O1) hj hno
     (fun q x h => by
      by_cases hq : q = b'
      ·simp [O1, hq] at h
      ·rwa [hO1 q hq] at h)
     (fun i q c m2 hi hρi q2 k2 h => by
      rw [hO1 q2 fun e => ?_]
      ·exact h
      ·subst e
       rw [g2] at h; injection h with h; injection h with h _
       exact hH.inj _ _ _ _ _ _ _ _ hρi hρ hi h.symm)
     (fun q hq => by
      rw [hρ] at hq; injection hq with hq; subst hq
      refine ⟨a1, a2, a3, cs, hh, hz, fun q hq => ?_⟩
      obtain ⟨v2, hv2, _, hn2⟩ := hc q hq
      refine ⟨v2, hv2, fun h e => ?_, fun hno2 => ⟨fun h => ((hn2 (no q)).1 h).mono hx, fun h => ?_⟩⟩
      ·injection e with e; injection e with e1 e2; injection e2 with e2
       subst e1 e2
       rw [hv] at hv2; injection hv2 with hv2; subst hv2
       exact .row _ b' c' _ Cx.put_eq
      ·rcases (hn2 (no q)).2 h with h | ⟨b2, c2, cs2, vs2, i1, i2, i3, i4, i5, i6, i7⟩
       ·exact .inl h
       ·refine .inr ⟨b2, c2, cs2, vs2, i1, ?_, i3, i4, i5, i6, fun q hq => ⟨(i7 q hq).1.mono hx, (i7 q hq).2⟩⟩
        show O1 b2 = some (b, q)
        rw [hO1 b2 fun e => ?_]
        ·exact i2
        ·subst e
         rw [g2] at i2; injection i2 with i2; injection i2 with _ i2
         exact hno2 ⟨_, by rw [i2]⟩)
     ⟨rfl, g3, ⟨a3.1, g4⟩, cs', vs, g5, g6, fun q hq => ⟨(g7 q hq).1.mono hx, (g7 q hq).2⟩⟩
     (fun q c m2 e => by
      injection e with e1 e2 e3; subst e1
      exact ⟨s1, s2, s3, by simp [O1]⟩)
    refine ⟨_, h1, h2, rfl, rfl, rfl, Nat.le_refl _, fun _ _ _ _ => rfl, fun _ h => h, fun _ h => .inl h, fun i hi => Cx.put_ne (by omega), fun i q c m2 hi h => ?_, fun q x h => .inl ?_⟩
    ·by_cases hi' : i = hp.length
     ·subst hi'; rw [Cx.put_eq] at h; injection h with h; injection h with h
      subst h; exact .inr (.inr ⟨_, g2⟩)
     ·rw [Cx.put_ne hi'] at h; exact .inl ⟨i, c, m2, hi, h⟩
    ·have h' : O1 q = some x := h
     by_cases hq : q = b'
     ·simp [O1, hq] at h'
     ·rw [hO1 q hq] at h'; exact ⟨x, h'⟩
def cloI (C : Cx) (h : Nat) (stay : Bool) : Nat -> Prop := fun q => C.I q \/ (stay = true /\ ∃ c n, C.ρ h = some (.at q c n))
def cloO (C : Cx) (h j k : Nat) (stay : Bool) : Nat -> Option (Nat × Nat) := fun q => match stay, C.ρ h, C.ρ j with
 | false, some (.at b' _ _), some (.at b _ _) => if q = b' then some (b, k) else C.O q
 | _, _, _ => C.O q
theorem cloO_old {h j k q : Nat} {stay : Bool} {x : Nat × Nat} (hH : HR C hp w) (e : C.O q = some x) : cloO C h j k stay q = some x := by
 unfold cloO
 split
 ·rename_i b' c n b c' n' h1 h2
  rw [if_neg]
  ·exact e
  ·rintro rfl; exact (hH.sub _ _ e).2.2.1 _ _ _ _ h1 rfl
 ·exact e
theorem cloO_new {h j k q : Nat} {stay : Bool} {x : Nat × Nat} (e : cloO C h j k stay q = some x) : C.O q = some x \/ (stay = false /\ ∃ c n, C.ρ h = some (.at q c n)) := by
 unfold cloO at e
 split at e
 ·rename_i b' c n b c' n' h1 h2
  split at e
  ·rename_i hq; subst hq; exact .inr ⟨rfl, c, n, h1⟩
  ·exact .inl e
 ·exact .inl e
theorem close_ok {lo j h k : Nat} {stay : Bool} {e e' : TypeId} {sz : Nat} {n m : LN} {fz : Nat -> Bool} {ln : Nat -> Nat} {el : Nat -> Nat -> List AV} {f : Nat -> List AV} (hH : HR C hp w) (hb : getB hp j = .rows e e' sz n fz ln el (some (k, some h)))
  (hbh : getB hp h = .row e' sz m f) (hne : h ≠ j) (hlo : lo <= h) :
  ∃ C', Turn h .top C w C' w /\ HR C' (setB (setB (mapH (at1 h .top) hp) h .dead) j (.rows e e' sz n (updZ k stay fz) (updN k m.val ln) (updR k f el) none)) w /\ Tr lo C w C' w := by
 have hj : j < hp.length := getB_lt (by rw [hb]; simp)
 let C' : Cx := ⟨fun i => if i = h then none else C.ρ i, cloI C h stay, cloO C h j k stay⟩
 have ne : ∀ i, i ≠ h -> C'.ρ i = C.ρ i := fun i hi => if_neg hi
 have eq : ∀ p, C'.ρ h = some p -> False := fun p hp => by simp [C'] at hp
 have ht : Turn h .top C w C' w := ⟨ne, fun b h => .inl h, fun _ _ => rfl, fun v _ => .top v⟩
 have hs : SubKeep C w C' w := fun b x hb => ⟨cloO_old hH hb, rfl⟩
 have old : ∀ i p, C'.ρ i = some p -> i ≠ h /\ C.ρ i = some p := fun i p hp => by
  by_cases hi : i = h
  ·subst hi; exact (eq _ hp).elim
  ·rw [ne i hi] at hp; exact ⟨hi, hp⟩
 refine ⟨C', ht, ⟨fun i p hp' => ?_, fun i i' b c n b1 c1 n1 g g' hn => ?_, fun i b c n g => ?_, fun b hb' => ?_, fun b x hb' => ?_⟩, ?_⟩
 ·obtain ⟨hi, hρ⟩ := old i p hp'
  by_cases hij : i = j
  ·subst hij
   rw [getB_set, if_pos ⟨rfl, by rw [len_setB, len_mapH]; exact hj⟩]
   have hl := hH.live i p hρ
   rw [hb] at hl
   match p, hρ, hl with
   | .at b cap m', hρ, hl =>
   obtain ⟨a1, a2, a3, cs, hh, hz, hc⟩ := hl
   refine ⟨a1, a2, a3, cs, hh, hz, fun q hq => ?_⟩
   obtain ⟨v, hv, hr, hn⟩ := hc q hq
   refine ⟨v, hv, fun _ g => (by cases g), fun _ => ?_⟩
   by_cases hqk : q = k
   ·subst hqk
    have hrow := hr h rfl
    have e1 : updZ q stay fz q = stay := by unfold updZ; rw [if_pos rfl]
    have e2 : updN q m.val ln q = m.val := by unfold updN; rw [if_pos rfl]
    have e3 : updR q f el q = f := by unfold updR; rw [if_pos rfl]
    rw [e1, e2, e3]
    cases hrow with
    | row _ b' c' n' hρh =>
      have hlh := hH.live _ _ hρh
      rw [hbh] at hlh
      obtain ⟨r1, r2, r3, cs', vs, r4, r5, r6⟩ := hlh
      subst r1
      refine ⟨fun hs1 => ?_, fun hs1 => .inr ⟨b', c', cs', vs, rfl, ?_, r2, r3.2, r4, r5, fun q hq => ?_⟩⟩
      ·refine Rel.slc (.sym m.val) sz f (some ⟨b', 0, none⟩) c' vs r2 (fun _ => ⟨_, rfl, .inr ⟨hs1, c', _, hρh⟩, fun k hk q hq => ?_⟩) (fun k hk => ?_) (fun k hk => (r6 k hk).2.2.1) (fun k hk => (r6 k hk).2.1)
       ·rw [add_lit]
        have := (r6 k hk).2.2.2 q hq
        rw [<- this]; simp [World.cell?, r4]
       ·exact RelL.still (C := C) (C' := C') (fun b h => Or.inl h) (fun _ _ => rfl) (r6 k hk).1 (own_ok (r6 k hk).2.1)
      ·show cloO C h i q stay b' = some (b, q)
       unfold cloO
       rw [hs1, hρh, hρ]
       simp
      ·exact ⟨RelL.still (C := C) (C' := C') (fun b h => Or.inl h) (fun _ _ => rfl) (r6 q hq).1 (own_ok (r6 q hq).2.1), (r6 q hq).2⟩
    | rown _ hρh =>
      have hlh := hH.live _ _ hρh
      rw [hbh] at hlh
      obtain ⟨h0, _⟩ : m.val = 0 /\ _ := hlh
      refine ⟨fun hs1 => ?_, fun hs1 => .inl ⟨h0, rfl⟩⟩
      have := Rel.slc (C := C') (w := w) (.sym m.val) sz f none 0 (fun _ => []) (by show m.val <= 0; omega) (fun h => by have : 0 < m.val := h; omega) (fun k hk => by have : k < m.val := hk; omega) (fun k hk => by have : k < m.val := hk; omega) (fun k hk => by have : k < m.val := hk; omega)
      rwa [show (LN.sym m.val).val = 0 from h0] at this
   ·have nh : ¬ holeB (some (k, some h)) q := fun ⟨x, hx⟩ => by
     injection hx with hx; injection hx with hx _; exact hqk hx.symm
    have e1 : updZ k stay fz q = fz q := by unfold updZ; rw [if_neg hqk]
    have e2 : updN k m.val ln q = ln q := by unfold updN; rw [if_neg hqk]
    have e3 : updR k f el q = el q := by unfold updR; rw [if_neg hqk]
    rw [e1, e2, e3]
    exact ⟨fun g => ((hn nh).1 g).still ht.imm ht.blk rfl, fun g => SubOwn.mono hs (fun ok g' => RelL.still ht.imm ht.blk g' (own_ok ok)) ((hn nh).2 g)⟩
  ·rw [getB_set_ne hij, getB_set_ne hi, getB_mapH]
   exact ht.brel (fun _ _ _ _ => rfl) hs (hH.live i p hρ)
 ·exact hH.inj _ _ _ _ _ _ _ _ (old _ _ g).2 (old _ _ g').2 hn
 ·obtain ⟨hi, g⟩ := old _ _ g
  refine ⟨(hH.fresh _ _ _ _ g).1, fun hb' => ?_⟩
  rcases hb' with hb' | ⟨_, c', n', hρh⟩
  ·exact (hH.fresh _ _ _ _ g).2 hb'
  ·exact hH.inj _ _ _ _ _ _ _ _ g hρh hi rfl
 ·rcases hb' with hb' | ⟨_, c', n', hρh⟩
  ·exact hH.ilt b hb'
  ·exact (hH.fresh _ _ _ _ hρh).1
 ·rcases cloO_new hb' with hb' | ⟨hs1, c', n', hρh⟩
  ·obtain ⟨s1, s2, s3, s4⟩ := hH.sub b x hb'
   refine ⟨s1, fun hI => ?_, fun i b' c n g => s3 i b' c n (old _ _ g).2, s4⟩
   rcases hI with hI | ⟨_, c2, n2, hρh⟩
   ·exact s2 hI
   ·exact s3 _ _ _ _ hρh rfl
  ·refine ⟨(hH.fresh _ _ _ _ hρh).1, fun hI => ?_, fun i b' c n g => ?_, ?_⟩
   ·rcases hI with hI | ⟨h2, _⟩
    ·exact (hH.fresh _ _ _ _ hρh).2 hI
    ·rw [hs1] at h2; cases h2
   ·obtain ⟨hi, g⟩ := old _ _ g
    exact hH.inj _ _ _ _ _ _ _ _ g hρh hi
   ·have hlh := hH.live _ _ hρh
    rw [hbh] at hlh
    obtain ⟨_, _, _, cs', vs, r4, _⟩ := hlh
    exact ⟨_, _, _, r4⟩
 ·refine ⟨rfl, rfl, rfl, Nat.le_refl _, fun _ _ _ _ => rfl, fun b h => .inl h, fun b hb' => ?_, fun i hi => ne i (by omega), fun i b c m hi g => .inl ⟨i, c, m, hi, (old _ _ g).2⟩, fun b x hb' => ?_⟩
  ·rcases hb' with hb' | ⟨_, c, n, hρh⟩
   ·exact .inl hb'
   ·exact .inr (.inr ⟨h, c, n, hlo, hρh⟩)
  ·rcases cloO_new hb' with hb' | ⟨_, c, n, hρh⟩
   ·exact .inl ⟨x, hb'⟩
   ·exact .inr (.inr ⟨h, c, n, hlo, hρh⟩)
open Classical in
theorem rest_ok {lo j : Nat} {e e' : TypeId} {sz : Nat} {n : LN} {fz : Nat -> Bool} {ln : Nat -> Nat} {el : Nat -> Nat -> List AV} (hH : HR C hp w) (hb : getB hp j = .rows e e' sz n fz ln el none) :
  ∃ C', Cext C w C' w /\ HR C' (setB hp j (.row e 1 n (fun k => [.slc (.sym (ln k)) sz (el k)]))) w /\ Tr lo C w C' w := by
 have hj : j < hp.length := getB_lt (by rw [hb]; simp)
 cases hρ : C.ρ j with
 | none => exact ⟨C, .refl _ _, hH.reb hj fun p hp => (by rw [hρ] at hp; cases hp), .refl _ _ _⟩
 | some p =>
   have hl := hH.live j p hρ
   rw [hb] at hl
   match p, hl with
   | .at b cap m, hl =>
   obtain ⟨a1, a2, a3, cs, hh, hz, hc⟩ := hl
   let C' : Cx := ⟨C.ρ, fun q => C.I q \/ ∃ k, C.O q = some (b, k), fun q => if (∃ k, C.O q = some (b, k)) then none else C.O q⟩
   have hx : Cext C w C' w := ⟨fun _ _ h => h, fun _ h => .inl h, fun _ _ => rfl⟩
   have hO : ∀ q x, C'.O q = some x -> C.O q = some x /\ ¬ ∃ k, C.O q = some (b, k) := fun q x h => by
    have h' : (if (∃ k, C.O q = some (b, k)) then none else C.O q) = some x := h
    split at h'
    ·cases h'
    ·rename_i hn; exact ⟨h', hn⟩
   have no : ∀ q, ¬ holeB none q := fun q ⟨x, hx⟩ => by cases hx
   refine ⟨C', hx, ⟨fun i p hp' => ?_, hH.inj, fun i b' c n g => ⟨(hH.fresh _ _ _ _ g).1, fun hI => ?_⟩, fun q hI => ?_, fun q x hq => ?_⟩, ?_⟩
   ·by_cases hi : i = j
    ·subst hi
     have hp2 : C.ρ i = some p := hp'
     rw [hρ] at hp2; injection hp2 with hp2; subst hp2
     rw [getB_set, if_pos ⟨rfl, hj⟩]
     refine ⟨a1, a2, ⟨Nat.one_pos, a3.2⟩, cs, fun k => (cs[k]?).toList, hh, by rw [hz, Nat.mul_one], fun k hk => ?_⟩
     obtain ⟨v, hv, _, hn⟩ := hc k hk
     have hn := hn (no k)
     refine ⟨?_, rfl, by show (cs[k]?).toList.length = 1; rw [hv]; rfl, fun j hj => ?_⟩
     ·show RelL C' w _ (cs[k]?).toList
      rw [hv]
      refine .cons _ _ _ _ ?_ .nil
      cases hf : fz k with
      | true => exact (hn.1 hf).mono hx
      | false =>
        rcases hn.2 hf with ⟨g1, g2⟩ | ⟨b', c', cs', vs, g1, g2, g3, g4, g5, g6, g7⟩
        ·subst g2
         have := Rel.slc (C := C') (w := w) (.sym (ln k)) sz (el k) none 0 (fun _ => []) (by show ln k <= 0; omega) (fun h => by have : 0 < ln k := h; omega) (fun q hq => by have : q < ln k := hq; omega) (fun q hq => by have : q < ln k := hq; omega) (fun q hq => by have : q < ln k := hq; omega)
         rwa [show (LN.sym (ln k)).val = 0 from g1] at this
        ·subst g1
         refine Rel.slc (.sym (ln k)) sz (el k) (some ⟨b', 0, none⟩) c' vs g3 (fun _ => ⟨_, rfl, .inr ⟨k, g2⟩, fun q hq i hi => ?_⟩) (fun q hq => (g7 q hq).1.mono hx) (fun q hq => (g7 q hq).2.2.1) (fun q hq => (g7 q hq).2.1)
         rw [add_lit]
         have := (g7 q hq).2.2.2 i hi
         rw [<- this]; simp [World.cell?, g5]
     ·have : j = 0 := by omega
      subst this
      show cs[k * 1 + 0]? = (cs[k]?).toList[0]?
      rw [hv]; simpa using hv
    ·rw [getB_set_ne hi]
     refine (hH.live i p hp').monoS hx fun q c m' e b2 k2 h2 => ?_
     show (if (∃ k, C.O b2 = some (b, k)) then none else C.O b2) = _
     rw [if_neg]
     ·exact h2
     ·rintro ⟨k3, h3⟩
      rw [h2] at h3; injection h3 with h3; injection h3 with h3 _
      exact hH.inj _ _ _ _ _ _ _ _ (by rw [<- e]; exact hp') hρ hi h3
   ·rcases hI with hI | ⟨k, hk⟩
    ·exact (hH.fresh _ _ _ _ g).2 hI
    ·exact (hH.sub _ _ hk).2.2.1 _ _ _ _ g rfl
   ·rcases hI with hI | ⟨k, hk⟩
    ·exact hH.ilt _ hI
    ·exact (hH.sub _ _ hk).1
   ·obtain ⟨h1, h2⟩ := hO q x hq
    obtain ⟨s1, s2, s3, s4⟩ := hH.sub q x h1
    exact ⟨s1, fun hI => hI.elim s2 h2, s3, s4⟩
   ·refine ⟨rfl, rfl, rfl, Nat.le_refl _, fun _ _ _ _ => rfl, fun b h => .inl h, fun q hI => ?_, fun _ _ => rfl, fun i q c m hi g => .inl ⟨i, c, m, hi, g⟩, fun q x hq => .inl ⟨x, (hO q x hq).1⟩⟩
    rcases hI with hI | ⟨k, hk⟩
    ·exact .inl hI
    ·exact .inr (.inl (.inr ⟨_, hk⟩))
def givC (C : Cx) (j : Nat) : Cx := ⟨fun i => if i = j then none else C.ρ i, fun b => C.I b \/ ∃ c n, C.ρ j = some (.at b c n), C.O⟩
theorem givC_ne {j i : Nat} (h : i ≠ j) : (givC C j).ρ i = C.ρ i := by simp [givC, h]
theorem givC_turn (C : Cx) (w : World) (j : Nat) : Turn j .top C w (givC C j) w := ⟨fun _ hi => givC_ne hi, fun _ h => .inl h, fun _ _ => rfl, fun v _ => .top v⟩
theorem beq_no {i j : Nat} (h : i ≠ j) : Nat.beq i j = false := by
 rcases hb : Nat.beq i j with _ | _
 ·rfl
 ·exact absurd (Nat.eq_of_beq_eq_true hb) h
theorem givC_hr {j : Nat} {H' : Heap} (hH : HR C hp w) (hl : ∀ i p, i ≠ j -> C.ρ i = some p -> BRel (givC C j) w p (getB H' i)) : HR (givC C j) H' w := by
 have no : ∀ p, (givC C j).ρ j = some p -> False := fun p h => by simp [givC] at h
 have old : ∀ i p, (givC C j).ρ i = some p -> i ≠ j /\ C.ρ i = some p := fun i p hp => by
  by_cases hi : i = j
  ·subst hi; exact (no _ hp).elim
  ·rw [givC_ne hi] at hp; exact ⟨hi, hp⟩
 refine ⟨fun i p hp' => hl i p (old i p hp').1 (old i p hp').2, fun i i' b c n b1 c1 n1 h h' hne => hH.inj _ _ _ _ _ _ _ _ (old _ _ h).2 (old _ _ h').2 hne, fun i b c n h => ?_, fun b hb' => ?_, fun b x hb' => ?_⟩
 ·obtain ⟨hi, h⟩ := old _ _ h
  refine ⟨(hH.fresh _ _ _ _ h).1, fun hb' => ?_⟩
  rcases hb' with hb' | ⟨c', n', h'⟩
  ·exact (hH.fresh _ _ _ _ h).2 hb'
  ·exact hH.inj _ _ _ _ _ _ _ _ h h' hi rfl
 ·rcases hb' with hb' | ⟨c, n, h⟩
  ·exact hH.ilt b hb'
  ·exact (hH.fresh _ _ _ _ h).1
 ·obtain ⟨s1, s2, s3, s4⟩ := hH.sub b x hb'
  refine ⟨s1, fun hI => ?_, fun i b' c n h => s3 i b' c n (old _ _ h).2, s4⟩
  rcases hI with hI | ⟨c, n, h⟩
  ·exact s2 hI
  ·exact s3 _ _ _ _ h rfl
theorem givC_tr {lo j : Nat} (hlo : lo <= j) : Tr lo C w (givC C j) w := by
 refine ⟨rfl, rfl, rfl, Nat.le_refl _, fun _ _ _ _ => rfl, fun b h => .inl h, fun b hb' => ?_, fun i hi => givC_ne (by omega), fun i b c m hi h => ?_, fun b x h => .inl ⟨x, h⟩⟩
 ·rcases hb' with hb' | ⟨c, m, hρ⟩
  ·exact .inl hb'
  ·exact .inr (.inr ⟨j, c, m, hlo, hρ⟩)
 ·by_cases hij : i = j
  ·simp [givC, hij] at h
  ·rw [givC_ne hij] at h; exact .inl ⟨i, c, m, hi, h⟩
theorem pa_rel {j : Nat} {t : TypeId} {wd : Nat} {f : Nat -> Nat -> AV} (hH : HR C hp w) (hb : getB hp j = .mat t wd (.lit 1) f) {x : AV} {v : Value} (h : Rel C w x v) : Rel (givC C j) w (paA j (.pa wd 1 (fun k => [f 0 k])) x) v := by
 have hI : ∀ b, C.I b -> (givC C j).I b := fun b h => .inl h
 have hbk : ∀ b, C.I b -> w.heap[b]? = w.heap[b]? := fun _ _ => rfl
 refine Rel.rec (C := C) (w := w) (motive_1 := fun x v _ => Rel (givC C j) w (paA j (.pa wd 1 (fun k => [f 0 k])) x) v) (motive_2 := fun m vs _ => RelL (givC C j) w (paA.paL j (.pa wd 1 (fun k => [f 0 k])) m) vs)
  ?_ ?_ ?_ ?_ ?_ ?_ ?_ ?_ ?_ ?_ ?_ ?_ ?_ ?_ ?_ ?_ ?_ ?_ ?_ ?_ ?_ h
 ·exact fun v => .top v
 ·exact fun k a v => .gd k _ v
 ·exact fun k n => .li k n
 ·exact fun k n => .si k n
 ·exact fun b => .lb b
 ·exact fun b => .sb b
 ·exact fun x => .v x
 ·exact fun l vs _ h => .agg _ vs h
 ·exact fun l vs _ h => .tup _ vs h
 ·intro i off b c n h
  simp only [paA]
  by_cases hi : i = j
  ·subst hi; rw [show Nat.beq i i = true by simp]; exact .top _
  ·rw [beq_no hi]; exact .own i off b c n (by rw [givC_ne hi]; exact h)
 ·intro i sz k off b c n h hk
  simp only [paA]
  by_cases hi : i = j
  ·subst hi; rw [show Nat.beq i i = true by simp]
   cases hko : Nat.beq k 0 && Nat.beq off 0 with
   | false => exact .top _
   | true =>
     rw [Bool.and_eq_true] at hko
     have hk0 := Nat.eq_of_beq_eq_true hko.1
     have ho0 := Nat.eq_of_beq_eq_true hko.2
     subst hk0 ho0
     have hl := hH.live _ _ h
     rw [hb] at hl
     obtain ⟨r1, r2, r3, cs, r4, r5, r6⟩ := hl
     have r1 : 1 = n := r1
     subst r1
     show Rel (givC C i) w (.pa wd 1 (fun k => [f 0 k])) (.pointer (some ⟨b, 0 * sz + 0, none⟩))
     refine .pa wd 1 _ _ (fun k => (cs[k]?).toList) ⟨⟨fun e => by have := r3.1; omega, fun e => by cases e⟩, fun ad e => by injection e with e; subst e; exact .inr ⟨c, 1, h⟩⟩ (fun ad e k hk q hq => ?_) (fun k hk => ?_) (fun k hk => ?_) (fun k hk => ?_)
     ·have : q = 0 := by omega
      subst this
      obtain ⟨_, v, hv, _⟩ := r6 0 (by omega) k hk
      injection e with e; subst e
      rw [add_lit]
      simp only [Nat.zero_mul, Nat.zero_add] at hv
      simp [World.cell?, r4, hv]
     ·obtain ⟨ho, v, hv, hr⟩ := r6 0 (by omega) k hk
      simp only [Nat.zero_mul, Nat.zero_add] at hv
      show RelL _ _ _ (cs[k]?).toList
      rw [hv]
      exact .cons _ _ _ _ (hr.still hI hbk (own_okC ho)) .nil
     ·obtain ⟨ho, v, hv, hr⟩ := r6 0 (by omega) k hk
      simp only [Nat.zero_mul, Nat.zero_add] at hv
      show (cs[k]?).toList.length = 1
      rw [hv]; rfl
     ·obtain ⟨ho, _⟩ := r6 0 (by omega) k hk
      simp [okL, ho]
  ·rw [beq_no hi]; exact .elt i sz k off b c n (by rw [givC_ne hi]; exact h) hk
 ·intro i b c n h
  simp only [paA]
  by_cases hi : i = j
  ·subst hi; rw [show Nat.beq i i = true by simp]; exact .top _
  ·rw [beq_no hi]; exact .row i b c n (by rw [givC_ne hi]; exact h)
 ·intro i n sz b c m h
  simp only [paA]
  by_cases hi : i = j
  ·subst hi; rw [show Nat.beq i i = true by simp]; exact .top _
  ·rw [beq_no hi]; exact .lsl i n sz b c m (by rw [givC_ne hi]; exact h)
 ·intro i h
  simp only [paA]
  by_cases hi : i = j
  ·subst hi; rw [show Nat.beq i i = true by simp]; exact .top _
  ·rw [beq_no hi]; exact .rown i (by rw [givC_ne hi]; exact h)
 ·intro n sz el A cap vs hcap hA hr hl hn _
  exact (Rel.slc n sz el A cap vs hcap hA hr hl hn).still hI hbk rfl
 ·intro l ad vs hr hI' hc hn _
  exact (Rel.xp l ad vs hr hI' hc hn).still hI hbk rfl
 ·exact fun f l m vs ws _ _ h h' => .fn f _ _ vs ws h h'
 ·intro n sz el ad vs hI' hc hr hl hn _
  exact (Rel.pa n sz el ad vs hI' hc hr hl hn).still hI hbk rfl
 ·intro i b c n h
  simp only [paA]
  by_cases hi : i = j
  ·subst hi; rw [show Nat.beq i i = true by simp]; exact .top _
  ·rw [beq_no hi]; exact .mp i b c n (by rw [givC_ne hi]; exact h)
 ·exact .nil
 ·exact fun a l v vs _ _ h h' => .cons _ _ v vs h h'
theorem pa_relL {j : Nat} {t : TypeId} {wd : Nat} {f : Nat -> Nat -> AV} (hH : HR C hp w) (hb : getB hp j = .mat t wd (.lit 1) f) : ∀ {m : List AV} {vs : List Value}, RelL C w m vs -> RelL (givC C j) w (paA.paL j (.pa wd 1 (fun k => [f 0 k])) m) vs
 | _, _, .nil => .nil
 | _, _, .cons _ _ _ _ h h' => .cons _ _ _ _ (pa_rel hH hb h) (pa_relL hH hb h')
theorem getB_paH (j : Nat) (p : AV) : ∀ (l : Heap) (i : Nat), getB (paH j p l) i = paB j p (getB l i)
 | [], _ => rfl
 | _ :: _, 0 => rfl
 | _ :: l, i + 1 => getB_paH j p l i
theorem len_paH (j : Nat) (p : AV) : ∀ l : Heap, (paH j p l).length = l.length
 | [] => rfl
 | _ :: l => by simp [paH, len_paH j p l]
theorem pa_brel {j : Nat} {t : TypeId} {wd : Nat} {f : Nat -> Nat -> AV} (hH : HR C hp w) (hb : getB hp j = .mat t wd (.lit 1) f) {p : Pl} {b : Blk} (h : BRel C w p b) : BRel (givC C j) w p (paB j (.pa wd 1 (fun k => [f 0 k])) b) := by
 have hm : BRel (givC C j) w p (mapB (at1 j .top) b) := (givC_turn C w j).brel (fun _ _ _ _ => rfl) (fun b x hb => ⟨hb, rfl⟩) h
 match p, b, h with
 | .at q c m, .cells ty l', h =>
   obtain ⟨vs, hr, hh⟩ := h
   exact ⟨vs, pa_relL hH hb hr, hh⟩
 | .at q c m, .row e sz k el, _ => exact hm
 | .at q c m, .mat _ _ _ _, _ => exact hm
 | .at q c m, .rows _ _ _ _ _ _ _ _, _ => exact hm
 | .at q c m, .tab _ _ _, _ => exact hm
 | .nil, .row e sz k el, _ => exact hm
theorem pa_hr {j : Nat} {t : TypeId} {wd : Nat} {f : Nat -> Nat -> AV} (hH : HR C hp w) (hb : getB hp j = .mat t wd (.lit 1) f) : HR (givC C j) (setB (paH j (.pa wd 1 (fun k => [f 0 k])) hp) j .dead) w :=
 givC_hr hH fun i p hi h => by
  rw [getB_set_ne hi, getB_paH]
  exact pa_brel hH hb (hH.live i p h)
theorem getL_paL (j : Nat) (p : AV) : ∀ (fr : List AV) (t : Nat), getL (paA.paL j p fr) t = paA j p (getL fr t)
 | [], _ => rfl
 | _ :: _, 0 => rfl
 | _ :: fr, t + 1 => getL_paL j p fr t
theorem len_paL (j : Nat) (p : AV) : ∀ fr : List AV, (paA.paL j p fr).length = fr.length
 | [] => rfl
 | _ :: fr => by simp [paA.paL, len_paL j p fr]
theorem pa_ng {j n sz : Nat} {el : Nat -> List AV} {a : AV} (h : ∀ k b, a ≠ .gd k b) : ∀ k b, paA j (.pa n sz el) a ≠ .gd k b := by
 intro k b e
 cases a <;> simp only [paA] at e <;> first | (cases e; done) | skip
 all_goals first | (split at e <;> cases e; done) | skip
 ·split at e
  ·split at e <;> cases e
  ·cases e
 ·exact h _ _ rfl
theorem pa_fr {j : Nat} {t : TypeId} {wd : Nat} {f : Nat -> Nat -> AV} (hH : HR C hp w) (hb : getB hp j = .mat t wd (.lit 1) f) {fr : List AV} {tm : Array Value} (h : FR [] C w fr tm) : FR [] (givC C j) w (paA.paL j (.pa wd 1 (fun k => [f 0 k])) fr) tm :=
 ⟨by rw [len_paL]; exact h.len, fun t => by
  rw [getL_paL]
  refine ⟨pa_rel hH hb (h.get t).1, fun k b e => ?_⟩
  exact absurd e (pa_ng (fun k b e' => by obtain ⟨x, hx, _⟩ := (h.get t).2 k b e'; simp at hx) k b)⟩
end
end Abs
end Go.Proofs.Ytdfdjlijghjdaaa

namespace Go.Proofs.Ytdfdjlijghjdaaa
namespace Abs
open Go Go.RowKit
section
variable {P : Program} {S : Sums} {C C' : Cx} {w w' : World} {H hp : Heap} {T T1 T' : List Cnd} {all : List Oper} {I : Act -> World -> Prop}
theorem gi_rel {j : Nat} {t : TypeId} {l : List AV} (hH : HR C hp w) (hb : getB hp j = .cells t l) (hn : ownIn.ownInL l = false) {x : AV} {v : Value} (h : Rel C w x v) : Rel (givC C j) w (giA j l x) v := by
 have hI : ∀ b, C.I b -> (givC C j).I b := fun b h => .inl h
 have hbk : ∀ b, C.I b -> w.heap[b]? = w.heap[b]? := fun _ _ => rfl
 refine Rel.rec (C := C) (w := w) (motive_1 := fun x v _ => Rel (givC C j) w (giA j l x) v) (motive_2 := fun m vs _ => RelL (givC C j) w (giA.giL j l m) vs)
  ?_ ?_ ?_ ?_ ?_ ?_ ?_ ?_ ?_ ?_ ?_ ?_ ?_ ?_ ?_ ?_ ?_ ?_ ?_ ?_ ?_ h
 ·exact fun v => .top v
 ·exact fun k a v => .gd k _ v
 ·exact fun k n => .li k n
 ·exact fun k n => .si k n
 ·exact fun b => .lb b
 ·exact fun b => .sb b
 ·exact fun x => .v x
 ·exact fun l vs _ h => .agg _ vs h
 ·exact fun l vs _ h => .tup _ vs h
 ·intro i off b c n h
  simp only [giA]
  by_cases hi : i = j
  ·subst hi
   rw [show Nat.beq i i = true by simp]
   have hl := hH.live _ _ h
   rw [hb] at hl
   obtain ⟨vs, hr, hh⟩ := hl
   simp only
   rw [dropL_eq]
   refine .xp _ _ (vs.drop off) ((hr.still hI hbk hn).drop _) (fun _ => .inr ⟨c, n, h⟩) (fun q hq => ?_) (own_drop _ hn)
   rw [add_lit]
   simp [World.cell?, hh]
  ·rw [beq_no hi]; exact .own i off b c n (by rw [givC_ne hi]; exact h)
 ·intro i sz k off b c n h hk
  simp only [giA]
  by_cases hi : i = j
  ·subst hi; rw [show Nat.beq i i = true by simp]; exact .top _
  ·rw [beq_no hi]; exact .elt i sz k off b c n (by rw [givC_ne hi]; exact h) hk
 ·intro i b c n h
  simp only [giA]
  by_cases hi : i = j
  ·subst hi; rw [show Nat.beq i i = true by simp]; exact .top _
  ·rw [beq_no hi]; exact .row i b c n (by rw [givC_ne hi]; exact h)
 ·intro i n sz b c m h
  simp only [giA]
  by_cases hi : i = j
  ·subst hi; rw [show Nat.beq i i = true by simp]; exact .top _
  ·rw [beq_no hi]; exact .lsl i n sz b c m (by rw [givC_ne hi]; exact h)
 ·intro i h
  simp only [giA]
  by_cases hi : i = j
  ·subst hi; rw [show Nat.beq i i = true by simp]; exact .top _
  ·rw [beq_no hi]; exact .rown i (by rw [givC_ne hi]; exact h)
 ·intro n sz el A cap vs hcap hA hr hl hn _
  exact (Rel.slc n sz el A cap vs hcap hA hr hl hn).still hI hbk rfl
 ·intro l ad vs hr hI' hc hn _
  exact (Rel.xp l ad vs hr hI' hc hn).still hI hbk rfl
 ·exact fun f l m vs ws _ _ h h' => .fn f _ _ vs ws h h'
 ·intro n sz el ad vs hI' hc hr hl hn _
  exact (Rel.pa n sz el ad vs hI' hc hr hl hn).still hI hbk rfl
 ·intro i b c n h
  simp only [giA]
  by_cases hi : i = j
  ·subst hi; rw [show Nat.beq i i = true by simp]; exact .top _
  ·rw [beq_no hi]; exact .mp i b c n (by rw [givC_ne hi]; exact h)
 ·exact .nil
 ·exact fun a l v vs _ _ h h' => .cons _ _ v vs h h'
theorem gi_relL {j : Nat} {t : TypeId} {l : List AV} (hH : HR C hp w) (hb : getB hp j = .cells t l) (hn : ownIn.ownInL l = false) : ∀ {m : List AV} {vs : List Value}, RelL C w m vs -> RelL (givC C j) w (giA.giL j l m) vs
 | _, _, .nil => .nil
 | _, _, .cons _ _ _ _ h h' => .cons _ _ _ _ (gi_rel hH hb hn h) (gi_relL hH hb hn h')
theorem getB_giH (j : Nat) (m : List AV) : ∀ (l : Heap) (i : Nat), getB (giH j m l) i = giB j m (getB l i)
 | [], _ => rfl
 | _ :: _, 0 => rfl
 | _ :: l, i + 1 => getB_giH j m l i
theorem len_giH (j : Nat) (m : List AV) : ∀ l : Heap, (giH j m l).length = l.length
 | [] => rfl
 | _ :: l => by simp [giH, len_giH j m l]
theorem gi_brel {j : Nat} {t : TypeId} {l : List AV} (hH : HR C hp w) (hb : getB hp j = .cells t l) (hn : ownIn.ownInL l = false) {p : Pl} {b : Blk} (h : BRel C w p b) : BRel (givC C j) w p (giB j l b) := by
 have hm : BRel (givC C j) w p (mapB (at1 j .top) b) := (givC_turn C w j).brel (fun _ _ _ _ => rfl) (fun b x hb => ⟨hb, rfl⟩) h
 match p, b, h with
 | .at q c m, .cells ty l', h =>
   obtain ⟨vs, hr, hh⟩ := h
   exact ⟨vs, gi_relL hH hb hn hr, hh⟩
 | .at q c m, .row e sz k el, _ => exact hm
 | .at q c m, .mat _ _ _ _, _ => exact hm
 | .at q c m, .rows _ _ _ _ _ _ _ _, _ => exact hm
 | .at q c m, .tab _ _ _, _ => exact hm
 | .nil, .row e sz k el, _ => exact hm
theorem gi_hr {j : Nat} {t : TypeId} {l : List AV} (hH : HR C hp w) (hb : getB hp j = .cells t l) (hn : ownIn.ownInL l = false) : HR (givC C j) (setB (giH j l hp) j .dead) w :=
 givC_hr hH fun i p hi h => by
  rw [getB_set_ne hi, getB_giH]
  exact gi_brel hH hb hn (hH.live i p h)
theorem getL_giL (j : Nat) (l : List AV) : ∀ (fr : List AV) (t : Nat), getL (giA.giL j l fr) t = giA j l (getL fr t)
 | [], _ => rfl
 | _ :: _, 0 => rfl
 | _ :: fr, t + 1 => getL_giL j l fr t
theorem len_giL (j : Nat) (l : List AV) : ∀ fr : List AV, (giA.giL j l fr).length = fr.length
 | [] => rfl
 | _ :: fr => by simp [giA.giL, len_giL j l fr]
theorem gi_ng {j : Nat} {l : List AV} {a : AV} (h : ∀ k b, a ≠ .gd k b) : ∀ k b, giA j l a ≠ .gd k b := by
 intro k b e
 cases a <;> simp only [giA] at e <;> first | (cases e; done) | skip
 all_goals first | (split at e <;> cases e; done) | skip
 exact h _ _ rfl
theorem gi_fr {j : Nat} {t : TypeId} {l : List AV} (hH : HR C hp w) (hb : getB hp j = .cells t l) (hn : ownIn.ownInL l = false) {fr : List AV} {tm : Array Value} (h : FR [] C w fr tm) : FR [] (givC C j) w (giA.giL j l fr) tm :=
 ⟨by rw [len_giL]; exact h.len, fun t => by
  rw [getL_giL]
  refine ⟨gi_rel hH hb hn (h.get t).1, fun k b e => ?_⟩
  exact absurd e (gi_ng (fun k b e' => by obtain ⟨x, hx, _⟩ := (h.get t).2 k b e'; simp at hx) k b)⟩
theorem rel_nils (C : Cx) (w : World) (sz : Nat) : Rel C w (.slc (.sym 0) sz (fun _ => [])) (.slice none 0 0) :=
 Rel.slc (.sym 0) sz (fun _ => []) none 0 (fun _ => []) (Nat.le_refl _) (fun h => absurd h (Nat.lt_irrefl _)) (fun k h => absurd h (Nat.not_lt_zero _)) (fun k h => absurd h (Nat.not_lt_zero _)) (fun k h => absurd h (Nat.not_lt_zero _))
theorem brel_nils {e : TypeId} {sz : Nat} {n : LN} {el : Nat -> List AV} {p : Pl} (hel : ∀ k, k < n.val -> el k = [.v (.slice none 0 0)]) (h : BRel C w p (.row e 1 n el)) :
  BRel C w p (.row e 1 n (fun _ => [.slc (.sym 0) sz (fun _ => [])])) := by
 match p, h with
 | .at b c m, h =>
   obtain ⟨h1, h2, h3, cs, vs, hh, hs, hc⟩ := h
   refine ⟨h1, h2, h3, cs, vs, hh, hs, fun k hk => ?_⟩
   obtain ⟨g1, g2, g3, g4⟩ := hc k hk
   rw [hel k (by omega)] at g1
   refine ⟨?_, rfl, g3, g4⟩
   generalize vs k = u at g1
   cases g1 with
   | cons _ _ v vs' g6 g7 =>
     cases g6
     cases g7
     exact .cons _ _ _ _ (rel_nils C w sz) .nil
 | .nil, h => exact h
theorem rowsK_sat {R : AV -> Heap -> Prop} {lo x c j : Nat} {fr : List AV} {hp : Heap} {C : Cx} {K : List AV -> Heap -> VC} {tm : Array Value} (h : (rowsK lo x c j fr hp K).sat R) (hlo : lo <= hp.length) (hH : HR C hp w) (hF : FR [] C w fr tm) :
  ∃ fr' hp' C', (K fr' hp').sat R /\ lo <= hp'.length /\ HR C' hp' w /\ FR [] C' w fr' tm /\ Tr lo C w C' w := by
 have clo : ∀ stay, (closeK lo stay j fr hp K).sat R -> ∃ fr' hp' C', (K fr' hp').sat R /\ lo <= hp'.length /\ HR C' hp' w /\ FR [] C' w fr' tm /\ Tr lo C w C' w := fun stay h => by
  unfold closeK at h
  split at h
  ·rename_i e e' sz n fz ln el k h' hb
   split at h
   ·rename_i e2 sz2 m f hb2
    split at h
    ·rename_i hd
     rw [Bool.and_eq_true, Bool.and_eq_true, decide_eq_true_eq] at hd
     obtain ⟨⟨⟨rfl, rfl, hne⟩, hl1⟩, _⟩ := hd
     rw [forceLD_eq, forceH_eq] at h
     obtain ⟨C1, ht, h1, h2⟩ := close_ok (stay := stay) hH hb hb2 hne (Nat.le_of_ble_eq_true hl1)
     exact ⟨_, _, C1, h, by rw [len_setB, len_setB, len_mapH]; exact hlo, h1, ht.frame (by trivial) hF, h2⟩
    ·exact h.elim
   ·exact h.elim
  ·exact h.elim
 unfold rowsK at h
 split at h
 ·-- opened
  unfold openK at h
  split at h
  ·rename_i e e' sz n fz ln el q hb hq
   obtain ⟨h1, h2, h⟩ := h
   rw [forceH_eq, appH_eq] at h
   have h1' : 0 <= q /\ q < (n.val : Int) := h1
   obtain ⟨C1, hx, k1, k2⟩ := open_ok (lo := lo) (k := nat q) hH hb (by have hz : nat q = q.toNat := (by unfold nat; rfl); omega) h2 hlo
   exact ⟨fr, _, C1, h, by simp [len_setB]; omega, k1, hF.mono hx, k2⟩
  ·exact h.elim
 ·exact clo _ h
 ·exact clo _ h
 ·unfold restK at h
  split at h
  ·rename_i e e' sz n fz ln el hb
   split at h
   ·rw [forceH_eq] at h
    obtain ⟨C1, hx, k1, k2⟩ := rest_ok (lo := lo) hH hb
    exact ⟨fr, _, C1, h, by rw [len_setB]; exact hlo, k1, hF.mono hx, k2⟩
   ·exact h.elim
  ·exact h.elim
 ·unfold frzK at h
  split at h
  ·rename_i e sz n el hb
   split at h
   ·rename_i hj
    have hj := Nat.le_of_ble_eq_true hj
    rw [forceLD_eq, forceH_eq] at h
    obtain ⟨C1, ht, h1, h2⟩ := freeze hH hb hj
    exact ⟨_, _, C1, h, by rw [len_setB, len_mapH]; exact hlo, h1, ht.frame (by trivial) hF, h2⟩
   ·exact h.elim
  ·exact h.elim
 ·unfold nilsK at h
  split at h
  ·rename_i e n el hb
   obtain ⟨h1, h⟩ := h
   rw [forceH_eq] at h
   exact ⟨fr, _, C, h, by rw [len_setB]; exact hlo, hH.reb (getB_lt (by rw [hb]; simp)) (fun p hp => by
    have hl := hH.live j p hp
    rw [hb] at hl
    exact brel_nils h1 hl), hF, .refl _ _ _⟩
  ·exact h.elim
 ·split at h
  ·unfold toRowsK at h
   split at h
   ·rename_i e n el s hb hs
    obtain ⟨h1, h⟩ := h
    rw [forceH_eq] at h
    exact ⟨fr, _, C, h, by rw [len_setB]; exact hlo, hH.reb (getB_lt (by rw [hb]; simp)) (fun p hp => by
     have hl := hH.live j p hp
     rw [hb] at hl
     exact brel_toRows h1.1 h1.2 hl), hF, .refl _ _ _⟩
   ·exact h.elim
  ·exact h.elim
theorem relL_setNil {n : Nat} (hn : C.ρ n = some .nil) : ∀ {l : List AV} {vs : List Value} {off : Nat}, RelL C w l vs -> isNilS (getL l off) = true -> RelL C w (setL l off (.row n)) vs
 | [], _, _, h, h0 => by simp [getL_nil, isNilS] at h0
 | a :: l, _, off, h, h0 => by
   cases h with
   | cons _ _ v vs ha hl =>
     cases off with
     | zero =>
       rw [getL_zero] at h0
       refine .cons _ _ _ _ ?_ hl
       unfold isNilS at h0
       split at h0
       ·cases ha; exact .rown _ hn
       ·cases h0
     | succ off => exact .cons _ _ _ _ ha (relL_setNil hn hl h0)
theorem nilCK_sat {R : AV -> Heap -> Prop} {lo t x c : Nat} {fr : List AV} {hp : Heap} {C : Cx} {K : Heap -> VC} {tm : Array Value} (h : (nilCK t x c fr hp K).sat R) (hlo : lo <= hp.length) (hH : HR C hp w) (hF : FR [] C w fr tm) :
  ∃ hp' C', (K hp').sat R /\ lo <= hp'.length /\ HR C' hp' w /\ FR [] C' w fr tm /\ Tr lo C w C' w := by
 unfold nilCK at h
 split at h
 ·rename_i i o hg hc
  split at h
  ·rename_i ty l hb
   split at h
   ·rename_i hn
    rw [forceL_eq, forceH_eq, appH_eq] at h
    have hnone : C.ρ hp.length = none := by
     cases hc : C.ρ hp.length with
     | none => rfl
     | some p => have := hH.lt hc; omega
    have h1 : HR (C.put hp.length .nil) (hp ++ [Blk.row (x % 65536) (x / 65536 + 1) (.lit 0) (fun _ => [])]) w := by
     refine (hH.ext _).newNil hnone ?_
     rw [show getB (hp ++ [Blk.row (x % 65536) (x / 65536 + 1) (.lit 0) (fun _ => [])]) hp.length = .row (x % 65536) (x / 65536 + 1) (.lit 0) (fun _ => []) by rw [getB_eq]; simp]
     exact ⟨rfl, Nat.succ_pos _⟩
    have g := Grow.newNil C w hp.length
    have h2 : FR [] (C.put hp.length .nil) w fr tm := g.frame (fun i a b => (show i = hp.length by omega) ▸ hnone) hH.ilt hF
    have hil : i < hp.length := getB_lt (by rw [hb]; simp)
    have hbe : getB (hp ++ [Blk.row (x % 65536) (x / 65536 + 1) (.lit 0) (fun _ => [])]) i = .cells ty l := by rw [getB_append _ _ _ hil, hb]
    have h3 : HR (C.put hp.length .nil) (setB (hp ++ [Blk.row (x % 65536) (x / 65536 + 1) (.lit 0) (fun _ => [])]) i (.cells ty (setL l (o + c / 64) (.row hp.length)))) w := by
     refine h1.reb (by simp; omega) (fun p hp' => ?_)
     have hl := h1.live i p hp'
     rw [hbe] at hl
     cases p with
     | «at» b cap n =>
       obtain ⟨vs, hv, hw⟩ := hl
       exact ⟨vs, relL_setNil Cx.put_eq hv hn, hw⟩
     | nil => exact hl.elim
    have e : setB (hp ++ [Blk.row (x % 65536) (x / 65536 + 1) (.lit 0) (fun _ => [])]) i (.cells ty (setL l (o + c / 64) (.row hp.length))) = setB hp i (.cells ty (setL l (o + c / 64) (.row hp.length))) ++ [Blk.row (x % 65536) (x / 65536 + 1) (.lit 0) (fun _ => [])] := setB_app hil
    rw [e] at h3
    exact ⟨_, _, h, by rw [List.length_append, len_setB]; omega, h3, h2, g.tr hlo⟩
   ·exact h.elim
  ·exact h.elim
 ·exact h.elim
theorem giveK_sat {R : AV -> Heap -> Prop} {lo : Nat} : ∀ {l : List (Nat × TypeId × Nat)} {fr : List AV} {hp : Heap} {C : Cx} {K : List AV -> Heap -> VC} {tm : Array Value}, (giveK lo l fr hp K).sat R -> lo <= hp.length -> HR C hp w -> FR [] C w fr tm ->
  ∃ fr' hp' C', (K fr' hp').sat R /\ lo <= hp'.length /\ HR C' hp' w /\ FR [] C' w fr' tm /\ Tr lo C w C' w
 | [], fr, hp, C, K, tm, h, hlo, hH, hF => ⟨fr, hp, C, h, hlo, hH, hF, .refl _ _ _⟩
 | (t, x, c) :: l, fr, hp, C, K, tm, h, hlo, hH, hF => by
   unfold giveK at h
   split at h
   ·split at h
    ·obtain ⟨fr1, hp1, C1, g1, g2, g3, g4, g5⟩ := rowsK_sat h hlo hH hF
     obtain ⟨fr', hp', C', h4, h5, h6, h7, h8⟩ := giveK_sat (lo := lo) (C := C1) g1 g2 g3 g4
     exact ⟨fr', hp', C', h4, h5, h6, h7, g5.trans h8⟩
    ·obtain ⟨hp1, C1, g1, g2, g3, g4, g5⟩ := nilCK_sat h hlo hH hF
     obtain ⟨fr', hp', C', h4, h5, h6, h7, h8⟩ := giveK_sat (lo := lo) (C := C1) g1 g2 g3 g4
     exact ⟨fr', hp', C', h4, h5, h6, h7, g5.trans h8⟩
   ·split at h
    ·rename_i j o hg
     split at h
     ·rename_i ty m hb
      split at h
      ·rename_i hn hj
       have hj := Nat.le_of_ble_eq_true hj
       rw [forceLD_eq, forceH_eq] at h
       obtain ⟨fr', hp', C', h4, h5, h6, h7, h8⟩ := giveK_sat (lo := lo) (C := givC C j) h (by rw [len_setB, len_giH]; exact hlo) (gi_hr hH hb hn) (gi_fr hH hb hn hF)
       exact ⟨fr', hp', C', h4, h5, h6, h7, (givC_tr hj).trans h8⟩
      ·exact h.elim
     ·exact h.elim
    ·rename_i j hg
     split at h
     ·rename_i e sz n el hb
      split at h
      ·rename_i hj
       have hj := Nat.le_of_ble_eq_true hj
       rw [forceLD_eq, forceH_eq] at h
       obtain ⟨C1, ht, h1, h2⟩ := freeze hH hb hj
       obtain ⟨fr', hp', C', h4, h5, h6, h7, h8⟩ := giveK_sat (lo := lo) (C := C1) h (by rw [len_setB, len_mapH]; exact hlo) h1 (ht.frame (by trivial) hF)
       exact ⟨fr', hp', C', h4, h5, h6, h7, h2.trans h8⟩
      ·exact h.elim
     ·exact h.elim
    ·rename_i j a q o hg
     split at h
     ·rename_i ty wd f hb
      split at h
      ·rename_i hj
       have hj := Nat.le_of_ble_eq_true hj
       rw [forceLD_eq, forceH_eq] at h
       obtain ⟨fr', hp', C', h4, h5, h6, h7, h8⟩ := giveK_sat (lo := lo) (C := givC C j) h (by rw [len_setB, len_paH]; exact hlo) (pa_hr hH hb) (pa_fr hH hb hF)
       exact ⟨fr', hp', C', h4, h5, h6, h7, (givC_tr hj).trans h8⟩
      ·exact h.elim
     ·exact h.elim
    ·exact h.elim
theorem memN_iff {n : Nat} : ∀ {l : List Nat}, memN n l = true ↔ n ∈ l
 | [] => by simp [memN]
 | m :: l => by
   unfold memN
   split
   ·rename_i h; have := Nat.eq_of_beq_eq_true h; simp [this]
   ·rename_i h
    have hne : n ≠ m := fun e => by subst e; simp at h
    rw [memN_iff]; simp [hne]
theorem allOrd_sat {R : AV -> Heap -> Prop} {k : Nat -> VC} : ∀ {l : List Nat}, (allOrd l k).sat R -> ∀ i ∈ l, (k i).sat R
 | [], _, i, hi => by cases hi
 | j :: l, h, i, hi => by
   unfold allOrd at h
   obtain ⟨h1, h2⟩ := h
   rcases List.mem_cons.1 hi with rfl | hi
   ·exact h1
   ·exact allOrd_sat (h2 () trivial) i hi
theorem rdyN_spec {D : List Nat} {i : Nat} : rdyN all D i = true ↔ ¬ i ∈ D /\ ∃ o, all[i]? = some o /\ ∀ e ∈ o.after.toList, Region.binds .any e = true -> e.on ∈ D := by
 unfold rdyN
 cases hm : memN i D with
 | true => simp [memN_iff.1 hm]
 | false =>
   have hn : ¬ i ∈ D := fun h => by rw [memN_iff.2 h] at hm; cases hm
   simp only [hn, not_false_iff, true_and]
   cases ho : all[i]? with
   | none => simp
   | some o =>
     simp only [Option.some.injEq, exists_eq_left', List.all_eq_true, Bool.or_eq_true, Bool.not_eq_true', memN_iff]
     constructor
     ·intro h e he hb
      rcases h e he with h' | h'
      ·rw [h'] at hb; cases hb
      ·exact h'
     ·intro h e he
      cases hb : Region.binds .any e with
      | false => exact .inl rfl
      | true => exact .inr (h e he hb)
theorem rdyL_mem {D : List Nat} {i : Nat} : ∀ {n : Nat}, i ∈ rdyL all D n ↔ i < n /\ rdyN all D i = true
 | 0 => by simp [rdyL]
 | n + 1 => by
   unfold rdyL
   split
   ·rename_i h
    rw [List.mem_cons, rdyL_mem]
    constructor
    ·rintro (rfl | ⟨h1, h2⟩)
     ·exact ⟨by omega, h⟩
     ·exact ⟨by omega, h2⟩
    ·rintro ⟨h1, h2⟩
     by_cases e : i = n
     ·exact .inl e
     ·exact .inr ⟨by omega, h2⟩
   ·rename_i h
    rw [rdyL_mem]
    constructor
    ·rintro ⟨h1, h2⟩; exact ⟨by omega, h2⟩
    ·rintro ⟨h1, h2⟩
     refine ⟨?_, h2⟩
     by_cases e : i = n
     ·subst e; rw [h2] at h; cases h
     ·omega
theorem wantN_spec {fr : List AV} {o : Oper} {r : Bool} (h : wantN all (getL fr) o = some r) : Wants all [] fr o r := by
 unfold wantN at h
 unfold Wants
 split at h
 ·rename_i hg; rw [hg]; injection h with h; exact h.symm
 ·rename_i j ww hg
  rw [hg]
  split at h
  ·rename_i d hd
   split at h
   ·rename_i b hb
    injection h with h
    refine ⟨d, hd, ?_⟩
    rw [hb]; simp only [gW]; rw [h]
   ·cases h
  ·cases h
theorem fixN_spec {D : List Nat} {g : Nat -> AV} {i : Nat} {o : Oper} {ps : List Cd} {a : AV} (h : fixN P all D g i = some (o, ps, a)) : rdyN all D i = true /\ all[i]? = some o /\ fixV P all g o = some (ps, a) /\ apN all D i o = true := by
 unfold fixN at h
 split at h
 ·rename_i o' h1 h2
  split at h
  ·rename_i ps' a' h3
   split at h
   ·rename_i h5
    simp only [Option.some.injEq, Prod.mk.injEq] at h
    obtain ⟨rfl, rfl, rfl⟩ := h
    exact ⟨h1, h2, h3, h5⟩
   ·cases h
  ·cases h
 ·cases h
theorem fixGo_spec {D : List Nat} {g : Nat -> AV} {i : Nat} {o : Oper} {ps : List Cd} {a : AV} : ∀ {n : Nat}, fixGo P all D g n = some (i, o, ps, a) -> fixN P all D g i = some (o, ps, a)
 | 0, h => by cases h
 | n + 1, h => by
   unfold fixGo at h
   split at h
   ·rename_i o' ps' a' h1
    simp only [Option.some.injEq, Prod.mk.injEq] at h
    obtain ⟨rfl, rfl, rfl, rfl⟩ := h
    exact h1
   ·exact fixGo_spec h
theorem spGo_spec {D : List Nat} {g : Nat -> AV} {d : Nat} {c : Bool} : ∀ {n : Nat}, spGo all D g n = some (d, c) -> g d = .sb c
 | 0, h => by cases h
 | n + 1, h => by
   unfold spGo at h
   split at h
   ·rename_i x h1
    injection h with h; subst h
    unfold spN at h1
    split at h1
    ·split at h1
     ·split at h1
      ·split at h1
       ·rename_i hg
        injection h1 with h1; injection h1 with e1 e2; subst e1 e2
        exact hg
       ·cases h1
      ·cases h1
     ·cases h1
    ·cases h1
   ·exact spGo_spec h
section
variable {F : Fence} {n : Nat} {Q : Exit -> Act -> World -> Prop} {J : World -> Prop}
theorem wpOpIn_k {i : Nat} {oi : Oper} {a0 : Act} (hi : all.toArray[i]? = some oi) (hw : Region.wanted oi (yielded all.toArray a0.tmps) = false) {K : Act -> World -> Prop} {a : Act} {w : World} (hF : ∀ f, F.fn f) (hE : SameAt all.toArray oi a0 a) (h : K (a.put oi.dst undef) w) :
  wpOpIn F n P all.toArray Q i K a w := by
 unfold wpOpIn
 simp only [hi]
 rw [hE.wanted, hw]
 simp only [Bool.false_eq_true, if_false]
 exact ⟨fun f _ => hF f, h⟩
theorem s_firstG {I : Act -> World -> Prop} {i : Nat} {oi : Oper} {a0 : Act} {v : Value} (hop : ∀ {K : Act -> World -> Prop} {a : Act} {w : World}, SameAt all.toArray oi a0 a -> J w -> K (a.put oi.dst v) w -> wpOpIn F n P all.toArray Q i K a w)
  (hsel : ∀ (j : Nat) (o : Oper) cs b, all.toArray[j]? = some o -> o.op ≠ .select cs b) (hQ : ∀ c a w, ¬ Q (.panic c) a w) (hI : ∀ a w, I (a.put oi.dst v) w -> I a w) :
  ∀ (fuel : Nat) (listed : Array Bool) (a : Act) (w : World),
    (∀ j oj, all.toArray[j]? = some oj -> j ≠ i -> listed.getD j true = false -> (∀ e ∈ oj.after, Region.binds .any e = true -> e.on ≠ i) -> oi.apart all.toArray oj = true) ->
    i ∈ Region.ready .any all.toArray listed -> SameAt all.toArray oi a0 a -> I (a.put oi.dst v) w -> J w ->
    wpAnyI (fun a w => I a w /\ J w) F n P all.toArray Q fuel (listed.setIfInBounds i true) (a.put oi.dst v) w -> wpAnyI I F n P all.toArray Q (fuel + 1) listed a w := by
 intro fuel
 induction fuel with
 | zero =>
   intro listed a w _ hr hE hIp hJ H
   refine ⟨fun h => (by rw [h] at hr; cases hr), fun j hj => ?_⟩
   by_cases hji : j = i
   ·subst hji; exact hop hE hJ ⟨hIp, wpAnyI_mono (fun _ _ h => h.1) _ _ _ _ H⟩
   ·have := ready_mono hj hji
    rw [H.1] at this
    cases this
 | succ fuel ih =>
   intro listed a w hfree hr hE hIp hJ H
   refine ⟨fun h => (by rw [h] at hr; cases hr), fun j hj => ?_⟩
   by_cases hji : j = i
   ·subst hji; exact hop hE hJ ⟨hIp, wpAnyI_mono (fun _ _ h => h.1) _ _ _ _ H⟩
   ·have h1 := H.2 j (ready_mono hj hji)
    obtain ⟨hjun, oj, hoj, hall⟩ := Go.mem_ready.1 hj
    have hnot : ∀ e ∈ oj.after, Region.binds .any e = true -> e.on ≠ i := fun e he hb heq => by
     have h1 := hall e he hb
     have h0 := (Go.mem_ready.1 hr).1
     rw [heq] at h1
     rcases Nat.lt_or_ge i listed.size with h' | h'
     ·simp [h'] at h0 h1; rw [h0] at h1; cases h1
     ·simp [Array.getElem?_eq_none h'] at h1
    have h2 := opIn_s (a0 := a0) (v := v) hoj (hfree j oj hoj hji hjun hnot) (fun cs b => hsel j oj cs b hoj) hQ hE h1
    have hfree' : ∀ k ok, all.toArray[k]? = some ok -> k ≠ i -> (listed.setIfInBounds j true).getD k true = false ->
      (∀ e ∈ ok.after, Region.binds .any e = true -> e.on ≠ i) -> oi.apart all.toArray ok = true := fun k ok hk hki hun hno => by
     refine hfree k ok hk hki ?_ hno
     by_cases hjk : j = k
     ·subst hjk; exact hjun
     ·rw [getD_set_ne true hjk] at hun; exact hun
    refine wpOpIn_mono (fun a' w' h3 => ⟨hI _ _ h3.2.1.1, ih (listed.setIfInBounds j true) a' w' hfree' (ready_mono hr (Ne.symm hji)) h3.1 h3.2.1.1 h3.2.1.2 ?_⟩) h2
    rw [Array.setIfInBounds_comm _ _ hji]
    exact h3.2.2
end
theorem any_sat (hS : SumsOK P S) (hsel : ∀ o ∈ all, ∀ cs b, o.op ≠ .select cs b) (hback : Back all) {R : AV -> Heap -> Prop} {K : List AV -> Heap -> VC} {Q : Exit -> Act -> World -> Prop} {ds : Act -> Prop} (hput : PutOK all ds) {ro : Option Nat} {rm : Nat} (hQ : ∀ c a w, ¬ Q (.panic c) a w) :
  ∀ (f fuel : Nat) (I : Act -> World -> Prop) (D : List Nat) (A : Array Bool) (fr : List AV) (hp : Heap) (C : Cx) (w : World) (act : Act), IP all I -> (∀ k, Lst A k ↔ k ∈ D) -> A.size = all.length -> Closed all (Lst A) -> unl (fun i => A.getD i false) all.length <= fuel ->
    S.lo <= hp.length -> HR C hp w -> FR [] C w fr act.tmps -> (runAny P S all f D fr hp K).sat R -> ds act -> GoalI I P S R K Q C w ds -> wpAnyI I (fen ro) rm P all.toArray Q fuel A act w := by
 intro f
 induction f with
 | zero => intro fuel I D A fr hp C w act _ _ _ _ _ _ _ _ h; exact h.elim
 | succ f ih =>
   intro fuel I D A fr hp C w act hIP hD hsize hclosed hfu hlo hH hF h hds hgoal
   have hrd : ∀ i, i ∈ Region.ready .any all.toArray A -> i ∈ rdyL all D all.length := fun i hi => by
    obtain ⟨o, h1, h2, h3, _⟩ := ready_facts hsize hclosed hi
    exact rdyL_mem.2 ⟨(List.getElem?_eq_some_iff.1 h1).1, rdyN_spec.2 ⟨fun hm => h2 ((hD i).2 hm), o, h1, fun e he hb => (hD _).1 (h3 e he hb)⟩⟩
   have hdr : ∀ i, rdyN all D i = true -> i ∈ Region.ready .any all.toArray A := fun i hi => by
    obtain ⟨h1, o, h2, h3⟩ := rdyN_spec.1 hi
    have hlt := (List.getElem?_eq_some_iff.1 h2).1
    have hn : ¬ Lst A i := fun hl => h1 ((hD i).1 hl)
    refine mem_ready h2 ?_ fun e he hb => (hD _).2 (h3 e he hb)
    rw [getD_tf (by rw [hsize]; exact hlt)]
    simpa [Lst] using hn
   have hpos : ∀ i, rdyN all D i = true -> ∃ fuel', fuel = fuel' + 1 := fun i hi => by
    cases fuel with
    | succ k => exact ⟨k, rfl⟩
    | zero =>
      exfalso
      obtain ⟨h1, o, h2, h3⟩ := rdyN_spec.1 hi
      have hz : unl (fun i => A.getD i false) all.length = 0 := by omega
      exact h1 ((hD i).1 (unl_zero hz i (List.getElem?_eq_some_iff.1 h2).1))
   unfold runAny at h
   split at h
   ·-- one that yields one value
    rename_i i o ps a hfx
    obtain ⟨hps, h⟩ := needs_sat h
    obtain ⟨hry, ho, hfv, hap⟩ := fixN_spec (fixGo_spec hfx)
    obtain ⟨fuel, rfl⟩ := hpos i hry
    have hir := hdr i hry
    obtain ⟨o', ho', hnl, hpre, hLst, hclosed', hfu1, hsz⟩ := ready_facts hsize hclosed hir
    rw [ho] at ho'; injection ho' with ho'; subst ho'
    rw [setK_eq] at h
    have hao : all.toArray[i]? = some o := by simpa using ho
    obtain ⟨v, hv, hop⟩ : ∃ v, RelG [] C w a v /\ ∀ {K : Act -> World -> Prop} {a : Act} {w1 : World}, SameAt all.toArray o act a -> Imm C w w1 -> K (a.put o.dst v) w1 -> wpOpIn (fen ro) rm P all.toArray Q i K a w1 := by
     unfold fixV at hfv
     split at hfv
     ·rename_i hwn
      split at hfv
      ·rename_i ps' a' hfr
       simp only [Option.some.injEq, Prod.mk.injEq] at hfv
       obtain ⟨rfl, rfl⟩ := hfv
       have hrho : ∀ x, Rel C w (evM ((tmpsO (opnds o.op)).map fun t => (t, unGd [] (getL fr t))) x) (act.eval x) := fun x => evM_ops (T := []) (fun t _ => hF.get t) x
       obtain ⟨v, hv, hdf, hsl, hrun⟩ := frVal_ok hH.ilt hrho (fun v => rfl) hfr hps
       have hwt : Region.wanted o (yielded all.toArray act.tmps) = true := wanted_eq (wantN_spec hwn) fun d _ => hF.get d
       have hfix : Fix P (Imm C w) all.toArray o act v := ⟨hdf, hsl, hwt, hrun⟩
       exact ⟨v, .plain (rel_noGd hv) (notGd_noGd _), fun hE hJ hk => wpOpIn_s hao hfix (fun f => trivial) hE hJ hk⟩
      ·cases hfv
     ·rename_i hwn
      simp only [Option.some.injEq, Prod.mk.injEq] at hfv
      obtain ⟨rfl, rfl⟩ := hfv
      have hwt : Region.wanted o (yielded all.toArray act.tmps) = false := wanted_eq (wantN_spec hwn) fun d _ => hF.get d
      exact ⟨undef, .plain (.tup _ _ .nil) trivial, fun hE _ hk => wpOpIn_k hao hwt (fun f => trivial) hE hk⟩
     ·cases hfv
    have hds' := hput o (List.mem_of_getElem? ho) act v hds
    refine s_firstG (I := I) (J := Imm C w) (a0 := act) (v := v) hop (fun k o' cs b hk => hsel o' (List.mem_of_getElem? (by simpa using hk)) cs b) hQ (fun a' w' h => hIP o (List.mem_of_getElem? ho) a' v w' h) fuel A act w
     (fun k ok hk hne hun hno => ?_) hir (fun t _ => rfl) (hgoal.2 _ _ _ (.refl _ _ _) hds') (fun _ _ => rfl) ?_
    ·have hk' : all[k]? = some ok := by simpa using hk
     have hlt := (List.getElem?_eq_some_iff.1 hk').1
     have h5 := allLt_spec hap k hlt
     simp only [hk', Bool.or_eq_true, List.any_eq_true, Bool.and_eq_true, memN_iff] at h5
     rcases h5 with ((h5 | h5) | ⟨e, h5, h6, h7⟩) | h5
     ·exact absurd (Nat.eq_of_beq_eq_true h5) hne
     ·have := (hD k).2 h5
      rw [getD_tf (by rw [hsize]; exact hlt)] at hun
      unfold Lst at this
      rw [hun] at this; cases this
     ·exact absurd (Nat.eq_of_beq_eq_true h7) (hno e (by simpa using h5) h6)
     ·exact h5
    ·refine ih fuel (fun a' w' => I a' w' /\ Imm C w w') (i :: D) _ (setO fr o.dst a) hp C w _ (fun o' ho' a' v' w' h => ⟨hIP o' ho' a' v' w' h.1, h.2⟩) (fun k => ?_) hsz hclosed' (hfu1 fuel hfu) hlo hH (hF.put hv _) h hds'
      ⟨hgoal.1, fun C2 w2 act2 t h => ⟨hgoal.2 _ _ _ t h, fun b hb => Imm.tr hH t b hb⟩⟩
     rw [hLst, hD, List.mem_cons]; exact ⟨fun h => h.symm, fun h => h.symm⟩
   ·rename_i hnf
    split at h
    ·-- a guard, both ways
     rename_i d c hsp
     have hg := spGo_spec hsp
     have hd := (hF.get d).1
     rw [hg] at hd
     have hvt : act.tmps.getD d undef = .bool c := by generalize act.tmps.getD d undef = u at hd; cases hd; rfl
     have hkn : FR [] C w (setL fr d (.lb c)) act.tmps := ⟨by rw [len_setL]; exact hF.len, fun t => by
      rw [getL_set]
      split
      ·rename_i e
       rw [e.1, hvt]
       exact .plain (.lb _) trivial
      ·exact hF.get t⟩
     cases c with
     | true =>
       have h1 := h.1 rfl
       rw [setF_eq] at h1
       exact ih fuel I D A _ hp C w act hIP hD hsize hclosed hfu hlo hH hkn h1 hds hgoal
     | false =>
       have h1 := h.2 rfl
       rw [setF_eq] at h1
       exact ih fuel I D A _ hp C w act hIP hD hsize hclosed hfu hlo hH hkn h1 hds hgoal
    ·-- each in its turn
     split at h
     ·rename_i hnil
      rw [cleanF_eq] at h
      have hq : Q .normal act w := hgoal.1 _ _ C w act h hlo hH hF.clean (.refl _ _ _) hds
      have hno : ∀ i, ¬ i ∈ Region.ready .any all.toArray A := fun i hi => by
       have := hrd i hi
       rw [hnil] at this; cases this
      cases fuel with
      | zero => exact ⟨List.eq_nil_iff_forall_not_mem.2 hno, hq⟩
      | succ fuel => exact ⟨fun _ => hq, fun i hi => (hno i hi).elim⟩
     ·rename_i i0 l0 hl0
      have hr0 := (rdyL_mem.1 (show i0 ∈ rdyL all D all.length by rw [hl0]; simp)).2
      obtain ⟨fuel, rfl⟩ := hpos i0 hr0
      refine ⟨fun hr => ?_, fun i hir => ?_⟩
      ·have := hdr i0 hr0
       rw [hr] at this; cases this
      ·have hh := allOrd_sat h i (by have := hrd i hir; rwa [hl0] at this)
       obtain ⟨o, ho, hnl, hpre, hLst, hclosed', hfu1, hsz⟩ := ready_facts hsize hclosed hir
       simp only [ho] at hh
       have hao : all.toArray[i]? = some o := by simpa using ho
       unfold wpOpIn
       simp only [hao]
       split at hh
       ·rename_i hwn
        have hwt : Region.wanted o (yielded all.toArray act.tmps) = true := wanted_eq (wantN_spec hwn) fun d _ => hF.get d
        rw [hwt]
        simp only [if_true]
        have hfu' := hfu1 fuel hfu
        have hDk : ∀ k, Lst (A.setIfInBounds i true) k ↔ k ∈ i :: D := fun k => by rw [hLst, hD, List.mem_cons]; exact ⟨fun h => h.symm, fun h => h.symm⟩
        rcases runOp_sat hS (T := []) (ctx := none) trivial hh with ⟨b, new, h1, h2⟩ | ⟨_, _, htu, ρ, hρ, fr', hp', a, h1, h2⟩
        ·have hst : StepOK P all [] [] o fr hp ⟨none, false, b, new⟩ := ⟨.refl _, wantN_spec hwn, fun _ => ⟨h1, trivial⟩, fun h => by cases h⟩
         have hfree := hH.free new
         rcases run_info hst (.refl _) (act := act) (hH.ext new) (fun i hi => getB_append _ _ _ hi) hfree (fun x _ => evG_rel x fun t _ => hF.get t) (fun d _ => hF.get d) with ⟨_, hr⟩ | ⟨hw, _⟩
         ·refine Ran.wpIn (hr.mono fun v w' ⟨C', k1, k2, k3⟩ => ?_)
          have hx := k3.cext hfree.none hH.ilt
          have htr : Tr S.lo C w C' w' := k3.tr hlo
          have hds' := hput o (List.mem_of_getElem? ho) act v hds
          exact ⟨hgoal.2 _ _ _ htr hds', ih fuel I (i :: D) _ _ _ C' w' _ hIP hDk hsz hclosed' hfu' (by simp; omega) k1 ((hF.mono hx).put k2 _) h2 hds' (hgoal.step htr)⟩
         ·rw [hwt] at hw; cases hw
        ·refine Ran.wpIn ((exec_big hS o htu hρ hH hF hlo h1).mono fun v w' ⟨C', k1, k2, k3, k4⟩ => ?_)
         have hds' := hput o (List.mem_of_getElem? ho) act v hds
         exact ⟨hgoal.2 _ _ _ k4 hds', ih fuel I (i :: D) _ _ _ C' w' _ hIP hDk hsz hclosed' hfu' (Nat.le_trans hlo h1.len) k1 (k3.put (.plain (rel_noGd k2) (notGd_noGd _)) _) h2 hds' (hgoal.step k4)⟩
       ·exact hh.elim
theorem giveI_sat {R : AV -> Heap -> Prop} {lo id : Nat} {I : List (Nat × List (Nat × TypeId × Nat) × (List AV -> Heap -> Ann))} {fr : List AV} {hp : Heap} {C : Cx} {K : List AV -> Heap -> VC} {tm : Array Value} (h : (giveI I lo id fr hp K).sat R) (hlo : lo <= hp.length) (hH : HR C hp w) (hF : FR [] C w fr tm) :
  ∃ fr' hp' C', (K fr' hp').sat R /\ lo <= hp'.length /\ HR C' hp' w /\ FR [] C' w fr' tm /\ Tr lo C w C' w := by
 unfold giveI at h
 split at h
 ·exact ⟨fr, hp, C, h, hlo, hH, hF, .refl _ _ _⟩
 ·exact giveK_sat h hlo hH hF
theorem region_each (hS : SumsOK P S) {ro : Option Nat} {rm : Nat} (hm : P.follows .mixedOrders = true) {id : Nat} {ops : Array Oper} (hsel : (ops.toList.all fun o => !(isSelO o.op)) = true) (hback : Back ops.toList) {R : AV -> Heap -> Prop} {K : List AV -> Heap -> VC} {Q : Exit -> Act -> World -> Prop} {fr : List AV} {act : Act}
  (hlo : S.lo <= hp.length) (hH : HR C hp w) (hF : FR [] C w fr act.tmps) (h : (runAny P S ops.toList (2 * ops.toList.length + 1) [] fr hp K).sat R) {ds : Act -> Prop} (hput : PutOK ops.toList ds) (hds : ds act) (hgoal : Goal P S R K Q C w ds) : (Code.region id ops true).wpIn (fen ro) rm P Q act w := by
 refine Go.wpIn_mono (Q := fun e a w => (∀ c, e ≠ .panic c) /\ Q e a w) ?_ fun e a w h => h.2
 apply wpIn_region_any hm
 have hsz : (Array.replicate ops.size false).size = ops.toList.length := by simp
 have hno : ∀ i, ¬ Lst (Array.replicate ops.size false) i := fun i h => by
  unfold Lst at h
  rw [Array.getD_eq_getD_getElem?, Array.getElem?_replicate] at h
  split at h <;> simp at h
 have hH1 : HR C hp { w with drawn := w.drawn + 1 } := HR.same (w := w) rfl hH
 have hF1 : FR [] C { w with drawn := w.drawn + 1 } fr act.tmps := FR.mono (w := w) (w' := { w with drawn := w.drawn + 1 }) (.same rfl) hF
 have hunl : ∀ n, unl (fun i => (Array.replicate ops.size false).getD i false) n <= n := fun n => by
  induction n with
  | zero => exact Nat.le_refl _
  | succ n ih => simp only [unl]; split <;> omega
 have hsel' : ∀ o ∈ ops.toList, ∀ cs b, o.op ≠ .select cs b := fun o ho cs b hc => by
  have := List.all_eq_true.1 hsel o ho
  rw [hc] at this; simp [isSelO] at this
 have := wpAnyI_any _ _ _ _ <| any_sat (Q := fun e a w => (∀ c, e ≠ .panic c) /\ Q e a w) hS hsel' hback hput (ro := ro) (rm := rm) (fun c a w h => h.1 c rfl) _ ops.size (fun _ _ => True) [] (Array.replicate ops.size false) fr hp C { w with drawn := w.drawn + 1 } act (fun _ _ _ _ _ _ => trivial)
  (fun k => ⟨fun h => (hno k h).elim, fun h => by cases h⟩) hsz (fun i o _ hl => (hno i hl).elim) (by have := hunl ops.toList.length; simpa using this) hlo hH1 hF1 h hds (Goal.any fun fr' hp' C' w' act' h1 h2 h3 h4 h5 h6 => ⟨fun c h => by (cases h), (hgoal.step (.draw _ _ _ _)) fr' hp' C' w' act' h1 h2 h3 h4 h5 h6⟩)
 simpa using this
end
end Abs
end Go.Proofs.Ytdfdjlijghjdaaa

namespace Go.Proofs.Ytdfdjlijghjdaaa
namespace Abs
open Go Go.RowKit
def exitOf : AE -> Exit
 | .normal => .normal
 | .exit id => .exit id
 | .ret => .ret
section
variable {P : Program} {S : Sums} {C C' : Cx} {w w' : World} {H hp : Heap}
def GoalE (S : Sums) (R : AV -> Heap -> Prop) (Qv : AE -> List AV -> Heap -> VC) (Q : Exit -> Act -> World -> Prop) (C : Cx) (w : World) (act : Act) (W : Nat) : Prop :=
 ∀ (e : AE) (fr' : List AV) (hp' : Heap) (C' : Cx) (w' : World) (act' : Act), (Qv e fr' hp').sat R -> S.lo <= hp'.length -> HR C' hp' w' -> FR [] C' w' fr' act'.tmps -> Tr S.lo C w C' w' -> Kept W act w act' w' -> Q (exitOf e) act' w'
theorem GoalE.step {R : AV -> Heap -> Prop} {Qv : AE -> List AV -> Heap -> VC} {Q : Exit -> Act -> World -> Prop} {act act' : Act} {W : Nat} (g : GoalE S R Qv Q C w act W) (t : Tr S.lo C w C' w') (k : Kept W act w act' w') (hH : HR C' hp w') : GoalE S R Qv Q C' w' act' W :=
 fun e fr' hp' C'' w'' act'' h1 h2 h3 h4 h5 h6 => g e fr' hp' C'' w'' act'' h1 h2 h3 h4 (t.trans h5) (k.trans h6 t.size fun _ _ hi ho => h5.others hH hi ho)
theorem GoalE.sub {R : AV -> Heap -> Prop} {Qv : AE -> List AV -> Heap -> VC} {Q : Exit -> Act -> World -> Prop} {act : Act} {W W' : Nat} (g : GoalE S R Qv Q C w act W) (h : ∀ t, Nat.testBit W t = false -> Nat.testBit W' t = false) : GoalE S R Qv Q C w act W' :=
 fun e fr' hp' C' w' act' h1 h2 h3 h4 h5 h6 => g e fr' hp' C' w' act' h1 h2 h3 h4 h5 (h6.sub h)
theorem FR.known {fr : List AV} {tm : Array Value} (h : FR [] C w fr tm) {d : Nat} {a : AV} (ha : RelG [] C w a (tm.getD d undef)) : FR [] C w (setL fr d a) tm :=
 ⟨by rw [len_setL]; exact h.len, fun t => by
  rw [getL_set]
  split
  ·rename_i hc; rw [hc.1]; exact ha
  ·exact h.get t⟩
def Snd (P : Program) (S : Sums) (U : Nat) (I : Anns) (c : Code) : Prop :=
 ∀ (ro : Option Nat) (rm : Nat) (R : AV -> Heap -> Prop) (fr : List AV) (hp : Heap) (Qv : AE -> List AV -> Heap -> VC) (C : Cx) (w : World) (act : Act) (Q : Exit -> Act -> World -> Prop), S.lo <= hp.length -> HR C hp w -> FR [] C w fr act.tmps -> RO ro w ->
   (wpA P S U I c fr hp Qv).sat R -> GoalE S R Qv Q C w act (mskC c) -> c.wpIn (fen ro) rm P Q act w
theorem snd_iter {ro : Option Nat} {rm : Nat} {U : Nat} {I : Anns} {c : Code} (hc : Snd P S U I c) {R : AV -> Heap -> Prop} {fr : List AV} {Qv : AE -> List AV -> Heap -> VC} {act : Act} {Q : Exit -> Act -> World -> Prop} (n : Nat)
  (hlo : S.lo <= hp.length) (hH : HR C hp w) (hF : FR [] C w fr act.tmps) (hro : RO ro w) (h : (iterL (wpA P S U I c) n fr hp Qv).sat R) (hgoal : GoalE S R Qv Q C w act (mskC c)) : (Code.loop c).wpIn (fen ro) rm P Q act w := by
 refine wpIn_loop_ghost (fun k a w1 => ∃ fr hp C1, S.lo <= hp.length /\ HR C1 hp w1 /\ FR [] C1 w1 fr a.tmps /\ RO ro w1 /\ (iterL (wpA P S U I c) k fr hp Qv).sat R /\ Tr S.lo C w C1 w1 /\ Kept (mskC c) act w a w1) n
  ⟨fr, hp, C, hlo, hH, hF, hro, h, .refl _ _ _, .refl _ _ _ _⟩ ?_
 rintro k a w1 ⟨fr, hp, C1, hlo, hH, hF, hro, h, ht, hk⟩
 cases k with
 | zero => exact h.elim
 | succ k =>
   refine hc ro rm R fr hp _ C1 w1 a _ hlo hH hF hro h ?_
   intro e fr' hp' C' w' act' h1 h2 h3 h4 h5 h6
   have hk' := hk.trans h6 ht.size fun _ _ hi ho => h5.others hH hi ho
   cases e with
   | normal => exact ⟨k, by omega, fr', hp', C', h2, h3, h4, hro.tr h5 hH, h1, ht.trans h5, hk'⟩
   | exit id => exact hgoal (.exit id) fr' hp' C' w' act' h1 h2 h3 h4 (ht.trans h5) hk'
   | ret => exact hgoal .ret fr' hp' C' w' act' h1 h2 h3 h4 (ht.trans h5) hk'
theorem leLW_sat {R : AV -> Heap -> Prop} {lo : Nat} {src : Heap} {f : AV -> AV -> VC -> VC} (hf : ∀ a b k k', (k.sat R -> k'.sat R) -> (f a b k).sat R -> (leA lo src hp a b k').sat R) :
  ∀ (m l : List AV) (k k' : VC), (k.sat R -> k'.sat R) -> (leLW f l m k).sat R -> (leL lo src hp l m k').sat R
 | [], [], k, k', hk, h => by unfold leL; exact hk h
 | [], _ :: _, k, k', hk, h => h.elim
 | b :: m, [], k, k', hk, h => h.elim
 | b :: m, a :: l, k, k', hk, h => by
   unfold leL
   exact hf a b _ _ (leLW_sat hf m l k k' hk) h
theorem leAF_sat {R : AV -> Heap -> Prop} {lo : Nat} {src : Heap} : ∀ (d : Nat) (a b : AV) (k k' : VC), (k.sat R -> k'.sat R) -> (leAF d lo src hp a b k).sat R -> (leA lo src hp a b k').sat R := by
 intro d
 induction d with
 | zero => intro a b k k' _ h; exact h.elim
 | succ d ih =>
   intro a b k k' hk h
   have hl := leLW_sat (hp := hp) (R := R) (lo := lo) (src := src) ih
   unfold leAF at h
   cases b <;> simp only at h <;> unfold leA
   all_goals repeat' (first | exact h.elim | exact hk h | exact ⟨h.1, hk h.2⟩ | exact ⟨h.1, h.2.1, hk h.2.2⟩ | exact hl _ _ _ _ hk h | exact hl _ _ _ _ (fun h => hl _ _ _ _ hk h) h | (split at h <;> first | exact h.elim | (rename_i e; rw [e]) | skip))
theorem leBF_sat {R : AV -> Heap -> Prop} {lo n : Nat} {src : Heap} {a b : Blk} {k k' : VC} (hk : k.sat R -> k'.sat R) (h : (leBF lo n src hp a b k).sat R) : (leB lo n src hp a b k').sat R := by
 unfold leBF at h
 unfold leB
 cases b <;> simp only at h ⊢
 ·cases hb : Nat.ble lo n <;> rw [hb] at h
  ·cases a <;> first | exact hk h | exact h.elim
  ·exact hk h
 ·split at h
  ·split at h
   ·exact leLW_sat (leAF_sat 6) _ _ _ _ hk h
   ·exact h.elim
  ·exact h.elim
 ·split at h
  ·split at h
   ·exact ⟨h.1, h.2.1, hk h.2.2⟩
   ·exact h.elim
  ·exact h.elim
 ·split at h
  ·split at h
   ·exact ⟨h.1, h.2.1, hk h.2.2⟩
   ·exact h.elim
  ·exact h.elim
 ·split at h
  ·split at h
   ·exact ⟨h.1, h.2.1, hk h.2.2⟩
   ·split at h
    ·exact ⟨h.1, h.2.1, h.2.2.1, hk h.2.2.2⟩
    ·split at h
     ·exact ⟨h.1, h.2.1, h.2.2.1, hk h.2.2.2⟩
     ·exact h.elim
    ·exact h.elim
   ·exact h.elim
  ·exact h.elim
 ·split at h
  ·split at h
   ·exact ⟨h.1, h.2.1, hk h.2.2⟩
   ·exact h.elim
  ·exact h.elim
theorem leHF_sat {R : AV -> Heap -> Prop} {lo : Nat} {src : Heap} : ∀ (n : Nat) (l m : Heap) (k k' : VC), (k.sat R -> k'.sat R) -> (leHF lo src hp n l m k).sat R -> (leH lo src hp n l m k').sat R
 | n, [], [], k, k', hk, h => by unfold leHF at h; unfold leH; exact hk h
 | n, _ :: _, [], k, k', hk, h => by
   unfold leHF at h; unfold leH
   cases hb : Nat.ble lo n <;> rw [hb] at h
   ·exact h.elim
   ·exact hk h
 | n, a :: l, b :: m, k, k', hk, h => by
   unfold leHF at h; unfold leH
   exact leBF_sat (leHF_sat (n + 1) l m k k' hk) h
 | n, [], _ :: _, k, k', hk, h => by unfold leHF at h; exact h.elim
theorem leSF_sat {R : AV -> Heap -> Prop} {lo : Nat} {fr : List AV} {s : AS} (h : (leSF lo fr hp s).sat R) : (leS lo fr hp s).sat R :=
 leLW_sat (leAF_sat 6) _ _ _ _ (leHF_sat 0 _ _ _ _ id) h
theorem swN_swN (i j k : Nat) : swN i j (swN i j k) = k := by
 unfold swN
 have e : ∀ a b : Nat, Nat.beq a b = decide (a = b) := fun a b => by
  cases h : Nat.beq a b with
  | true => simp [Nat.eq_of_beq_eq_true h]
  | false =>
    have : a ≠ b := fun e => by subst e; simp at h
    simp [this]
 simp only [e]
 by_cases h1 : k = i
 ·subst h1
  simp only [decide_true]
  by_cases h2 : j = k
  ·subst h2; simp
  ·simp [h2]
 ·by_cases h2 : k = j
  ·subst h2; simp [h1]
  ·simp [h1, h2]
def Cx.sw (C : Cx) (i j : Nat) : Cx := ⟨fun k => C.ρ (swN i j k), C.I, C.O⟩
theorem sw_rel {i j : Nat} {a : AV} {v : Value} (h : Rel C w a v) : Rel (C.sw i j) w (swA i j a) v := by
 have hs : ∀ k, (C.sw i j).ρ (swN i j k) = C.ρ k := fun k => by show C.ρ (swN i j (swN i j k)) = _; rw [swN_swN]
 refine Rel.rec (C := C) (w := w) (motive_1 := fun a v _ => Rel (C.sw i j) w (swA i j a) v) (motive_2 := fun l vs _ => RelL (C.sw i j) w (swA.swL i j l) vs)
  ?_ ?_ ?_ ?_ ?_ ?_ ?_ ?_ ?_ ?_ ?_ ?_ ?_ ?_ ?_ ?_ ?_ ?_ ?_ ?_ ?_ h
 ·exact fun v => .top v
 ·exact fun k a v => .gd k _ v
 ·exact fun k n => .li k n
 ·exact fun k n => .si k n
 ·exact fun b => .lb b
 ·exact fun b => .sb b
 ·exact fun x => .v x
 ·exact fun l vs _ h => .agg _ vs h
 ·exact fun l vs _ h => .tup _ vs h
 ·exact fun k off b c n h => .own _ off b c n (by rw [hs]; exact h)
 ·exact fun k sz q off b c n h hk => .elt _ sz q off b c n (by rw [hs]; exact h) hk
 ·exact fun k b c n h => .row _ b c n (by rw [hs]; exact h)
 ·exact fun k n sz b c m h => .lsl _ n sz b c m (by rw [hs]; exact h)
 ·exact fun k h => .rown _ (by rw [hs]; exact h)
 ·exact fun n sz el A cap vs hcap hA hr hl hn _ => Rel.still (C := C) (C' := C.sw i j) (w' := w) (fun _ h => h) (fun _ _ => rfl) (.slc n sz el A cap vs hcap hA hr hl hn) rfl
 ·exact fun l ad vs hr hI hc hn _ => Rel.still (C := C) (C' := C.sw i j) (w' := w) (fun _ h => h) (fun _ _ => rfl) (.xp l ad vs hr hI hc hn) rfl
 ·exact fun f l m vs ws _ _ h h' => .fn f _ _ vs ws h h'
 ·exact fun n sz el ad vs hI hc hr hl hn _ => Rel.still (C := C) (C' := C.sw i j) (w' := w) (fun _ h => h) (fun _ _ => rfl) (.pa n sz el ad vs hI hc hr hl hn) rfl
 ·exact fun k b c n h => .mp _ b c n (by rw [hs]; exact h)
 ·exact .nil
 ·exact fun a l v vs _ _ h h' => .cons _ _ v vs h h'
theorem sw_relL {i j : Nat} : ∀ {l : List AV} {vs : List Value}, RelL C w l vs -> RelL (C.sw i j) w (swA.swL i j l) vs
 | _, _, .nil => .nil
 | _, _, .cons _ _ _ _ h h' => .cons _ _ _ _ (sw_rel h) (sw_relL h')
theorem getB_swM (i j : Nat) : ∀ (l : Heap) (k : Nat), getB (swM i j l) k = swB i j (getB l k)
 | [], _ => rfl
 | _ :: _, 0 => rfl
 | _ :: l, k + 1 => getB_swM i j l k
theorem len_swM (i j : Nat) : ∀ l : Heap, (swM i j l).length = l.length
 | [] => rfl
 | _ :: l => by simp [swM, len_swM i j l]
theorem getB_swH {i j : Nat} (hi : i < hp.length) (hj : j < hp.length) (k : Nat) : getB (swH i j hp) k = swB i j (getB hp (swN i j k)) := by
 unfold swH
 rw [getB_set, len_setB, len_swM]
 by_cases h1 : k = j
 ·subst h1
  rw [if_pos ⟨rfl, hj⟩]
  by_cases h2 : k = i
  ·subst h2; unfold swN; rw [show Nat.beq k k = true by simp]
  ·unfold swN; rw [show Nat.beq k i = false from nb_false h2, show Nat.beq k k = true by simp]
 ·rw [if_neg (fun e => h1 e.1), getB_set, len_swM]
  by_cases h2 : k = i
  ·subst h2
   rw [if_pos ⟨rfl, hi⟩]
   unfold swN; rw [show Nat.beq k k = true by simp]
  ·rw [if_neg (fun e => h2 e.1), getB_swM]
   unfold swN; rw [show Nat.beq k i = false from nb_false h2, show Nat.beq k j = false from nb_false h1]
theorem sw_brel {i j : Nat} {p : Pl} {b : Blk} (h : BRel C w p b) : BRel (C.sw i j) w p (swB i j b) := by
 match p, b, h with
 | .at q c m, .cells ty l, h =>
   obtain ⟨vs, hr, hh⟩ := h
   exact ⟨vs, sw_relL hr, hh⟩
 | .at q c m, .row e sz k el, h =>
   obtain ⟨h1, h2, h3, cs, vs, hh, hs, hc⟩ := h
   exact ⟨h1, h2, h3, cs, vs, hh, hs, fun k hk => ⟨RelL.still (C := C) (w := w) (C' := C.sw i j) (w' := w) (fun _ h => h) (fun _ _ => rfl) (hc k hk).1 (own_ok (hc k hk).2.1), (hc k hk).2⟩⟩
 | .nil, .row e sz k el, h => exact h
 | .at q c m, .tab k sz el, h =>
   obtain ⟨es, ck, vs, hh, hs, hc⟩ := h
   exact ⟨es, ck, vs, hh, hs, fun k hk => ⟨RelL.still (C := C) (w := w) (C' := C.sw i j) (w' := w) (fun _ h => h) (fun _ _ => rfl) (hc k hk).1 (own_ok (hc k hk).2.1), (hc k hk).2⟩⟩
 | .at q c m, .mat t wd k f, h =>
   obtain ⟨h1, h2, h3, cs, hh, hs, hc⟩ := h
   exact ⟨h1, h2, h3, cs, hh, hs, fun k hk j' hj => by
    obtain ⟨ho, v, hv, hr⟩ := hc k hk j' hj
    exact ⟨ho, v, hv, Rel.still (C := C) (C' := C.sw i j) (w := w) (w' := w) (fun _ h => h) (fun _ _ => rfl) hr (own_okC ho)⟩⟩
 | .at q c m, .rows e e' sz k fz ln el ho, h =>
   have hsub : SubKeep C w (C.sw i j) w := fun b x hb => ⟨hb, rfl⟩
   have core : ∀ ho2 : Option (Nat × Option Nat), (∀ k, holeB ho2 k ↔ holeB ho k) -> (∀ k g, ho2 = some (k, some g) -> ∃ g', ho = some (k, some g') /\ g = swN i j g') -> BRel (C.sw i j) w (.at q c m) (.rows e e' sz k fz ln el ho2) := by
    intro ho2 hh1 hh2
    obtain ⟨h1, h2, h3, cs, hh, hs, hc⟩ := h
    refine ⟨h1, h2, h3, cs, hh, hs, fun k hk => ?_⟩
    obtain ⟨v, hv, hr, hn⟩ := hc k hk
    refine ⟨v, hv, fun g hg => ?_, fun hno => ?_⟩
    ·obtain ⟨g', e1, rfl⟩ := hh2 k g hg
     exact sw_rel (hr g' e1)
    ·rw [hh1] at hno
     refine ⟨fun hf => Rel.still (C := C) (C' := C.sw i j) (w := w) (w' := w) (fun _ h => h) (fun _ _ => rfl) ((hn hno).1 hf) rfl, fun hf => SubOwn.mono hsub (hx := ?_) ((hn hno).2 hf)⟩
     exact fun ok h => RelL.still (C := C) (C' := C.sw i j) (w := w) (w' := w) (fun _ h => h) (fun _ _ => rfl) h (own_ok ok)
   match ho with
   | none => exact core none (fun _ => Iff.rfl) (fun k g hg => by cases hg)
   | some (k, none) => exact core _ (fun _ => Iff.rfl) (fun k g hg => by injection hg with hg; injection hg with _ hg; cases hg)
   | some (k, some g) =>
     refine core _ (fun k' => ?_) (fun k' g' hg => ?_)
     ·unfold holeB
      constructor <;> rintro ⟨x, hx⟩ <;> injection hx with hx <;> injection hx with h1 h2 <;> exact ⟨_, by rw [h1]⟩
     ·injection hg with hg; injection hg with h1 h2; injection h2 with h2
      exact ⟨g, by rw [h1], h2.symm⟩
theorem sw_hr {i j : Nat} (hH : HR C hp w) (hi : i < hp.length) (hj : j < hp.length) : HR (C.sw i j) (swH i j hp) w := by
 refine ⟨fun k p hp' => ?_, fun k k' b c n b' c' n' h h' hne => hH.inj _ _ _ _ _ _ _ _ h h' fun e => hne ?_, fun k b c n h => hH.fresh _ _ _ _ h, hH.ilt, fun b x hb => ⟨(hH.sub b x hb).1, (hH.sub b x hb).2.1, fun k b' c n h => (hH.sub b x hb).2.2.1 _ _ _ _ h, (hH.sub b x hb).2.2.2⟩⟩
 ·rw [getB_swH hi hj]
  exact sw_brel (hH.live _ p hp')
 ·have := congrArg (swN i j) e
  rwa [swN_swN, swN_swN] at this
theorem swN_lo {i j lo k : Nat} (hi : lo <= i) (hj : lo <= j) : (k < lo -> swN i j k = k) /\ (lo <= k -> lo <= swN i j k) := by
 unfold swN
 constructor
 ·intro h
  rw [show Nat.beq k i = false from nb_false (by omega), show Nat.beq k j = false from nb_false (by omega)]
 ·intro h
  split
  ·exact hj
  ·split
   ·exact hi
   ·exact h
theorem sw_tr {i j lo : Nat} (hi : lo <= i) (hj : lo <= j) : Tr lo C w (C.sw i j) w :=
 ⟨rfl, rfl, rfl, Nat.le_refl _, fun _ _ _ _ => rfl, fun _ h => h, fun _ h => .inl h, fun k hk => by show C.ρ (swN i j k) = _; rw [(swN_lo hi hj).1 hk], fun k b c n hk h => .inl ⟨swN i j k, c, n, (swN_lo hi hj).2 hk, h⟩, fun b x hb => .inl ⟨x, hb⟩⟩
theorem getL_swL (i j : Nat) : ∀ (l : List AV) (t : Nat), getL (swA.swL i j l) t = swA i j (getL l t)
 | [], _ => rfl
 | _ :: _, 0 => rfl
 | _ :: l, t + 1 => getL_swL i j l t
theorem len_swL (i j : Nat) : ∀ l : List AV, (swA.swL i j l).length = l.length
 | [] => rfl
 | _ :: l => by simp [swA.swL, len_swL i j l]
theorem sw_fr {i j : Nat} {fr : List AV} {tm : Array Value} (h : FR [] C w fr tm) : FR [] (C.sw i j) w (swA.swL i j fr) tm := by
 refine ⟨by rw [len_swL]; exact h.len, fun t => ?_⟩
 rw [getL_swL]
 have h1 := h.get t
 refine .plain (sw_rel h1.1) ?_
 cases hx : getL fr t <;> simp [swA, notGd]
 obtain ⟨x, h2, _⟩ := h1.2 _ _ hx
 simp at h2
theorem misO_spec {lo n : Nat} : ∀ {m l : List AV} {i j : Nat}, misO lo n m l = some (i, j) -> lo <= i /\ lo <= j /\ i < n /\ j < n
 | [], _, _, _, h => by simp [misO] at h
 | b :: m, l, i, j, h => by
   unfold misO at h
   split at h
   ·cases h
   ·split at h
    ·split at h
     ·split at h
      ·exact misO_spec h
      ·split at h
       ·rename_i hc
        injection h with h; injection h with h1 h2; subst h1 h2
        simp only [Bool.and_eq_true] at hc
        obtain ⟨⟨⟨h1, h2⟩, h3⟩, h4⟩ := hc
        exact ⟨Nat.le_of_ble_eq_true h1, Nat.le_of_ble_eq_true h2, by simpa [Nat.blt_eq] using h3, by simpa [Nat.blt_eq] using h4⟩
       ·cases h
     ·exact misO_spec h
    ·exact misO_spec h
def LeOK (lo : Nat) (fr : List AV) (hp : Heap) (s : AS) : Prop := ∀ (C : Cx) (w : World), HR C hp w -> lo <= hp.length -> ∃ C2, HR C2 s.hp w /\ (∀ tm, FR [] C w fr tm -> FR [] C2 w s.fr tm) /\ lo <= s.hp.length /\ Tr lo C w C2 w
theorem swK_sat {R : AV -> Heap -> Prop} {lo : Nat} {fr : List AV} {s : AS} (h : (swK lo s.fr fr hp fun fr hp => leSF lo fr hp s).sat R) : LeOK lo fr hp s := by
 intro C w hH hlo
 unfold swK at h
 split at h
 ·exact ⟨_, leS_sat (leSF_sat h) hH hlo⟩
 ·rename_i i j hm
  obtain ⟨h1, h2, h3, h4⟩ := misO_spec hm
  rw [forceLD_eq, forceH_eq] at h
  have hlen : (swH i j hp).length = hp.length := by unfold swH; rw [len_setB, len_setB, len_swM]
  obtain ⟨g1, g2, g3, g4⟩ := leS_sat (leSF_sat h) (sw_hr (w := w) hH h3 h4) (by rw [hlen]; exact hlo)
  exact ⟨_, g1, fun tm hF => g2 tm (sw_fr hF), g3, (sw_tr h1 h2).trans g4⟩
theorem exK_sat {lo : Nat} {A : Ann} {m : Option Nat} {fr : List AV} {R : AV -> Heap -> Prop} (h : (exK lo A m fr hp).sat R) : ∃ g, A.pre g /\ (∀ n, m = some n -> A.mu g < n) /\ LeOK lo fr hp (A.st g) := by
 obtain ⟨g, h1, h2, h3⟩ := h
 simp only [forceL_eq, forceH_eq] at h3
 exact ⟨g, h1, fun n e => by subst e; exact h2, swK_sat (s := A.st g) h3⟩
theorem nilK_sat {R : AV -> Heap -> Prop} {lo : Nat} : ∀ {l : List (Nat × TypeId × Nat)} {fr : List AV} {hp : Heap} {C : Cx} {K : List AV -> Heap -> VC} {tm : Array Value}, (nilK l fr hp K).sat R -> lo <= hp.length -> HR C hp w -> FR [] C w fr tm ->
  ∃ fr' hp' C', (K fr' hp').sat R /\ lo <= hp'.length /\ HR C' hp' w /\ FR [] C' w fr' tm /\ Tr lo C w C' w
 | [], fr, hp, C, K, tm, h, hlo, hH, hF => ⟨fr, hp, C, h, hlo, hH, hF, .refl _ _ _⟩
 | (t, e, sz) :: l, fr, hp, C, K, tm, h, hlo, hH, hF => by
   unfold nilK at h
   split at h
   ·rename_i s hn
    rw [setF_eq, forceH_eq, appH_eq] at h
    have hnone : C.ρ hp.length = none := by
     cases hc : C.ρ hp.length with
     | none => rfl
     | some p => have := hH.lt hc; omega
    have h1 : HR (C.put hp.length .nil) (hp ++ [Blk.row e (s + 1) (.lit 0) (fun _ => [])]) w := by
     refine (hH.ext _).newNil hnone ?_
     rw [show getB (hp ++ [Blk.row e (s + 1) (.lit 0) (fun _ => [])]) hp.length = .row e (s + 1) (.lit 0) (fun _ => []) by rw [getB_eq]; simp]
     exact ⟨rfl, Nat.succ_pos _⟩
    have g := Grow.newNil C w hp.length
    have h2 : FR [] (C.put hp.length .nil) w fr tm := g.frame (fun i a b => (show i = hp.length by omega) ▸ hnone) hH.ilt hF
    have h3 : FR [] (C.put hp.length .nil) w (setL fr t (.row hp.length)) tm := h2.known (.plain (by
     have := (hF.get t).1
     generalize getL fr t = a at this hn
     generalize tm.getD t undef = v at this
     unfold isNilS at hn
     split at hn
     ·cases this; exact .rown _ Cx.put_eq
     ·cases hn) trivial)
    obtain ⟨fr', hp', C', h4, h5, h6, h7, h8⟩ := nilK_sat (lo := lo) (C := C.put hp.length .nil) h (by simp; omega) h1 h3
    exact ⟨fr', hp', C', h4, h5, h6, h7, (g.tr hlo).trans h8⟩
   ·obtain ⟨hp1, C1, g1, g2, g3, g4, g5⟩ := nilCK_sat h hlo hH hF
    obtain ⟨fr', hp', C', h4, h5, h6, h7, h8⟩ := nilK_sat g1 g2 g3 g4
    exact ⟨fr', hp', C', h4, h5, h6, h7, g5.trans h8⟩
   ·exact nilK_sat h hlo hH hF
theorem snd_ann {ro : Option Nat} {rm : Nat} {U : Nat} {I : Anns} {c : Code} (hc : Snd P S U I c) {A : Ann} {R : AV -> Heap -> Prop} {fr : List AV} {Qv : AE -> List AV -> Heap -> VC} {act : Act} {Q : Exit -> Act -> World -> Prop}
  (hlo : S.lo <= hp.length) (hH : HR C hp w) (hF : FR [] C w fr act.tmps) (hro : RO ro w)
  (h1 : ∃ g, A.pre g /\ LeOK S.lo fr hp (A.st g))
  (h2 : ∀ g, A.pre g -> (wpA P S U I c (A.st g).fr (A.st g).hp fun e fr' hp' => match e with
      | .normal => exK S.lo A (some (A.mu g)) fr' hp'
      | e => Qv e fr' hp').sat R) (hgoal : GoalE S R Qv Q C w act (mskC c)) : (Code.loop c).wpIn (fen ro) rm P Q act w := by
 obtain ⟨g, hg, hle⟩ := h1
 obtain ⟨C2, h3, h4, h5, h6⟩ := hle C w hH hlo
 refine wpIn_loop_ghost (fun k a w1 => ∃ g C1, A.pre g /\ A.mu g = k /\ S.lo <= (A.st g).hp.length /\ HR C1 (A.st g).hp w1 /\ FR [] C1 w1 (A.st g).fr a.tmps /\ RO ro w1 /\ Tr S.lo C w C1 w1 /\ Kept (mskC c) act w a w1) (A.mu g)
  ⟨g, _, hg, rfl, h5, h3, h4 _ hF, hro, h6, .refl _ _ _ _⟩ ?_
 rintro k a w1 ⟨g, C1, hg, rfl, hlo, hH, hF, hro, ht, hk⟩
 refine hc ro rm R _ _ _ C1 w1 a _ hlo hH hF hro (h2 g hg) ?_
 intro e fr' hp' C' w' act' h1 h2 h3 h4 h5 h6
 have hk' := hk.trans h6 ht.size fun _ _ hi ho => h5.others hH hi ho
 cases e with
 | normal =>
   obtain ⟨g', hg', hlt, hle⟩ := exK_sat h1
   have hlt := hlt _ rfl
   obtain ⟨C3, h7, h8, h9, h10⟩ := hle C' w' h3 h2
   exact ⟨A.mu g', hlt, g', _, hg', rfl, h9, h7, h8 _ h4, hro.tr h5 hH, (ht.trans h5).trans h10, hk'⟩
 | exit id => exact hgoal (.exit id) fr' hp' C' w' act' h1 h2 h3 h4 (ht.trans h5) hk'
 | ret => exact hgoal .ret fr' hp' C' w' act' h1 h2 h3 h4 (ht.trans h5) hk'
theorem exR_sat {lo i : Nat} {A : Ann} {fr : List AV} {R : AV -> Heap -> Prop} (h : (exR lo A i fr hp).sat R) : ∃ g, A.pre g /\ A.mu g = i /\ LeOK lo fr hp (A.st g) := by
 obtain ⟨g, h1, _, h2, h3⟩ := h
 simp only [forceL_eq, forceH_eq] at h3
 exact ⟨g, h1, h2, swK_sat (s := A.st g) h3⟩
def codeOf : AE -> Code
 | .exit id => .exit id
 | _ => .ret
structure Mid (P : Program) (S : Sums) (C : Cx) (w : World) (act : Act) (A : Ann) (l : Nat) (rec : Loop) (ms : List Nat) (k : Nat) (W : World) : Prop where
 ex : ∃ g C2, A.mu g = k /\ A.pre g /\ S.lo <= (A.st g).hp.length /\ HR C2 (A.st g).hp W /\ FR [] C2 W (A.st g).fr act.tmps /\ Tr S.lo C w C2 W
 lr : W.heap[l]? = some (.loop rec)
 ms : ∀ D ∈ ms, W.heap[D]? = some (.deferred (some []))
structure Gone (P : Program) (S : Sums) (R : AV -> Heap -> Prop) (Qv : AE -> List AV -> Heap -> VC) (C : Cx) (w : World) (act : Act) (l : Nat) (rec : AE -> Loop) (ms : List Nat) (W : World) : Prop where
 ex : ∃ e fr' hp' C2, e ≠ AE.normal /\ (Qv e fr' hp').sat R /\ S.lo <= hp'.length /\ HR C2 hp' W /\ FR [] C2 W fr' act.tmps /\ Tr S.lo C w C2 W /\ W.heap[l]? = some (.loop (rec e))
 ms : ∀ D ∈ ms, W.heap[D]? = some (.deferred (some []))
theorem Quiet.at {W W' : World} (q : Quiet W W') {k : Nat} {o : Obj} (h : W.heap[k]? = some o) : W'.heap[k]? = some o := (q.keep k (Array.getElem?_eq_some_iff.1 h).1).trans h
theorem Mid.quiet {act : Act} {A : Ann} {l : Nat} {rec : Loop} {ms : List Nat} {k : Nat} {W W' : World} (h : Mid P S C w act A l rec ms k W) (q : Quiet W W') : Mid P S C w act A l rec ms k W' := by
 obtain ⟨g, C2, h1, h2, h3, h4, h5, h6⟩ := h.ex
 exact ⟨⟨g, C2, h1, h2, h3, h4.cb q.cb, h5.cb q.cb, h6.quiet q⟩, q.at h.lr, fun D hD => q.at (h.ms D hD)⟩
theorem Gone.quiet {R : AV -> Heap -> Prop} {Qv : AE -> List AV -> Heap -> VC} {act : Act} {l : Nat} {rec : AE -> Loop} {ms : List Nat} {W W' : World} (h : Gone P S R Qv C w act l rec ms W) (q : Quiet W W') : Gone P S R Qv C w act l rec ms W' := by
 obtain ⟨e, fr', hp', C2, h0, h1, h2, h3, h4, h5, h6⟩ := h.ex
 exact ⟨⟨e, fr', hp', C2, h0, h1, h2, h3.cb q.cb, h4.cb q.cb, h5.quiet q, q.at h6⟩, fun D hD => q.at (h.ms D hD)⟩
def ComIt (P : Program) (S : Sums) (C : Cx) (w : World) (act : Act) (x : Items) (cap : Option (Nat × Nat × List AV)) (gf : Nat) (ws : List Value) : Prop :=
 ∀ (J Jx : Nat -> World -> Prop) (l : Nat), (∀ k W W', J k W -> Quiet W W' -> J k W') -> (∀ k W W', Jx k W -> Quiet W W' -> Jx k W') ->
   (∀ (k : Nat) (W : World), J k W -> ∃ (hpg : Heap) (frg : List AV) (C3 : Cx), HR C3 hpg W /\ FR [] C3 W frg act.tmps /\ Tr S.lo C w C3 W /\
    (∀ d gf cv, cap = some (d, gf, cv) -> ∃ caps, getL frg d = .fn (.func gf) [] caps /\ ∀ (I : Nat -> Prop) (w : World) (vs : List Value), (∀ b, I b -> b < w.heap.size) -> RelL ⟨fun _ => none, I, fun _ => none⟩ w (expVL hpg caps) vs -> RelL ⟨fun _ => none, I, fun _ => none⟩ w cv vs) /\
    (k < x.n -> (cap.isSome = true -> IntItems (x.it k)) /\ ∀ (W' : World) (I1 : Nat -> Prop) (vs : List Value), Quiet W W' -> (∀ b, I1 b -> C3.I b \/ (W.heap.size <= b /\ b < W'.heap.size)) -> RelL ⟨fun _ => none, I1, fun _ => none⟩ W' (x.it k) vs ->
     YieldAt (fen none) 0 P l ⟨vs⟩ W' fun e W'' => (∀ b, C.I b -> W''.heap[b]? = W'.heap[b]?) /\ W'.heap.size <= W''.heap.size /\ ((e = .returned (.bool true) /\ J (k + 1) W'') \/ (e = .returned (.bool false) /\ Jx k W'')))) ->
   ∀ w1, Quiet w w1 -> J 0 w1 -> CallsIn (fen none) 0 P gf ⟨.func (.yield l) #[] #[] :: ws⟩ w1 fun e W' => (∃ v, e = .returned v) /\ (J x.n W' \/ ∃ k, k < x.n /\ Jx k W')
theorem com_one {act : Act} {caps : List AV} {ws : List Value} {gf : Nat} {it : Iter} {x : Items} (hH : HR C hp w) (hws : RelL C w caps ws) (hown : ownIn.ownInL caps = false) (hiter : IterOK P gf it) (hx : it caps = some x) (hpre : ∀ p ∈ x.pre, p.ok) : ComIt P S C w act x none gf ws := by
 intro J Jx l hJ hJx hM w1 hq h0
 have hwsI : RelL (⟨fun _ => none, C.I, fun _ => none⟩ : Cx) w caps ws := RelL.change (C := C) (C' := ⟨fun _ => none, C.I, fun _ => none⟩) (fun b hb => hb) hws hown
 refine hiter caps x hx hpre ⟨fun _ => none, C.I, fun _ => none⟩ w1 ws (fun i => rfl) (fun b hb => Nat.lt_of_lt_of_le (hH.ilt b hb) hq.size) (hwsI.cb hq.cb) l J Jx hJ hJx ?_ h0
 intro k W0 W I1 vs hk hj hqw _ hI1' hvs
 obtain ⟨hpg, frg, C3, _, _, ht3, _, hy⟩ := hM k W0 hj
 exact (hy hk).2 W I1 vs hqw (fun b hb => (hI1' b hb).imp (fun h => ht3.imm b h) id) hvs
theorem com_two {act : Act} {d : Nat} {ws : List Value} {gf : Nat} {it : Iter} {x : Items} {cv : List AV} (hev : act.tmps.getD d undef = .func (.func gf) ⟨[]⟩ ⟨ws⟩) (hiter : IterOK2 P gf it) (hx : it cv = some x) (hpre : ∀ p ∈ x.pre, p.ok) : ComIt P S C w act x (some (d, gf, cv)) gf ws := by
 intro J Jx l hJ hJx hM w1 hq h0
 refine hiter cv x hx hpre ws l J Jx hJ hJx ?_ w1 h0
 intro k W hj
 obtain ⟨hpg, frg, C3, hH3, hF3, ht3, hcap, hy⟩ := hM k W hj
 obtain ⟨caps, hd, himp⟩ := hcap d gf cv rfl
 have hws : RelL C3 W caps ws := by
  have := (hF3.get d).1
  rw [hd, hev] at this
  cases this with
  | fn _ _ _ vs ws h1 h2 => exact h2
 have hb : ∀ b, (C3.I b \/ Dom C3 hpg b) -> b < W.heap.size := fun b hb => by
  rcases hb with hb | ⟨i, c, n, t, l, hi, _⟩
  ·exact hH3.ilt b hb
  ·exact (hH3.fresh _ _ _ _ hi).1
 refine ⟨fun b => C3.I b \/ Dom C3 hpg b, hb, himp _ _ _ hb (expVL_rel hH3 hws), fun hk W' I1 vs hqw hI1 hvs => ?_⟩
 have hH3' : HR C3 hpg W' := hH3.cb hqw.cb
 obtain ⟨fn, tm, ca, cb, h1, h2⟩ := (hy hk).2 W' (fun b => I1 b /\ ¬ Dom C3 hpg b) vs hqw (fun b hb => by
  rcases hI1 b hb.1 with (h | h) | h
  ·exact .inl h
  ·exact absurd h hb.2
  ·exact .inr h) (items_strip (D := Dom C3 hpg) (dom_int hH3') ((hy hk).1 rfl) hvs)
 exact ⟨fn, tm, ca, cb, h1, h2.mono fun e W'' h => h.2.2⟩
theorem capK_sat {R : AV -> Heap -> Prop} {c : Option (Nat × Nat × List AV)} {fr : List AV} {k : VC} (h : (capK c fr hp k).sat R) : k.sat R /\ ∀ d gf cv, c = some (d, gf, cv) -> ∃ caps, getL fr d = .fn (.func gf) [] caps /\
  ∀ (I : Nat -> Prop) (w : World) (vs : List Value), (∀ b, I b -> b < w.heap.size) -> RelL ⟨fun _ => none, I, fun _ => none⟩ w (expVL hp caps) vs -> RelL ⟨fun _ => none, I, fun _ => none⟩ w cv vs := by
 unfold capK at h
 cases c with
 | none => exact ⟨h, fun _ _ _ e => by cases e⟩
 | some z =>
   obtain ⟨d, gf, cv⟩ := z
   refine ⟨h.2 () trivial, fun d' gf' cv' e => ?_⟩
   injection e with e; injection e with e1 e2; injection e2 with e2 e3
   subst e1 e2 e3
   have h := h.1
   unfold capC at h
   split at h
   ·rename_i gf' caps hd
    split at h
    ·rename_i hg
     obtain rfl := Nat.eq_of_beq_eq_true hg
     rw [forceLD_eq] at h
     have h := leLW_sat (hp := []) (leAF_sat 6) _ _ _ _ id h
     obtain ⟨_, himp⟩ := leL_sat h
     refine ⟨caps, hd, fun I w vs hb hv => ?_⟩
     have hH0 : HR (⟨fun _ => none, I, fun _ => none⟩ : Cx) [] w := ⟨fun i p h => (by cases h), fun i j b c n b' c' n' h => (by cases h), fun i b c n h => (by cases h), hb, fun b x h => (by cases h)⟩
     exact ((himp _ w hH0).2 _ hv).mono ⟨fun i p hp => (by
      unfold Cx.cut at hp
      simp only at hp
      split at hp <;> cases hp), fun b hb => (by
      rcases hb with hb | ⟨i, c, n, _, hb⟩
      ·exact hb
      ·cases hb), fun _ _ => rfl⟩
    ·exact h.elim
   ·exact h.elim
set_option maxHeartbeats 800000 in
theorem snd_range (hS : SumsOK P S) {ro : Option Nat} {rm : Nat} {U : Nat} {I : Anns} {g : Operand} {ps : Array Tmp} {ca cb : Code} (hca : Snd P S U I ca) (hcb : Snd P S U I cb) {R : AV -> Heap -> Prop} {fr : List AV} {Qv : AE -> List AV -> Heap -> VC} {act : Act} {Q : Exit -> Act -> World -> Prop}
  (hlo : S.lo <= hp.length) (hH : HR C hp w) (hF : FR [] C w fr act.tmps) (hro : RO ro w) (h : (wpA P S U I (.rangeFunc g ps ca cb) fr hp Qv).sat R) (hgoal : GoalE S R Qv Q C w act 0) : (Code.rangeFunc g ps ca cb).wpIn (fen ro) rm P Q act w := by
 simp only [wpA] at h
 unfold callIt at h
 split at h
 case h_2 => exact h.elim
 rename_i d
 split at h
 case h_2 => exact h.elim
 rename_i gf caps hd
 obtain ⟨ws, hev, hws⟩ : ∃ ws, act.tmps.getD d undef = .func (.func gf) ⟨[]⟩ ⟨ws⟩ /\ RelL C w caps ws := by
  have := (hF.get d).1
  rw [hd] at this
  generalize act.tmps.getD d undef = u at this
  cases this with
  | fn _ _ _ vs ws h1 h2 => cases h1; exact ⟨ws, rfl, h2⟩
 obtain ⟨x, cap, h, ⟨fn0, hfn0, hname0, hbody0⟩, hcom⟩ : ∃ (x : Items) (cap : Option (Nat × Nat × List AV)), (match findS I (keyR ca cb) with
  | none => .fail
  | some (nils, ann) => nilK nils fr hp fun fr hp =>
    let A := ann fr hp
    .loop (A := A) A.dat (exR S.lo A 0 fr hp) fun g => forceL (A.st g).fr fun fr => forceH (A.st g).hp fun hp => capK cap fr hp (
     .branch (nlt (A.mu g) x.n)
      (capI cap (x.it (A.mu g)) (setPs ps.toList (x.it (A.mu g)) fr fun fr1 => wpA P S U I ca fr1 hp fun e fr2 hp2 => match e with
       | .normal => wpA P S U I cb fr2 hp2 fun e fr3 hp3 => topM (Nat.lor (mskP ps.toList) (Nat.lor (mskC ca) (mskC cb))) fr3 0 fun fr4 => match e with
         | .normal => exR S.lo A (nadd (A.mu g) 1) fr4 hp3
         | e => Qv e fr4 hp3
       | _ => .fail))
      (Qv .normal fr hp)) : VC).sat R /\ FnAt P gf /\ ComIt P S C w act x cap gf ws := by
  rcases itSel_sat h with ⟨it, hit, hown, hlt, h⟩ | ⟨it, hit, h⟩
  ·split at h
   case h_2 => exact h.elim
   rename_i x hx
   obtain ⟨hpre, h⟩ := needs_sat h
   obtain ⟨hiter, hfn⟩ := (hS.its _ _ hit).1 hlt
   exact ⟨x, none, h, hfn, com_one hH hws hown hiter hx hpre⟩
  ·split at h
   case h_2 => exact h.elim
   rename_i x hx
   obtain ⟨hpre, h⟩ := needs_sat h
   obtain ⟨hiter, hfn⟩ := (hS.its _ _ hit).2 gf rfl
   exact ⟨x, _, h, hfn, com_two hev hiter hx hpre⟩
 split at h
 ·exact h.elim
 rename_i nils ann _
 obtain ⟨fr, hp1, C1, h, hlo1, hH1, hF1, htr1⟩ := nilK_sat h hlo hH hF
 obtain ⟨A, hA⟩ : ∃ A, A = ann fr hp1 := ⟨_, rfl⟩
 obtain ⟨h0, h⟩ := h
 rw [<- hA] at h0
 have h : ∀ g, A.pre g -> (capK cap (A.st g).fr (A.st g).hp (VC.branch (nlt (A.mu g) x.n)
     (capI cap (x.it (A.mu g)) (setPs ps.toList (x.it (A.mu g)) (A.st g).fr fun fr1 => wpA P S U I ca fr1 (A.st g).hp fun e fr2 hp2 => match e with
      | .normal => wpA P S U I cb fr2 hp2 fun e fr3 hp3 => topM (Nat.lor (mskP ps.toList) (Nat.lor (mskC ca) (mskC cb))) fr3 0 fun fr4 => match e with
        | .normal => exR S.lo A (nadd (A.mu g) 1) fr4 hp3
        | e => Qv e fr4 hp3
      | _ => .fail))
     (Qv .normal (A.st g).fr (A.st g).hp))).sat R := by
  subst hA
  intro g hg
  have := h g hg
  simp only [forceL_eq, forceH_eq] at this
  exact this
 obtain ⟨g0, hg0, hmu0, hle0⟩ := exR_sat h0
 obtain ⟨C2, hH2, hF2, hlo2, htr2⟩ := hle0 C1 _ hH1 hlo1
 have hF2 := hF2 _ hF1
 have htr := htr1.trans htr2
 clear hle0 h0 htr2 htr1 hF1 hH1
 refine wpIn_rangeFunc ?_
 intro fn hfn
 obtain ⟨l, ms, w1, rec, henter, hq, hl, hrec0, hrecl, hms, hnd⟩ : ∃ (l : Nat) (ms : List Nat) (w1 : World) (rec : LoopState -> Option Code -> Loop), (Instr.enterLoop fn act.tmps ps ca cb ro).run P w = .ok (l, ms.map mkOf) w1 /\ Quiet w w1 /\ w.heap.size <= l /\
   (∃ D0, rec = fun st pe => { state := st, pending := pe, fn, tmps := act.tmps, params := ps, assign := ca, body := cb, defers := D0 }) /\ w1.heap[l]? = some (.loop (rec .ready none)) /\
   (∀ D ∈ ms, w.heap.size <= D /\ D ≠ l /\ w1.heap[D]? = some (.deferred (some []))) /\ ms.Nodup := by
  cases ro with
  | none =>
    refine ⟨w.heap.size + 1, [w.heap.size], _, fun st pe => { state := st, pending := pe, fn, tmps := act.tmps, params := ps, assign := ca, body := cb, defers := w.heap.size }, run_enterLoop_outer fn act.tmps ps ca cb, (Quiet.alloc _ _).trans (Quiet.alloc _ _), by omega, ⟨_, rfl⟩, ?_, fun D hD => ?_, by simp⟩
    ·have := World.alloc_heap_new (w.alloc (.deferred (some []))) (.loop { state := .ready, pending := none, fn, tmps := act.tmps, params := ps, assign := ca, body := cb, defers := w.heap.size })
     rwa [World.size_alloc] at this
    ·simp at hD; subst hD
     exact ⟨Nat.le_refl _, by omega, (Below.heap_alloc _ _ _ (by simp)).trans (World.alloc_heap_new w _)⟩
  | some l₀ =>
    obtain ⟨r₀, hr₀⟩ := hro l₀ rfl
    refine ⟨w.heap.size, [], _, fun st pe => { state := st, pending := pe, fn, tmps := act.tmps, params := ps, assign := ca, body := cb, defers := r₀.defers }, run_enterLoop_inner hr₀ fn act.tmps ps ca cb, Quiet.alloc _ _, Nat.le_refl _, ⟨_, rfl⟩, World.alloc_heap_new w _, fun D hD => by simp at hD, by simp⟩
 obtain ⟨D0, hrec⟩ := hrec0
 have hrun : ∀ (args : Array Value) (W : World), (callFunc gf args).run P W = .ok (.enter gf args) W := fun args W => run_callFunc (P := P) hfn0 hname0 hbody0 args W
 refine ⟨l, ms.map mkOf, w1, { target := .fn (.func gf) ⟨ws⟩, args := #[.func (.yield l) #[] #[]] }, w1, gf, ⟨.func (.yield l) #[] #[] :: ws⟩, w1, henter, ?_, fun _ _ => trivial, ?_, (fun (hh : (none : Option Nat).isSome = true) => by simp at hh), ?_⟩
 ·have hev' : act.eval (.tmp d) = .func (.func gf) ⟨[]⟩ ⟨ws⟩ := hev
  simp only [resolve, hev']
  simp [go_sem]
 ·have e1 : #[Value.func (.yield l) #[] #[]] ++ (⟨ws⟩ : Array Value) = ⟨.func (.yield l) #[] #[] :: ws⟩ := by apply Array.ext'; simp
  simp [invoke, go_sem, hrun, e1]
 have hinv0 : Mid P S C w act A l (rec .ready none) ms 0 w1 := ⟨⟨g0, C2, hmu0, hg0, hlo2, hH2.cb hq.cb, hF2.cb hq.cb, htr.quiet hq⟩, hrecl, fun D hD => (hms D hD).2.2⟩
 have hrecC : ∀ e : AE, rec .done (some (codeOf e)) = rec .done (some (codeOf e)) := fun _ => rfl
 refine fen_calls ro (callsIn_wide.1 ((hcom
  (fun k W => Mid P S C w act A l (rec .ready none) ms k W) (fun _ W => Gone P S R Qv C w act l (fun e => rec .done (some (codeOf e))) ms W) l (fun _ _ _ h q => h.quiet q) (fun _ _ _ h q => h.quiet q) ?_ w1 hq hinv0).mono ?_))
 ·-- one round
  intro k W0 hmid
  obtain ⟨gh, C3, hmu, hpg, hlo3, hH3, hF3, ht3⟩ := hmid.ex
  obtain ⟨hsat, hcapg⟩ := capK_sat (h gh hpg)
  refine ⟨_, _, C3, hH3, hF3, ht3, hcapg, fun hk => ?_⟩
  have hsat := capI_sat (hsat.1 (by unfold nlt; simpa [hmu] using hk))
  rw [hmu] at hsat
  refine ⟨hsat.2, fun W I1 vs hqw hI1' hvs => ?_⟩
  have hsat := hsat.1
  obtain ⟨C4, hC4⟩ : ∃ C4 : Cx, C4 = ⟨C3.ρ, fun b => C3.I b \/ I1 b, C3.O⟩ := ⟨_, rfl⟩
  have hx4 : Cext C3 W C4 W := by rw [hC4]; exact ⟨fun _ _ h => h, fun _ h => .inl h, fun _ _ => rfl⟩
  have hH3W : HR C3 (A.st gh).hp W := hH3.cb hqw.cb
  have hH4 : HR C4 (A.st gh).hp W := by
   refine ⟨fun i p hi => ?_, fun i j b c n b' c' n' h h' => ?_, fun i b c n hi => ?_, fun b hb => ?_, fun b x hb => ?_⟩
   ·rw [hC4] at hi; exact (hH3W.live i p hi).mono hx4 (fun _ _ _ _ => rfl) fun b x hb => ⟨by rw [hC4]; exact hb, rfl⟩
   ·rw [hC4] at h h'; exact hH3W.inj _ _ _ _ _ _ _ _ h h'
   ·rw [hC4] at hi ⊢
    refine ⟨(hH3W.fresh _ _ _ _ hi).1, fun hb => ?_⟩
    rcases hb with hb | hb
    ·exact (hH3W.fresh _ _ _ _ hi).2 hb
    ·rcases hI1' b hb with h1 | h1
     ·exact (hH3W.fresh _ _ _ _ hi).2 (h1)
     ·have := (hH3.fresh _ _ _ _ hi).1; omega
   ·rw [hC4] at hb
    rcases hb with hb | hb
    ·exact hH3W.ilt b hb
    ·rcases hI1' b hb with h1 | h1
     ·exact hH3W.ilt b (h1)
     ·exact h1.2
   ·have hb' : C3.O b = some x := by rw [hC4] at hb; exact hb
    obtain ⟨s1, s2, s3, s4⟩ := hH3W.sub b x hb'
    refine ⟨s1, fun hI => ?_, fun i b' c n hi => s3 i b' c n (by rw [hC4] at hi; exact hi), s4⟩
    rw [hC4] at hI
    rcases hI with hI | hI
    ·exact s2 hI
    ·rcases hI1' b hI with h1 | h1
     ·exact s2 (h1)
     ·have := (hH3.sub b x hb').1; omega
  have hF4 : FR [] C4 W (A.st gh).fr act.tmps := (hF3.cb hqw.cb).mono hx4
  have ht4 : Tr S.lo C w C4 W := by
   have t := ht3.quiet hqw
   rw [hC4]
   refine ⟨t.os, t.tape, t.output, t.size, t.keep, fun b hb => .inl (t.imm b hb), fun b hb => ?_, t.rho, t.own, t.sub⟩
   rcases hb with hb | hb
   ·exact t.imm' b hb
   ·rcases hI1' b hb with h1 | h1
    ·exact t.imm' b h1
    ·exact .inr (.inl (.inl (Nat.le_trans ht3.size h1.1)))
  have hvs4 : RelL C4 W (x.it k) vs := hvs.mono ⟨fun i p h => by simp at h, fun b hb => by rw [hC4]; exact .inr hb, fun _ _ => rfl⟩
  obtain ⟨hlen, fr1, hsat, hFr1⟩ := setPs_sat hsat hvs4 hF4
  have hlW : W.heap[l]? = some (.loop (rec .ready none)) := hqw.at hmid.lr
  have hmsW : ∀ D ∈ ms, W.heap[D]? = some (.deferred (some [])) := fun D hD => hqw.at (hmid.ms D hD)
  have hy := run_yield (P := P) (args := ⟨vs⟩) hlW (by rw [hrec]; simp; simpa using hlen.symm)
  have htm : ∀ t, Nat.testBit (mskP ps.toList) t = false -> ((ps.toList.zip vs).foldl (fun t (p, v) => t.setIfInBounds p v) act.tmps).getD t undef = act.tmps.getD t undef := fun t ht => by
   refine fold_get _ _ _ fun hm => ?_
   obtain ⟨⟨p, v⟩, hm1, rfl⟩ := List.mem_map.1 hm
   rw [mskP_mem (List.of_mem_zip hm1).1] at ht; cases ht
  have htz := fold_size (ps.toList.zip vs) act.tmps
  have hfold : (ps.zip (⟨vs⟩ : Array Value)).foldl (fun t (p, v) => t.setIfInBounds p v) act.tmps = (ps.toList.zip vs).foldl (fun t (p, v) => t.setIfInBounds p v) act.tmps := by
   rw [<- Array.foldl_toList]; simp
  generalize (ps.toList.zip vs).foldl (fun t (p, v) => t.setIfInBounds p v) act.tmps = tm1 at hFr1 htm htz hfold
  refine ⟨fn, tm1, ca, cb, ?_, roundIn_of_wpIn trivial ?_⟩
  ·rw [hy, hrec]; simp only; rw [<- hfold]
  refine hca (some l) 0 R fr1 _ _ C4 W ⟨tm1, []⟩ _ hlo3 hH4 hFr1 (fun l' hl' => by injection hl' with hl'; subst hl'; exact ⟨_, hlW⟩) hsat ?_
  intro e fr2 hp2 C5 W2 act2 h1 h2 h3 h4 h5 h6
  cases e with
  | exit id => exact h1.elim
  | ret => exact h1.elim
  | normal =>
  have hl2 : W2.heap[l]? = some (.loop (rec .ready none)) := h5.others hH4 hlW rfl
  have hms2 : ∀ D ∈ ms, W2.heap[D]? = some (.deferred (some [])) := fun D hD => h5.others hH4 (hmsW D hD) rfl
  refine ⟨_, run_beginRound hl2 (by rw [hrec]), ?_⟩
  have hcb1 := CB.putObj (.loop { rec .ready none with state := .busy }) hl2 rfl
  have hl3 : (W2.putObj l (.loop { rec .ready none with state := .busy })).heap[l]? = some (.loop { rec .ready none with state := .busy }) := World.putObj_heap_same (Array.getElem?_eq_some_iff.1 hl2).1
  have hms3 : ∀ D ∈ ms, (W2.putObj l (.loop { rec .ready none with state := .busy })).heap[D]? = some (.deferred (some [])) := fun D hD => (World.putObj_heap_other (hms D hD).2.1).trans (hms2 D hD)
  have hk3 : ∀ b, b ≠ l -> (W2.putObj l (.loop { rec .ready none with state := .busy })).heap[b]? = W2.heap[b]? := fun b hb => World.putObj_heap_other hb
  have ht5 : Tr S.lo C w C5 (W2.putObj l (.loop { rec .ready none with state := .busy })) := (ht4.trans h5).putObj hl _
  have hs3 : (W2.putObj l (.loop { rec .ready none with state := .busy })).heap.size = W2.heap.size := World.putObj_size
  have hH5 := h3.cb hcb1
  have hF5 := h4.cb hcb1
  generalize W2.putObj l (.loop { rec .ready none with state := .busy }) = W3 at *
  refine hcb (some l) 0 R fr2 hp2 _ C5 W3 act2 _ h2 hH5 hF5 (fun l' hl' => by injection hl' with hl'; subst hl'; exact ⟨_, hl3⟩) h1 ?_
  intro e fr3 hp3 C6 W4 act3 g1 g2 g3 g4 g5 g6
  have ht6 : Tr S.lo C w C6 W4 := ht5.trans g5
  have hl4 : W4.heap[l]? = some (.loop { rec .ready none with state := .busy }) := g5.others hH5 hl3 rfl
  have hms4 : ∀ D ∈ ms, W4.heap[D]? = some (.deferred (some [])) := fun D hD => g5.others hH5 (hms3 D hD) rfl
  obtain ⟨K, g7, hK1, hK2⟩ : ∃ K : List AV -> VC, (topM (Nat.lor (mskP ps.toList) (Nat.lor (mskC ca) (mskC cb))) fr3 0 K).sat R /\ (e = .normal -> K = fun fr4 => exR S.lo A (nadd k 1) fr4 hp3) /\ (e ≠ .normal -> K = fun fr4 => Qv e fr4 hp3) := by
   cases e with
   | normal => exact ⟨_, g1, fun _ => rfl, fun h => absurd rfl h⟩
   | exit id => exact ⟨_, g1, (fun h => by cases h), fun _ => rfl⟩
   | ret => exact ⟨_, g1, (fun h => by cases h), fun _ => rfl⟩
  obtain ⟨fr4, e4, hlen4, hget4⟩ := topM_eq (Nat.lor (mskP ps.toList) (Nat.lor (mskC ca) (mskC cb))) fr3 0 K
  rw [e4] at g7
  have hF6 : FR [] C6 W4 fr4 act.tmps := by
   refine ⟨by rw [hlen4, g4.len, g6.sz, h6.sz, htz], fun t => ?_⟩
   rw [hget4 t]
   split
   ·exact .plain (.top _) trivial
   ·rename_i hb
    by_cases hlt : t < fr3.length
    ·have hbit : Nat.testBit (Nat.lor (mskP ps.toList) (Nat.lor (mskC ca) (mskC cb))) t = false := by
      rw [Nat.zero_add] at hb
      cases hbb : Nat.testBit (Nat.lor (mskP ps.toList) (Nat.lor (mskC ca) (mskC cb))) t with
      | false => rfl
      | true => exact absurd ⟨hbb, hlt⟩ hb
     obtain ⟨b1, b2⟩ := msk_or hbit
     obtain ⟨b2, b3⟩ := msk_or b2
     have := g4.get t
     rwa [g6.tm t b3, h6.tm t b2, htm t b1] at this
    ·have hl3' := g4.len
     have e1 : getL fr3 t = .tup [] := by rw [getL_eq, List.getD_eq_getElem?_getD, List.getElem?_eq_none (by omega)]; rfl
     have e2 : act.tmps.getD t undef = undef := by
      rw [Array.getD_eq_getD_getElem?, Array.getElem?_eq_none (by rw [<- htz, <- h6.sz, <- g6.sz]; omega)]; rfl
     rw [e1, e2]; exact .plain (.tup _ _ .nil) trivial
  have hkeep : ∀ b, C.I b -> W4.heap[b]? = W.heap[b]? := fun b hb => by
   have hbl : b < w.heap.size := hH.ilt b hb
   have hb4 : C4.I b := by rw [hC4]; exact .inl (ht3.imm b hb)
   exact (g5.imms hH5 (h5.imm b hb4)).trans ((hk3 b (by omega)).trans (h5.imms hH4 hb4))
  have hsize : W.heap.size <= W4.heap.size := Nat.le_trans h5.size (by rw [<- hs3]; exact g5.size)
  have fin : ∀ (jump : Option Code), (Instr.endRound l jump).run P W4 = .ok (.bool jump.isNone) (W4.putObj l (.loop (rec (if jump.isNone then .ready else .done) jump))) /\
    CB W4 (W4.putObj l (.loop (rec (if jump.isNone then .ready else .done) jump))) /\ (W4.putObj l (.loop (rec (if jump.isNone then .ready else .done) jump))).heap[l]? = some (.loop (rec (if jump.isNone then .ready else .done) jump)) /\
    (∀ D ∈ ms, (W4.putObj l (.loop (rec (if jump.isNone then .ready else .done) jump))).heap[D]? = some (.deferred (some []))) /\
    (∀ b, C.I b -> (W4.putObj l (.loop (rec (if jump.isNone then .ready else .done) jump))).heap[b]? = W.heap[b]?) /\ W.heap.size <= (W4.putObj l (.loop (rec (if jump.isNone then .ready else .done) jump))).heap.size := fun jump => by
   have := run_endRound (P := P) jump hl4
   rw [hrec] at this ⊢
   refine ⟨this, CB.putObj _ hl4 rfl, World.putObj_heap_same (Array.getElem?_eq_some_iff.1 hl4).1, fun D hD => (World.putObj_heap_other (hms D hD).2.1).trans (hms4 D hD), fun b hb => ?_, by simpa using hsize⟩
   have hbl : b < w.heap.size := hH.ilt b hb
   exact (World.putObj_heap_other (by omega)).trans (hkeep b hb)
  cases e with
  | normal =>
    rw [hK1 rfl] at g7
    obtain ⟨gh', hpg', hmu', hle⟩ := exR_sat g7
    obtain ⟨C7, k1, k2, k3, k4⟩ := hle _ _ g3 g2
    obtain ⟨f1, f2, f3, f4, f5, f6⟩ := fin none
    exact ⟨_, _, f1, f5, f6, .inl ⟨rfl, ⟨gh', _, by rw [hmu']; unfold nadd; rfl, hpg', k3, k1.cb f2, (k2 _ hF6).cb f2, (ht6.trans k4).putObj hl _⟩, f3, f4⟩⟩
  | exit id =>
    rw [hK2 (by simp)] at g7
    obtain ⟨f1, f2, f3, f4, f5, f6⟩ := fin (some (.exit id))
    exact ⟨_, _, f1, f5, f6, .inr ⟨rfl, ⟨.exit id, fr4, hp3, C6, by simp, g7, g2, g3.cb f2, hF6.cb f2, ht6.putObj hl _, f3⟩, f4⟩⟩
  | ret =>
    rw [hK2 (by simp)] at g7
    obtain ⟨f1, f2, f3, f4, f5, f6⟩ := fin (some .ret)
    exact ⟨_, _, f1, f5, f6, .inr ⟨rfl, ⟨.ret, fr4, hp3, C6, by simp, g7, g2, g3.cb f2, hF6.cb f2, ht6.putObj hl _, f3⟩, f4⟩⟩
 ·-- behind the iterator
  have hkept : ∀ (W : World) (o : Obj), (∀ D ∈ ms, W.heap[D]? = some (.deferred (some []))) -> Kept 0 act w { act with defers := ms.map mkOf ++ act.defers } (W.putObj l o) := fun W o hm =>
   ⟨rfl, fun _ _ => rfl, ms, rfl, hnd, fun b hb => ⟨(hms b hb).1, (World.putObj_heap_other (hms b hb).2.1).trans (hm b hb)⟩⟩
  rintro e W ⟨⟨v, rfl⟩, hmid | ⟨k, hk, hgone⟩⟩
  ·obtain ⟨gh, C3, hmu, hpg, hlo3, hH3, hF3, ht3⟩ := hmid.ex
   have hl3 := hmid.lr
   have hend := run_endLoop (P := P) hl3 (by rw [hrec]; simp)
   have hcb1 := fun o => CB.putObj (.loop o) hl3 rfl
   rw [hrec] at hend
   refine ⟨none, _, hend, ?_⟩
   have hsat := (capK_sat (h gh hpg)).1.2 (by unfold nlt; simp [hmu])
   exact hgoal .normal _ _ C3 _ _ hsat hlo3 (hH3.cb (hcb1 _)) (hF3.cb (hcb1 _)) (ht3.putObj hl _) (hkept _ _ hmid.ms)
  ·obtain ⟨e, fr', hp', C3, hne, hsat, hlo3, hH3, hF3, ht3, hl3⟩ := hgone.ex
   have hend := run_endLoop (P := P) hl3 (by rw [hrec]; simp)
   have hcb1 := fun o => CB.putObj (.loop o) hl3 rfl
   rw [hrec] at hend
   refine ⟨some (codeOf e), _, hend, ?_⟩
   cases e with
   | normal => exact absurd rfl hne
   | exit id => exact wpIn_exit (hgoal (.exit id) fr' hp' C3 _ { act with defers := ms.map mkOf ++ act.defers } hsat hlo3 (hH3.cb (hcb1 _)) (hF3.cb (hcb1 _)) (ht3.putObj hl _) (hkept _ _ hgone.ms))
   | ret => exact wpIn_ret (hgoal .ret fr' hp' C3 _ { act with defers := ms.map mkOf ++ act.defers } hsat hlo3 (hH3.cb (hcb1 _)) (hF3.cb (hcb1 _)) (ht3.putObj hl _) (hkept _ _ hgone.ms))
theorem snd_region (hS : SumsOK P S) (hm : P.follows .mixedOrders = true) {U : Nat} {I : Anns} {id : Nat} {ops : Array Oper} {dr : Bool} (hok : codeOK (.region id ops dr) = true) {ro : Option Nat} {rm : Nat} {R : AV -> Heap -> Prop} {fr : List AV} {Qv : AE -> List AV -> Heap -> VC} {act : Act} {Q : Exit -> Act -> World -> Prop}
  (hlo : S.lo <= hp.length) (hH : HR C hp w) (hF : FR [] C w fr act.tmps) (h : (wpA P S U I (.region id ops dr) fr hp Qv).sat R) (hgoal : Goal P S R (Qv .normal) Q C w (RegKept (mskO ops.toList) act)) : (Code.region id ops dr).wpIn (fen ro) rm P Q act w := by
 simp only [wpA] at h
 simp only [codeOK, regOK, Bool.and_eq_true] at hok
 obtain ⟨fr, hp, C1, h, hlo, hH, hF, htr⟩ := giveI_sat h hlo hH hF
 have hg : Goal P S R (Qv .normal) Q C1 w (RegKept (mskO ops.toList) act) := hgoal.step htr
 have hds : RegKept (mskO ops.toList) act act := ⟨rfl, fun _ _ => rfl, rfl⟩
 have hput := regKept_put ops.toList act
 cases dr with
 | false =>
   simp only at h
   split at h
   ·rename_i s a b n hc
    obtain ⟨h1, h2⟩ := h
    refine region_nil hc hF fun bb hb act' hk hF' => hg _ hp C1 w act' ?_ hlo hH hF' (.refl _ _ _) hk
    cases bb with
    | true =>
      have := h1.1 (by unfold ieq icast; simp [hb rfl])
      simpa only [setF_eq] using this
    | false =>
      have := h2 () trivial
      simpa only [setF_eq] using this
   ·split at h
    ·rename_i z hz
     simp only [cpyVC, forceH_eq, setF_eq] at h
     refine region_cpy (lo := S.lo) hz hH hF fun act' w' hk hH' hF' ht => hg _ _ C1 w' act' h ?_ hH' hF' ht hk
     unfold cpyH
     rw [setB_eq, List.length_set]
     exact hlo
    ·exact region_text hS hok.1.1 hlo hH hF h hput hds hg
 | true =>
   have h2 := hok.1.2
   simp only [Bool.and_eq_true] at h2
   simp only at h
   have h3 := hok.2
   simp only [Bool.and_eq_true] at h3
   split at h
   ·split at h
    ·rename_i hsel
     exact region_each hS hm hsel (back_spec h2.2) hlo hH hF h hput hds hg
    ·exact h.elim
   split at h
   ·rename_i hsw
    split at h
    ·rename_i hn
     have h4 := h3.2
     have htry : prTry ops.toList = true := by
      unfold needP at hn
      split at hn
      ·assumption
      ·cases hn
     rw [htry] at h4
     exact region_pre hS hm h4 hlo hH hF (back_spec h2.2) h hput hds hg
    split at h
    ·exact region_draw hS hm hok.1.1 h2.1 (back_spec h2.2) hlo hH hF h hput hds hg
    ·rename_i hn
     have h4 := h3.1.2
     have htry : hoTry ops.toList = true := by
      unfold needH at hn
      split at hn
      ·assumption
      ·cases hn
     rw [htry] at h4
     exact region_hoist hS hm h4 hlo hH hF (back_spec h2.2) h hput hds hg
   ·rename_i z hz
    split at h
    ·rename_i hb
     rw [setF_eq] at h
     exact region_sw hS hm (.of hz h3.1.1) hlo (by simpa [Nat.blt_eq] using hb) hH hF h hput hds hg
    ·exact h.elim
theorem wpA_sound (hS : SumsOK P S) (hm : P.follows .mixedOrders = true) {U : Nat} {I : Anns} : ∀ (c : Code), codeOK c = true -> Snd P S U I c := by
 intro c
 induction c with
 | skip =>
   intro _ ro rm R fr hp Qv C w act Q hlo hH hF hro h hgoal
   exact wpIn_skip (hgoal .normal fr hp C w act h hlo hH hF (.refl _ _ _) (.refl _ _ _ _))
 | region id ops dr =>
   intro hok ro rm R fr hp Qv C w act Q hlo hH hF hro h hgoal
   exact snd_region hS hm hok hlo hH hF h fun fr' hp' C' w' act' h1 h2 h3 h4 h5 h6 => hgoal .normal fr' hp' C' w' act' h1 h2 h3 h4 h5 (h6.kept _ _)
 | seq a b iha ihb =>
   intro hok ro rm R fr hp Qv C w act Q hlo hH hF hro h hgoal
   simp only [codeOK, Bool.and_eq_true] at hok
   simp only [wpA] at h
   cases hcut : findS I (cutK b) with
   | some x =>
     obtain ⟨nl, ann⟩ := x
     rw [hcut] at h
     dsimp only at h
     obtain ⟨ha, hb⟩ := h
     refine wpIn_seq (iha hok.1 ro rm R fr hp _ C w act _ hlo hH hF hro ha ?_)
     intro e fr' hp' C' w' act' h1 h2 h3 h4 h5 h6
     have h6' := h6.sub (W' := mskC (.seq a b)) fun t ht => (msk_or ht).1
     cases e with
     | normal =>
       obtain ⟨g, hg, _, hle⟩ := exK_sat h1
       obtain ⟨C3, h7, h8, h9, h10⟩ := hle C' w' h3 h2
       have hb := hb g hg
       simp only [forceL_eq, forceH_eq] at hb
       exact ihb hok.2 ro rm R _ _ Qv C3 w' act' Q h9 h7 (h8 _ h4) (hro.tr h5 hH) hb ((hgoal.step (h5.trans h10) h6' h7).sub fun t ht => (msk_or ht).2)
     | exit id => exact hgoal (.exit id) fr' hp' C' w' act' h1 h2 h3 h4 h5 h6'
     | ret => exact hgoal .ret fr' hp' C' w' act' h1 h2 h3 h4 h5 h6'
   | none =>
     rw [hcut] at h
     dsimp only at h
     refine wpIn_seq (iha hok.1 ro rm R fr hp _ C w act _ hlo hH hF hro h ?_)
     intro e fr' hp' C' w' act' h1 h2 h3 h4 h5 h6
     have h6' := h6.sub (W' := mskC (.seq a b)) fun t ht => (msk_or ht).1
     cases e with
     | normal => exact ihb hok.2 ro rm R fr' hp' Qv C' w' act' Q h2 h3 h4 (hro.tr h5 hH) h1 ((hgoal.step h5 h6' h3).sub fun t ht => (msk_or ht).2)
     | exit id => exact hgoal (.exit id) fr' hp' C' w' act' h1 h2 h3 h4 h5 h6'
     | ret => exact hgoal .ret fr' hp' C' w' act' h1 h2 h3 h4 h5 h6'
 | cond c a b iha ihb =>
   intro hok ro rm R fr hp Qv C w act Q hlo hH hF hro h hgoal
   simp only [codeOK, Bool.and_eq_true] at hok
   simp only [wpA] at h
   have hga := hgoal.sub (W' := mskC a) fun t ht => (msk_or ht).1
   have hgb := hgoal.sub (W' := mskC b) fun t ht => (msk_or ht).2
   split at h
   ·rename_i d
    unfold branchK at h
    have hd := (hF.get d).1
    split at h
    ·rename_i hv
     rw [hv] at hd
     refine wpIn_cond_true (c := .tmp d) ?_ (iha hok.1 ro rm R fr hp Qv C w act Q hlo hH hF hro h hga)
     show act.tmps.getD d undef = _
     generalize act.tmps.getD d undef = u at hd; cases hd; rfl
    ·rename_i hv
     rw [hv] at hd
     refine wpIn_cond_false (c := .tmp d) ?_ (ihb hok.2 ro rm R fr hp Qv C w act Q hlo hH hF hro h hgb)
     show act.tmps.getD d undef = _
     generalize act.tmps.getD d undef = u at hd; cases hd; rfl
    ·rename_i t hv
     rw [hv] at hd
     have hvt : act.tmps.getD d undef = .bool t := by generalize act.tmps.getD d undef = u at hd; cases hd; rfl
     refine wpIn_cond_split (c := .tmp d) hvt (fun ht => ?_) (fun ht => ?_)
     ·have h1 := h.1 ht
      rw [setF_eq] at h1
      exact iha hok.1 ro rm R _ hp Qv C w act Q hlo hH (hF.known (a := .lb true) (.plain (by rw [hvt, ht]; exact .lb _) trivial)) hro h1 hga
     ·have h1 := h.2 ht
      rw [setF_eq] at h1
      exact ihb hok.2 ro rm R _ hp Qv C w act Q hlo hH (hF.known (a := .lb false) (.plain (by rw [hvt, ht]; exact .lb _) trivial)) hro h1 hgb
    ·exact h.elim
   ·exact wpIn_cond_true rfl (iha hok.1 ro rm R fr hp Qv C w act Q hlo hH hF hro h hga)
   ·exact wpIn_cond_false rfl (ihb hok.2 ro rm R fr hp Qv C w act Q hlo hH hF hro h hgb)
   ·exact h.elim
 | block id c ih =>
   intro hok ro rm R fr hp Qv C w act Q hlo hH hF hro h hgoal
   simp only [wpA] at h
   refine wpIn_block (ih hok ro rm R fr hp _ C w act _ hlo hH hF hro h ?_)
   intro e fr' hp' C' w' act' h1 h2 h3 h4 h5 h6
   cases e with
   | normal => exact hgoal .normal fr' hp' C' w' act' h1 h2 h3 h4 h5 h6
   | exit j =>
     simp only at h1
     show (if j = id then Q .normal act' w' else Q (.exit j) act' w')
     split at h1
     ·rename_i hj
      rw [if_pos (Nat.eq_of_beq_eq_true hj).symm]
      exact hgoal .normal fr' hp' C' w' act' h1 h2 h3 h4 h5 h6
     ·rename_i hj
      rw [if_neg (fun e => by subst e; simp at hj)]
      exact hgoal (.exit j) fr' hp' C' w' act' h1 h2 h3 h4 h5 h6
   | ret => exact hgoal .ret fr' hp' C' w' act' h1 h2 h3 h4 h5 h6
 | loop c ih =>
   intro hok ro rm R fr hp Qv C w act Q hlo hH hF hro h hgoal
   simp only [wpA] at h
   split at h
   ·exact snd_iter (ih hok) U hlo hH hF hro h hgoal
   ·rename_i nils ann hann
    obtain ⟨fr, hp, C1, h, hlo, hH, hF, htr⟩ := nilK_sat h hlo hH hF
    obtain ⟨h0, h3⟩ := h
    obtain ⟨g, h1, _, h2⟩ := exK_sat h0
    exact snd_ann (ih hok) (A := ann fr hp) hlo hH hF hro ⟨g, h1, h2⟩ (fun g hg => by have := h3 g hg; simp only [forceL_eq, forceH_eq] at this; exact this) (hgoal.step htr (.refl _ _ _ _) hH)
 | rangeFunc g ps a b iha ihb =>
   intro hok ro rm R fr hp Qv C w act Q hlo hH hF hro h hgoal
   simp only [codeOK, Bool.and_eq_true] at hok
   exact snd_range hS (iha hok.1) (ihb hok.2) hlo hH hF hro h hgoal
 | exit id =>
   intro _ ro rm R fr hp Qv C w act Q hlo hH hF hro h hgoal
   exact wpIn_exit (hgoal (.exit id) fr hp C w act h hlo hH hF (.refl _ _ _) (.refl _ _ _ _))
 | ret =>
   intro _ ro rm R fr hp Qv C w act Q hlo hH hF hro h hgoal
   exact wpIn_ret (hgoal .ret fr hp C w act h hlo hH hF (.refl _ _ _) (.refl _ _ _ _))
 | _ =>
   intro _ ro rm R fr hp Qv C w act Q hlo hH hF hro h hgoal
   exact h.elim
theorem resK_sat {R : AV -> Heap -> Prop} {fr : List AV} {tm : Array Value} {F : ResultVar -> Sem Value} (hF1 : ∀ t, F (.tmp t) = pure (tm.getD t undef)) (hF2 : ∀ a t, F (.cell a t) = (do loadVar t (<- asAddr (tm.getD a undef)))) (hH : HR C hp w) (hF : FR [] C w fr tm) :
  ∀ {l : List ResultVar} {k : List AV -> VC}, (resK P fr hp l k).sat R -> ∃ bs vs, (k bs).sat R /\ RelL C w bs vs /\ (l.mapM F).run P w = .ok vs w
 | [], k, h => ⟨[], [], h, .nil, by simp⟩
 | .tmp t :: l, k, h => by
   obtain ⟨bs, vs, h1, h2, h3⟩ := resK_sat hF1 hF2 hH hF (l := l) h
   refine ⟨_, tm.getD t undef :: vs, h1, .cons _ _ _ _ (hF.get t).1 h2, ?_⟩
   rw [List.mapM_cons, hF1, Sem.run_bind, Sem.run_pure, Result.andThen_ok, Sem.run_bind, h3, Result.andThen_ok, Sem.run_pure]
 | .cell a ty :: l, k, h => by
   simp only [resK] at h
   split at h
   ·rename_i x hx
    obtain ⟨bs, vs, h1, h2, h3⟩ := resK_sat hF1 hF2 hH hF (l := l) h
    obtain ⟨u, hu, hr⟩ := run_load (P := P) hH (fun _ _ => rfl) (hF.get a).1 hx
    have hp' : ∃ ad, tm.getD a undef = .pointer (some ad) := by
     have hra := (hF.get a).1
     generalize getL fr a = b at hra hx
     generalize tm.getD a undef = v at hra
     cases hra <;> first | exact ⟨_, rfl⟩ | simp [loadA] at hx
    obtain ⟨ad, hp'⟩ := hp'
    rw [hp'] at hu
    have hu' : (loadVar ty ad).run P w = .ok u w := by simpa [Instr.loadAt, Instr.sureAddr] using hu
    refine ⟨_, u :: vs, h1, .cons _ _ _ _ hr h2, ?_⟩
    have hcell : (F (.cell a ty)).run P w = .ok u w := by
     rw [hF2, hp']; simpa [asAddr] using hu'
    rw [List.mapM_cons, Sem.run_bind, hcell, Result.andThen_ok, Sem.run_bind, h3, Result.andThen_ok, Sem.run_pure]
   ·exact h.elim
theorem calls_wpF (hS : SumsOK P S) (hm : P.follows .mixedOrders = true) {U : Nat} {I : Anns} {f : FuncId} {fn : Func} {c : Code} (hf : P.funcs[f]? = some fn) (hb : fn.body = some c) (hok : codeOK c = true) {R : AV -> Heap -> Prop} {args : List AV} {vs : List Value}
  (hlo : S.lo <= hp.length) (hH : HR C hp w) (ha : RelL C w args vs) (hng : ∀ t, notGd (getL args t)) (hn : args.length <= fn.ntmps) (h : (wpF P S U I fn args hp).sat R) :
  Calls P f ⟨vs⟩ w fun e w' => ∃ v a hp' C', e = .returned v /\ R a hp' /\ S.lo <= hp'.length /\ HR C' hp' w' /\ Rel C' w' a v /\ Tr S.lo C w C' w' := by
 refine callsIn_wide.1 (callsIn_of_wp_marks (F := fen none) (n := 0) hf hb trivial ?_ rfl)
 unfold wpF at h
 simp only [hb, forceL_eq] at h
 have hpad : ∀ (l : List AV) (n : Nat), l.length <= n -> padL l n = l ++ List.replicate (n - l.length) (.tup []) := by
  intro l
  induction l with
  | nil =>
    intro n _
    induction n with
    | zero => rfl
    | succ n ih => simp only [padL, ih (by simp)]; simp [List.replicate_succ]
  | cons a l ih =>
    intro n hn
    cases n with
    | zero => simp at hn
    | succ n => simp only [padL, ih n (by simpa using hn)]; simp
 rw [hpad _ _ hn] at h
 have hle := ha.len
 have hF : FR [] C w (args ++ List.replicate (fn.ntmps - args.length) (.tup [])) ((⟨vs⟩ : Array Value) ++ Array.replicate (fn.ntmps - (⟨vs⟩ : Array Value).size) undef) := by
  refine ⟨by simp [hle], fun t => ?_⟩
  rw [getL_eq, List.getD_eq_getElem?_getD, Array.getD_eq_getD_getElem?]
  by_cases ht : t < args.length
  ·rw [List.getElem?_append_left ht, Array.getElem?_append_left (by simp; omega)]
   have h1 : args[t]? = some (args[t]'ht) := List.getElem?_eq_getElem _
   obtain ⟨v, h2, h3⟩ := ha.get h1
   rw [h1]
   simp only [List.getElem?_toArray, h2, Option.getD_some]
   refine .plain h3 ?_
   have := hng t
   rwa [getL_eq, List.getD_eq_getElem?_getD, h1] at this
  ·rw [List.getElem?_append_right (by omega), Array.getElem?_append_right (by simp; omega)]
   refine .plain ?_ ?_
   ·have e1 : ((List.replicate (fn.ntmps - args.length) (AV.tup []))[t - args.length]?).getD (.tup []) = .tup [] := by
     rw [List.getElem?_replicate]; split <;> rfl
    have e2 : ((Array.replicate (fn.ntmps - (⟨vs⟩ : Array Value).size) undef)[t - (⟨vs⟩ : Array Value).size]?).getD undef = undef := by
     rw [Array.getElem?_replicate]; split <;> rfl
    rw [e1, e2]
    exact .tup _ _ .nil
   ·rw [List.getElem?_replicate]; split <;> trivial
 refine wpA_sound hS hm c hok none 0 R _ hp _ C w ⟨_, []⟩ _ hlo hH hF (fun l hl => by cases hl) h ?_
 intro e fr' hp' C' w' act' h1 h2 h3 h4 h5 h6
 have key : (resK P fr' hp' fn.results.toList fun l => outK l hp').sat R -> LeavesInM (fen none) 0 P fn act'.tmps (fun e w' => ∃ v a hp' C', e = .returned v /\ R a hp' /\ S.lo <= hp'.length /\ HR C' hp' w' /\ Rel C' w' a v /\ Tr S.lo C w C' w') act'.defers .returning w' := by
  intro hk
  obtain ⟨ms, hms, hnd, hat⟩ := h6.dfs
  rw [hms, List.append_nil]
  clear hms
  revert h3 h4 h5 hat
  generalize w' = w1
  intro h3 h4 h5 hat
  induction ms generalizing w1 with
  | cons b ms ih =>
    have hb := hat b (List.mem_cons_self ..)
    rw [List.nodup_cons] at hnd
    have hcb := CB.putObj (.deferred none) hb.2 rfl
    refine ⟨by simp, .inl ⟨b, _, rfl, run_takeDeferred hb.2, ih hnd.2 _ (h3.cb hcb) (h4.cb hcb) (h5.putObj hb.1 _) fun c hc => ?_⟩⟩
    have h7 := hat c (List.mem_cons_of_mem _ hc)
    exact ⟨h7.1, (World.putObj_heap_other fun e => hnd.1 (by rw [<- e]; exact hc)).trans h7.2⟩
  | nil =>
  have hres : ∃ F : ResultVar -> Sem Value, (∀ t, F (.tmp t) = pure (act'.tmps.getD t undef)) /\ (∀ a t, F (.cell a t) = (do loadVar t (<- asAddr (act'.tmps.getD a undef)))) /\
    results fn act'.tmps = (do let vs <- fn.results.mapM F; pure (if h : vs.size = 1 then vs[0] else .tuple vs)) :=
   ⟨fun x => match x with | .tmp t => pure (act'.tmps.getD t undef) | .cell a t => do loadVar t (<- asAddr (act'.tmps.getD a undef)), fun _ => rfl, fun _ _ => rfl, rfl⟩
  obtain ⟨F, hF1, hF2, hres⟩ := hres
  obtain ⟨bs, us, h7, h8, h9⟩ := resK_sat (P := P) hF1 hF2 h3 h4 hk
  have hrun : (results fn act'.tmps).run P w1 = .ok (if h : us.length = 1 then us[0] else .tuple ⟨us⟩) w1 := by
   rw [hres]
   have e1 : fn.results.mapM F = (List.toArray <$> fn.results.toList.mapM F) := by
    rw [<- List.mapM_toArray]
   rw [e1]
   simp [h9]
  refine ⟨_, hrun, ?_⟩
  unfold outK at h7
  split at h7
  ·rename_i a
   cases h8 with
   | cons _ _ v _ h10 h11 =>
     cases h11
     rw [forceD_eq] at h7
     exact ⟨_, a, hp', C', rfl, h7, h2, h3, by simpa using h10, h5⟩
  ·rename_i hne
   rw [forceLD_eq] at h7
   have : us.length ≠ 1 := by
    rw [<- h8.len]
    intro hl
    obtain ⟨a, rfl⟩ := List.length_eq_one_iff.1 hl
    exact hne a rfl
   rw [dif_neg this]
   exact ⟨_, .tup bs, hp', C', rfl, h7, h2, h3, .tup _ _ h8, h5⟩
 cases e with
 | normal => exact key h1
 | ret => exact key h1
 | exit id => exact h1.elim
end
end Abs
end Go.Proofs.Ytdfdjlijghjdaaa

namespace Go.Proofs.Ytdfdjlijghjdaaa
namespace Abs
open Go Go.RowKit
noncomputable section
def forceLDP : {g : List AV -> (List AV -> VC) -> VC // forceLD = g} := ⟨_, by delta forceLD; rfl⟩
def forceLDN : List AV -> (List AV -> VC) -> VC := forceLDP.1
theorem forceLDN_eq : forceLDN = forceLD := forceLDP.2.symm
def forceHP : {g : Heap -> (Heap -> VC) -> VC // forceH = g} := ⟨_, by delta forceH; rfl⟩
def forceHN : Heap -> (Heap -> VC) -> VC := forceHP.1
theorem forceHN_eq : forceHN = forceH := forceHP.2.symm
def needsP : {g : List Cd -> VC -> VC // needs = g} := ⟨_, by delta needs; rfl⟩
def needsN : List Cd -> VC -> VC := needsP.1
theorem needsN_eq : needsN = needs := needsP.2.symm
def needsCP : {g : Bool -> List Cd -> VC -> VC // needsC = g} := ⟨_, by delta needsC; rfl⟩
def needsCN : Bool -> List Cd -> VC -> VC := needsCP.1
theorem needsCN_eq : needsCN = needsC := needsCP.2.symm
def forceTP : {g : List Cnd -> (List Cnd -> VC) -> VC // forceT = g} := ⟨_, by delta forceT; rfl⟩
def forceTN : List Cnd -> (List Cnd -> VC) -> VC := forceTP.1
theorem forceTN_eq : forceTN = forceT := forceTP.2.symm
def lenKP : {g : List Cnd -> (Nat -> VC) -> VC // lenK = g} := ⟨_, by delta lenK; rfl⟩
def lenKN : List Cnd -> (Nat -> VC) -> VC := lenKP.1
theorem lenKN_eq : lenKN = lenK := lenKP.2.symm
def topMP : {g : Nat -> List AV -> Nat -> (List AV -> VC) -> VC // topM = g} := ⟨_, by delta topM; rfl⟩
def topMN : Nat -> List AV -> Nat -> (List AV -> VC) -> VC := topMP.1
theorem topMN_eq : topMN = topM := topMP.2.symm
def setPsP : {g : List Nat -> List AV -> List AV -> (List AV -> VC) -> VC // setPs = g} := ⟨_, by delta setPs; rfl⟩
def setPsN : List Nat -> List AV -> List AV -> (List AV -> VC) -> VC := setPsP.1
theorem setPsN_eq : setPsN = setPs := setPsP.2.symm
def misOP : {g : Nat -> Nat -> List AV -> List AV -> Option (Nat × Nat) // misO = g} := ⟨_, by delta misO; rfl⟩
def misON : Nat -> Nat -> List AV -> List AV -> Option (Nat × Nat) := misOP.1
theorem misON_eq : misON = misO := misOP.2.symm
def leAFP : {g : Nat -> Nat -> Heap -> Heap -> AV -> AV -> VC -> VC // leAF = g} := ⟨_, by delta leAF; rfl⟩
def leAFN : Nat -> Nat -> Heap -> Heap -> AV -> AV -> VC -> VC := leAFP.1
theorem leAFN_eq : leAFN = leAF := leAFP.2.symm
def leBFn (lo n : Nat) (src tgt : Heap) (a b : Blk) (k : VC) : VC :=
 match b with
 | .dead => (match Nat.ble lo n with | true => k | false => (match a with | .dead => k | _ => .fail))
 | .cells t m => (match a with | .cells t' l => (match decide (t = t') with | true => leLW (leAFN 6 lo src tgt) l m k | false => .fail) | _ => .fail)
 | .row e sz n el => (match a with
   | .row e' sz' n' el' => (match decide (e = e' /\ sz = sz') with | true => .need ⟨fun z : Nat × Nat => z.1 = z.2, (n'.val, n.val)⟩ (.need ⟨ElEq, (n.val, el', el)⟩ k) | false => .fail)
   | _ => .fail)
 | .mat t w n f => (match a with
   | .mat t' w' n' f' => (match decide (t = t' /\ w = w') with | true => .need ⟨fun z : Nat × Nat => z.1 = z.2, (n'.val, n.val)⟩ (.need ⟨MatEq, (n.val, w, f', f)⟩ k) | false => .fail)
   | _ => .fail)
 | .rows e e1 sz n fz ln el ho => (match a with
   | .rows e' e1' sz' n' fz' ln' el' ho' => (match decide (e = e' /\ e1 = e1' /\ sz = sz'), ho, ho' with
     | true, none, none => .need ⟨fun z : Nat × Nat => z.1 = z.2, (n'.val, n.val)⟩ (.need ⟨RowsEq, (n.val, none, (fz', ln', el'), (fz, ln, el))⟩ k)
     | true, some (q, oh), some (q', oh') => (match oh, oh' with
       | none, _ => .need ⟨fun z : Nat × Nat => z.1 = z.2, (n'.val, n.val)⟩ (.need ⟨fun z : Nat × Nat => z.1 = z.2, (q', q)⟩ (.need ⟨RowsEq, (n.val, some q, (fz', ln', el'), (fz, ln, el))⟩ k))
       | some h, some h' => (match Nat.beq h h' && aliveB tgt h with
         | true => .need ⟨fun z : Nat × Nat => z.1 = z.2, (n'.val, n.val)⟩ (.need ⟨fun z : Nat × Nat => z.1 = z.2, (q', q)⟩ (.need ⟨RowsEq, (n.val, some q, (fz', ln', el'), (fz, ln, el))⟩ k))
         | false => .fail)
       | some _, none => .fail)
     | _, _, _ => .fail)
   | _ => .fail)
 | .tab n sz el => (match a with
   | .tab n' sz' el' => (match decide (sz = sz') with | true => .need ⟨fun z : Nat × Nat => z.1 = z.2, (n'.val, n.val)⟩ (.need ⟨ElEq, (n.val, el', el)⟩ k) | false => .fail)
   | _ => .fail)
theorem leBFn_eq : leBFn = leBF := by
 funext lo n src tgt a b k
 unfold leBFn leBF
 rw [leAFN_eq]
 rfl
def leHFn (lo : Nat) (src tgt : Heap) : Nat -> Heap -> Heap -> VC -> VC
 | _, [], [], k => k
 | n, _ :: _, [], k => (match Nat.ble lo n with | true => k | false => .fail)
 | n, a :: l, b :: m, k => leBFn lo n src tgt a b (leHFn lo src tgt (n + 1) l m k)
 | _, [], _ :: _, _ => .fail
theorem leHFn_eq (lo : Nat) (src tgt : Heap) : ∀ (n : Nat) (l m : Heap) (k : VC), leHFn lo src tgt n l m k = leHF lo src tgt n l m k
 | n, [], [], k => by simp only [leHFn, leHF]
 | n, _ :: _, [], k => by simp only [leHFn, leHF]; rfl
 | n, a :: l, b :: m, k => by simp only [leHFn, leHF, leBFn_eq, leHFn_eq lo src tgt (n + 1) l m k]
 | n, [], _ :: _, k => by simp only [leHFn, leHF]
def leHFnP : {g : Nat -> Heap -> Heap -> Nat -> Heap -> Heap -> VC -> VC // leHFn = g} := ⟨_, by delta leHFn; rfl⟩
def leHFnN : Nat -> Heap -> Heap -> Nat -> Heap -> Heap -> VC -> VC := leHFnP.1
theorem leHFnN_eq : leHFnN = leHFn := leHFnP.2.symm
def leSFn (lo : Nat) (fr : List AV) (hp : Heap) (s : AS) : VC := leLW (leAFN 6 lo hp s.hp) fr s.fr (leHFnN lo hp s.hp 0 hp s.hp .done)
theorem leSFn_eq (lo : Nat) (fr : List AV) (hp : Heap) (s : AS) : leSFn lo fr hp s = leSF lo fr hp s := by
 unfold leSFn leSF
 rw [leAFN_eq, leHFnN_eq, leHFn_eq]
def hpLenK (hp : Heap) (k : Nat -> VC) : VC := match hp with
 | [] => k 0
 | [_] => k 1
 | [_, _] => k 2
 | [_, _, _] => k 3
 | [_, _, _, _] => k 4
 | [_, _, _, _, _] => k 5
 | [_, _, _, _, _, _] => k 6
 | [_, _, _, _, _, _, _] => k 7
 | [_, _, _, _, _, _, _, _] => k 8
 | [_, _, _, _, _, _, _, _, _] => k 9
 | [_, _, _, _, _, _, _, _, _, _] => k 10
 | [_, _, _, _, _, _, _, _, _, _, _] => k 11
 | [_, _, _, _, _, _, _, _, _, _, _, _] => k 12
 | [_, _, _, _, _, _, _, _, _, _, _, _, _] => k 13
 | [_, _, _, _, _, _, _, _, _, _, _, _, _, _] => k 14
 | [_, _, _, _, _, _, _, _, _, _, _, _, _, _, _] => k 15
 | [_, _, _, _, _, _, _, _, _, _, _, _, _, _, _, _] => k 16
 | l => k l.length
theorem hpLenK_eq (hp : Heap) (k : Nat -> VC) : hpLenK hp k = k hp.length := by
 unfold hpLenK
 split <;> rfl
def swKn (lo : Nat) (f2 fr : List AV) (hp : Heap) (K : List AV -> Heap -> VC) : VC := match misON lo hp.length f2 fr with
 | none => K fr hp
 | some (i, j) => forceLDN (swA.swL i j fr) fun fr' => forceHN (swH i j hp) fun hp' => K fr' hp'
theorem swKn_eq (lo : Nat) (f2 fr : List AV) (hp : Heap) (K : List AV -> Heap -> VC) : swKn lo f2 fr hp K = swK lo f2 fr hp K := by
 unfold swKn swK
 rw [misON_eq, forceLDN_eq, forceHN_eq]
 rfl
def exKn (lo : Nat) (A : Ann) (m : Option Nat) (fr : List AV) (hp : Heap) : VC :=
 .ex (A := A) A.dat m fun g => forceL (A.st g).fr fun f2 => forceHN (A.st g).hp fun h2 => swKn lo f2 fr hp fun fr hp => leSFn lo fr hp ⟨f2, h2⟩
theorem exKn_eq (lo : Nat) (A : Ann) (m : Option Nat) (fr : List AV) (hp : Heap) : exKn lo A m fr hp = exK lo A m fr hp := by
 unfold exKn exK
 congr 1
 funext g
 simp only [forceHN_eq, swKn_eq, leSFn_eq]
def exRn (lo : Nat) (A : Ann) (i : Nat) (fr : List AV) (hp : Heap) : VC :=
 .ex (A := A) A.dat none fun g => .need ⟨fun z : Nat × Nat => z.1 = z.2, (A.mu g, i)⟩ (forceL (A.st g).fr fun f2 => forceHN (A.st g).hp fun h2 => swKn lo f2 fr hp fun fr hp => leSFn lo fr hp ⟨f2, h2⟩)
theorem exRn_eq (lo : Nat) (A : Ann) (i : Nat) (fr : List AV) (hp : Heap) : exRn lo A i fr hp = exR lo A i fr hp := by
 unfold exRn exR
 congr 1
 funext g
 simp only [forceHN_eq, swKn_eq, leSFn_eq]
def nilCKn (t x c : Nat) (fr : List AV) (hp : Heap) (K : Heap -> VC) : VC := match getL fr t, Nat.beq (c % 64) 5 with
 | .own i o, true => (match getB hp i with
   | .cells ty l => (match isNilS (getL l (o + c / 64)) with
     | true => forceL (setL l (o + c / 64) (.row hp.length)) fun l' => forceHN (appH (setB hp i (.cells ty l')) [.row (x % 65536) (x / 65536 + 1) (.lit 0) (fun _ => [])]) fun hp' => K hp'
     | false => .fail)
   | _ => .fail)
 | _, _ => .fail
theorem nilCKn_eq (t x c : Nat) (fr : List AV) (hp : Heap) (K : Heap -> VC) : nilCKn t x c fr hp K = nilCK t x c fr hp K := by
 unfold nilCKn nilCK
 simp only [forceHN_eq]
 rfl
def nilKn : List (Nat × TypeId × Nat) -> List AV -> Heap -> (List AV -> Heap -> VC) -> VC
 | [], fr, hp, K => K fr hp
 | (t, e, sz) :: l, fr, hp, K => (match isNilS (getL fr t), sz with
   | true, _ + 1 => hpLenK hp fun n => setF fr t (.row n) fun fr' => forceHN (appH hp [.row e sz (.lit 0) (fun _ => [])]) fun hp' => nilKn l fr' hp' K
   | _, 0 => nilCKn t e 5 fr hp fun hp' => nilKn l fr hp' K
   | _, _ => nilKn l fr hp K)
theorem nilKn_eq : ∀ (l : List (Nat × TypeId × Nat)) (fr : List AV) (hp : Heap) (K : List AV -> Heap -> VC), nilKn l fr hp K = nilK l fr hp K
 | [], _, _, _ => rfl
 | (t, e, sz) :: l, fr, hp, K => by
   have ih : ∀ fr hp, nilKn l fr hp K = nilK l fr hp K := fun fr hp => nilKn_eq l fr hp K
   simp only [nilKn, nilK, forceHN_eq, hpLenK_eq, nilCKn_eq, ih]
   rfl
def nilKnP : {g : List (Nat × TypeId × Nat) -> List AV -> Heap -> (List AV -> Heap -> VC) -> VC // nilKn = g} := ⟨_, by delta nilKn; rfl⟩
def nilKnN : List (Nat × TypeId × Nat) -> List AV -> Heap -> (List AV -> Heap -> VC) -> VC := nilKnP.1
theorem nilKnN_eq : nilKnN = nilKn := nilKnP.2.symm
def shiftAP : {g : Nat -> AV -> AV // shiftA = g} := ⟨_, by delta shiftA; rfl⟩
def shiftAN : Nat -> AV -> AV := shiftAP.1
theorem shiftAN_eq : shiftAN = shiftA := shiftAP.2.symm
def shiftA_shiftLP : {g : Nat -> List AV -> List AV // shiftA.shiftL = g} := ⟨_, by delta shiftA.shiftL; rfl⟩
def shiftA_shiftLN : Nat -> List AV -> List AV := shiftA_shiftLP.1
theorem shiftA_shiftLN_eq : shiftA_shiftLN = shiftA.shiftL := shiftA_shiftLP.2.symm
def shBP : {g : AV -> Bool // shB = g} := ⟨_, by delta shB; rfl⟩
def shBN : AV -> Bool := shBP.1
theorem shBN_eq : shBN = shB := shBP.2.symm
def shB_shBLP : {g : List AV -> Bool // shB.shBL = g} := ⟨_, by delta shB.shBL; rfl⟩
def shB_shBLN : List AV -> Bool := shB_shBLP.1
theorem shB_shBLN_eq : shB_shBLN = shB.shBL := shB_shBLP.2.symm
def plainAP : {g : AV -> Bool // plainA = g} := ⟨_, by delta plainA; rfl⟩
def plainAN : AV -> Bool := plainAP.1
theorem plainAN_eq : plainAN = plainA := plainAP.2.symm
def plainA_plainLP : {g : List AV -> Bool // plainA.plainL = g} := ⟨_, by delta plainA.plainL; rfl⟩
def plainA_plainLN : List AV -> Bool := plainA_plainLP.1
theorem plainA_plainLN_eq : plainA_plainLN = plainA.plainL := plainA_plainLP.2.symm
def shiftHn (b : Nat) : Heap -> Heap
 | [] => []
 | .cells t c :: l => .cells t (shiftA_shiftLN b c) :: shiftHn b l
 | x :: l => x :: shiftHn b l
theorem shiftHn_eq (b : Nat) : ∀ l, shiftHn b l = shiftH b l
 | [] => rfl
 | .cells t c :: l => by simp only [shiftHn, shiftH, shiftA_shiftLN_eq, shiftHn_eq b l]
 | .row _ _ _ _ :: l => by simp only [shiftHn, shiftH, shiftHn_eq b l]
 | .mat _ _ _ _ :: l => by simp only [shiftHn, shiftH, shiftHn_eq b l]
 | .tab _ _ _ :: l => by simp only [shiftHn, shiftH, shiftHn_eq b l]
 | .rows _ _ _ _ _ _ _ _ :: l => by simp only [shiftHn, shiftH, shiftHn_eq b l]
 | .dead :: l => by simp only [shiftHn, shiftH, shiftHn_eq b l]
def plainHn : Heap -> Bool
 | [] => true
 | .dead :: l => plainHn l
 | .cells _ c :: l => plainA_plainLN c && plainHn l
 | .row _ _ _ _ :: l => plainHn l
 | _ :: _ => false
theorem plainHn_eq : ∀ l, plainHn l = plainH l
 | [] => rfl
 | .cells t c :: l => by simp only [plainHn, plainH, plainA_plainLN_eq, plainHn_eq l]
 | .row _ _ _ _ :: l => by simp only [plainHn, plainH, plainHn_eq l]
 | .mat _ _ _ _ :: l => by simp only [plainHn, plainH]
 | .tab _ _ _ :: l => by simp only [plainHn, plainH]
 | .rows _ _ _ _ _ _ _ _ :: l => by simp only [plainHn, plainH]
 | .dead :: l => by simp only [plainHn, plainH, plainHn_eq l]
def shBHn : Heap -> Bool
 | [] => true
 | .dead :: l => shBHn l
 | .cells _ c :: l => shB_shBLN c && shBHn l
 | .row _ _ _ _ :: l => shBHn l
 | .tab _ _ _ :: l => shBHn l
 | _ :: _ => false
theorem shBHn_eq : ∀ l, shBHn l = shBH l
 | [] => rfl
 | .cells t c :: l => by simp only [shBHn, shBH, shB_shBLN_eq, shBHn_eq l]
 | .row _ _ _ _ :: l => by simp only [shBHn, shBH, shBHn_eq l]
 | .mat _ _ _ _ :: l => by simp only [shBHn, shBH]
 | .tab _ _ _ :: l => by simp only [shBHn, shBH, shBHn_eq l]
 | .rows _ _ _ _ _ _ _ _ :: l => by simp only [shBHn, shBH]
 | .dead :: l => by simp only [shBHn, shBH, shBHn_eq l]
def callOKn (args : List AV) (res : AV) (new : Heap) : Bool := match ownIn.ownInL args with | false => shBN res && shBHn new | true => plainAN res && plainHn new
theorem callOKn_eq : callOKn = callOK := by
 funext args res new
 unfold callOKn callOK
 simp only [shBN_eq, shBHn_eq, plainAN_eq, plainHn_eq]
 rfl
def vcCn (S : Sums) (k : Nat) (c : Bool) (r : AR) (hp : Heap) (K : Heap -> AV -> VC) : VC :=
 match r with
 | .val a => forceD a fun a' => K hp (.gd k a')
 | .need p r => .need (p.under c) (vcCn S k c r hp K)
 | .br b t e => .branch b (vcCn S k c t hp K) (vcCn S k c e hp K)
 | .blk b mk => hpLenK hp fun n => forceHN (appH hp [b]) fun hp' => K hp' (.gd k (mk n))
 | .call f args => (match findS S.two f with
   | some _ => .fail
   | none => (match findS S.one f with
     | some s1 => forceLDN (mapE hp args) fun args' => (match s1 args' with
       | some ⟨pre, res, new⟩ => (match callOKn args res new with
         | true => needsCN c pre (needsCN c (callNeeds args new) (hpLenK hp fun n => forceHN (appH hp (shiftHn n new)) fun hp' => forceD (shiftAN n res) fun a => K hp' (.gd k a)))
         | false => .fail)
       | none => .fail)
     | none => .fail))
 | _ => .fail
theorem vcCn_eq (S : Sums) (k : Nat) (c : Bool) : ∀ (r : AR) (hp : Heap) (K : Heap -> AV -> VC), vcCn S k c r hp K = r.vcC S k c hp K
 | .fail, _, _ => rfl
 | .val a, _, _ => rfl
 | .need p r, hp, K => by simp only [vcCn, AR.vcC, vcCn_eq S k c r hp K]
 | .br b t e, hp, K => by simp only [vcCn, AR.vcC, vcCn_eq S k c t hp K, vcCn_eq S k c e hp K]
 | .blk b mk, hp, K => by simp only [vcCn, AR.vcC, forceHN_eq, hpLenK_eq]
 | .upd _ _, _, _ => rfl
 | .grow _ _, _, _ => rfl
 | .frz _ _ _, _, _ => rfl
 | .call f args, hp, K => by simp only [vcCn, AR.vcC, forceHN_eq, hpLenK_eq, forceLDN_eq, needsCN_eq, callOKn_eq, shiftHn_eq, shiftAN_eq]; rfl
def vcCnP : {g : Sums -> Nat -> Bool -> AR -> Heap -> (Heap -> AV -> VC) -> VC // vcCn = g} := ⟨_, by delta vcCn; rfl⟩
def vcCnN : Sums -> Nat -> Bool -> AR -> Heap -> (Heap -> AV -> VC) -> VC := vcCnP.1
theorem vcCnN_eq : vcCnN = vcCn := vcCnP.2.symm
end
end Abs
end Go.Proofs.Ytdfdjlijghjdaaa

namespace Go.Proofs.Ytdfdjlijghjdaaa
namespace Abs
open Go Go.RowKit
noncomputable section
abbrev FT := List (List AV)
def flatT : FT -> List AV
 | [] => []
 | c :: t => c ++ flatT t
def WT : FT -> Prop
 | [] => True
 | c :: t => (c.length <= 16 /\ (t ≠ [] -> c.length = 16)) /\ WT t
def getLL (t : FT) : Nat -> List AV :=
 List.rec (motive := fun _ => Nat -> List AV) (fun _ => []) (fun c _ ih n => Nat.rec (motive := fun _ => List AV) c (fun m _ => ih m) n) t
theorem getLL_nil (n : Nat) : getLL [] n = [] := rfl
theorem getLL_zero (c : List AV) (t : FT) : getLL (c :: t) 0 = c := rfl
theorem getLL_succ (c : List AV) (t : FT) (n : Nat) : getLL (c :: t) (n + 1) = getLL t n := rfl
def getT (t : FT) (j : Nat) : AV := getL (getLL t (Nat.div j 16)) (Nat.mod j 16)
def setC (l : List AV) : Nat -> AV -> (List AV -> VC) -> VC :=
 List.rec (motive := fun _ => Nat -> AV -> (List AV -> VC) -> VC) (fun _ _ _ => .fail)
  (fun x l ih n a k => Nat.rec (motive := fun _ => VC) (k (a :: l)) (fun m _ => ih m a fun l' => k (x :: l')) n) l
theorem setC_nil (n : Nat) (a : AV) (k : List AV -> VC) : setC [] n a k = .fail := rfl
theorem setC_zero (x : AV) (l : List AV) (a : AV) (k : List AV -> VC) : setC (x :: l) 0 a k = k (a :: l) := rfl
theorem setC_succ (x : AV) (l : List AV) (n : Nat) (a : AV) (k : List AV -> VC) : setC (x :: l) (n + 1) a k = setC l n a fun l' => k (x :: l') := rfl
def setLL (t : FT) : Nat -> Nat -> AV -> (FT -> VC) -> VC :=
 List.rec (motive := fun _ => Nat -> Nat -> AV -> (FT -> VC) -> VC) (fun _ _ _ _ => .fail)
  (fun c t ih q r a k => Nat.rec (motive := fun _ => VC) (setC c r a fun c' => k (c' :: t)) (fun m _ => ih m r a fun t' => k (c :: t')) q) t
theorem setLL_nil (q r : Nat) (a : AV) (k : FT -> VC) : setLL [] q r a k = .fail := rfl
theorem setLL_zero (c : List AV) (t : FT) (r : Nat) (a : AV) (k : FT -> VC) : setLL (c :: t) 0 r a k = setC c r a fun c' => k (c' :: t) := rfl
theorem setLL_succ (c : List AV) (t : FT) (q r : Nat) (a : AV) (k : FT -> VC) : setLL (c :: t) (q + 1) r a k = setLL t q r a fun t' => k (c :: t') := rfl
def setFT (t : FT) (d : Nat) (a : AV) (k : FT -> VC) : VC := setLL t (Nat.div d 16) (Nat.mod d 16) a k
def setKT (t : FT) (d : Option Nat) (a : AV) (k : FT -> VC) : VC :=
 match d with
 | none => k t
 | some d => forceV a fun a' => setFT t d a' k
def mapT (f : Nat -> Option AV) : FT -> (FT -> VC) -> VC
 | [], k => k []
 | c :: t, k => forceLDN (mapR.mapRL f c) fun c' => mapT f t fun t' => k (c' :: t')
def mapTP : {g : (Nat -> Option AV) -> FT -> (FT -> VC) -> VC // mapT = g} := ⟨_, by delta mapT; rfl⟩
def mapTN : (Nat -> Option AV) -> FT -> (FT -> VC) -> VC := mapTP.1
theorem mapTN_eq : mapTN = mapT := mapTP.2.symm
def cleanFT : FT -> (FT -> VC) -> VC
 | [], k => k []
 | c :: t, k => cleanF c fun c' => cleanFT t fun t' => k (c' :: t')
def cleanFTP : {g : FT -> (FT -> VC) -> VC // cleanFT = g} := ⟨_, by delta cleanFT; rfl⟩
def cleanFTN : FT -> (FT -> VC) -> VC := cleanFTP.1
theorem cleanFTN_eq : cleanFTN = cleanFT := cleanFTP.2.symm
section
variable {R : AV -> Heap -> Prop}
theorem getL_app (l m : List AV) (n : Nat) : getL (l ++ m) n = if n < l.length then getL l n else getL m (n - l.length) := by
 rw [getL_eq, getL_eq, getL_eq]
 split
 ·rename_i h
  rw [List.getD_eq_getElem?_getD, List.getD_eq_getElem?_getD, List.getElem?_append_left h]
 ·rename_i h
  rw [List.getD_eq_getElem?_getD, List.getD_eq_getElem?_getD, List.getElem?_append_right (by omega)]
theorem getL_big {l : List AV} {n : Nat} (h : l.length <= n) : getL l n = .tup [] := by
 rw [getL_eq, List.getD_eq_getElem?_getD, List.getElem?_eq_none h]; rfl
theorem setL_app {l m : List AV} {n : Nat} {a : AV} : setL (l ++ m) n a = if n < l.length then setL l n a ++ m else l ++ setL m (n - l.length) a := by
 rw [setL_eq, setL_eq, setL_eq, List.set_append]
theorem getT_at : ∀ {t : FT}, WT t -> ∀ q r, r < 16 -> getL (flatT t) (16 * q + r) = getL (getLL t q) r
 | [], _, q, r, _ => by rw [getLL_nil]; rfl
 | c :: t, hw, 0, r, hr => by
   rw [getLL_zero]
   show getL (c ++ flatT t) (16 * 0 + r) = getL c r
   rw [getL_app, Nat.mul_zero, Nat.zero_add]
   split
   ·rfl
   ·rename_i h
    by_cases ht : t = []
    ·subst ht; rw [getL_big (l := c) (by omega)]; rfl
    ·have := hw.1.2 ht; omega
 | c :: t, hw, q + 1, r, hr => by
   rw [getLL_succ]
   show getL (c ++ flatT t) (16 * (q + 1) + r) = _
   rw [getL_app]
   have h1 := hw.1.1
   rw [if_neg (by omega)]
   by_cases ht : t = []
   ·subst ht; rw [getLL_nil]; rfl
   ·have h16 := hw.1.2 ht
    rw [show 16 * (q + 1) + r - c.length = 16 * q + r by omega]
    exact getT_at hw.2 q r hr
theorem getT_eq {t : FT} (hw : WT t) (j : Nat) : getT t j = getL (flatT t) j := by
 unfold getT
 have h1 : Nat.div j 16 = j / 16 := rfl
 have h2 : Nat.mod j 16 = j % 16 := rfl
 rw [h1, h2, <- getT_at hw _ _ (Nat.mod_lt _ (by decide)), Nat.div_add_mod]
theorem setC_sat : ∀ {l : List AV} {n : Nat} {a : AV} {k : List AV -> VC}, (setC l n a k).sat R -> n < l.length /\ (k (setL l n a)).sat R
 | [], n, a, k, h => by rw [setC_nil] at h; exact h.elim
 | x :: l, 0, a, k, h => by rw [setC_zero] at h; exact ⟨by simp, h⟩
 | x :: l, n + 1, a, k, h => by
   rw [setC_succ] at h
   obtain ⟨h1, h2⟩ := setC_sat h
   exact ⟨by simp; omega, h2⟩
theorem setLL_sat : ∀ {t : FT} {q r : Nat} {a : AV} {k : FT -> VC}, WT t -> (setLL t q r a k).sat R -> t ≠ [] /\ ∃ t', WT t' /\ t' ≠ [] /\ flatT t' = setL (flatT t) (16 * q + r) a /\ (k t').sat R
 | [], q, r, a, k, _, h => by rw [setLL_nil] at h; exact h.elim
 | c :: t, 0, r, a, k, hw, h => by
   rw [setLL_zero] at h
   obtain ⟨h1, h2⟩ := setC_sat h
   refine ⟨by simp, setL c r a :: t, ⟨by rw [len_setL]; exact hw.1, hw.2⟩, by simp, ?_, h2⟩
   show setL c r a ++ flatT t = setL (c ++ flatT t) (16 * 0 + r) a
   rw [setL_app, if_pos (by omega), Nat.mul_zero, Nat.zero_add]
 | c :: t, q + 1, r, a, k, hw, h => by
   rw [setLL_succ] at h
   obtain ⟨h0, t', h1, h2, h3, h4⟩ := setLL_sat hw.2 h
   have h16 := hw.1.2 h0
   refine ⟨by simp, c :: t', ⟨⟨hw.1.1, fun _ => h16⟩, h1⟩, by simp, ?_, h4⟩
   show c ++ flatT t' = setL (c ++ flatT t) (16 * (q + 1) + r) a
   rw [setL_app, if_neg (by omega), h3, show 16 * (q + 1) + r - c.length = 16 * q + r by omega]
theorem setFT_sat {t : FT} {d : Nat} {a : AV} {k : FT -> VC} (hw : WT t) (h : (setFT t d a k).sat R) : ∃ t', WT t' /\ flatT t' = setL (flatT t) d a /\ (k t').sat R := by
 obtain ⟨_, t', h1, _, h3, h4⟩ := setLL_sat hw h
 refine ⟨t', h1, ?_, h4⟩
 rw [h3, show 16 * Nat.div d 16 + Nat.mod d 16 = d from Nat.div_add_mod d 16]
theorem setKT_sat {t : FT} {d : Option Nat} {a : AV} {k : FT -> VC} (hw : WT t) (h : (setKT t d a k).sat R) : ∃ t', WT t' /\ flatT t' = setO (flatT t) d a /\ (k t').sat R := by
 cases d with
 | none => exact ⟨t, hw, rfl, h⟩
 | some d =>
   simp only [setKT, forceV_eq] at h
   exact setFT_sat hw h
theorem mapRL_cat (f : Nat -> Option AV) : ∀ (l m : List AV), mapR.mapRL f (l ++ m) = mapR.mapRL f l ++ mapR.mapRL f m
 | [], _ => rfl
 | a :: l, m => by simp [mapR.mapRL, mapRL_cat f l m]
theorem mapRL_len16 (f : Nat -> Option AV) : ∀ (l : List AV), (mapR.mapRL f l).length = l.length
 | [] => rfl
 | a :: l => by simp [mapR.mapRL, mapRL_len16 f l]
theorem mapT_sat {f : Nat -> Option AV} : ∀ {t : FT} {k : FT -> VC}, WT t -> (mapT f t k).sat R -> ∃ t', WT t' /\ (t' = [] ↔ t = []) /\ flatT t' = mapR.mapRL f (flatT t) /\ (k t').sat R
 | [], k, _, h => ⟨[], trivial, by simp, rfl, h⟩
 | c :: t, k, hw, h => by
   simp only [mapT, forceLDN_eq, forceLD_eq] at h
   obtain ⟨t', h1, h2, h3, h4⟩ := mapT_sat hw.2 h
   refine ⟨mapR.mapRL f c :: t', ⟨⟨by rw [mapRL_len16]; exact hw.1.1, fun hn => by rw [mapRL_len16]; exact hw.1.2 fun e => hn (h2.2 e)⟩, h1⟩, by simp, ?_, h4⟩
   show mapR.mapRL f c ++ flatT t' = mapR.mapRL f (c ++ flatT t)
   rw [mapRL_cat, h3]
theorem cleanL_app : ∀ (l m : List AV), cleanL (l ++ m) = cleanL l ++ cleanL m
 | [], _ => rfl
 | a :: l, m => by simp [cleanL, cleanL_app l m]
theorem cleanL_length : ∀ (l : List AV), (cleanL l).length = l.length
 | [] => rfl
 | a :: l => by simp [cleanL, cleanL_length l]
theorem cleanFT_sat : ∀ {t : FT} {k : FT -> VC}, WT t -> (cleanFT t k).sat R -> ∃ t', WT t' /\ (t' = [] ↔ t = []) /\ flatT t' = cleanL (flatT t) /\ (k t').sat R
 | [], k, _, h => ⟨[], trivial, by simp, rfl, h⟩
 | c :: t, k, hw, h => by
   simp only [cleanFT, cleanF_eq] at h
   obtain ⟨t', h1, h2, h3, h4⟩ := cleanFT_sat hw.2 h
   refine ⟨cleanL c :: t', ⟨⟨by rw [cleanL_length]; exact hw.1.1, fun hn => by rw [cleanL_length]; exact hw.1.2 fun e => hn (h2.2 e)⟩, h1⟩, by simp, ?_, h4⟩
   show cleanL c ++ flatT t' = cleanL (c ++ flatT t)
   rw [cleanL_app, h3]
theorem needs_mono {X Y : VC} (h : X.sat R -> Y.sat R) : ∀ {l : List Cd}, (needs l X).sat R -> (needs l Y).sat R
 | [], hx => h hx
 | p :: l, hx => ⟨hx.1, needs_mono h hx.2⟩
end
def AR.vcT (S : Sums) (nb : Bool) (r : AR) (fr : FT) (hp : Heap) (K : FT -> Heap -> AV -> VC) : VC :=
 match r with
 | .fail => .fail
 | .val a => forceD a (K fr hp)
 | .need p r => .need p (r.vcT S nb fr hp K)
 | .br b t e => .branch b (t.vcT S nb fr hp K) (e.vcT S nb fr hp K)
 | .blk b mk => hpLenK hp fun n => forceHN (appH hp [b]) fun hp' => K fr hp' (mk n)
 | .upd i b => (match nb with
   | true => forceHN (setB hp i b) fun hp' => K fr hp' (.tup [])
   | false => .fail)
 | .grow i b => (match nb && Nat.ble S.lo i with
   | true => mapTN (at1 i .top) fr fun fr' => forceHN (setB (mapH (at1 i .top) hp) i b) fun hp' => K fr' hp' (.row i)
   | false => .fail)
 | .frz j a r => (match nb && Nat.ble S.lo j with
   | true => mapTN (at1 j a) fr fun fr' => forceHN (setB (mapH (at1 j a) hp) j .dead) fun hp' => r.vcT S nb fr' hp' K
   | false => .fail)
 | .call f args => (match findS S.two f with
   | some s2 => (match nb && noRowsH hp, s2 args hp with
     | true, some ⟨pre, res, hp2, mv⟩ => (match Nat.ble hp.length hp2.length with
       | true => (match mv with
         | none => needsN pre (forceHN hp2 fun hp' => forceD res (K fr hp'))
         | some j => (match Nat.ble S.lo j with
           | true => needsN pre (mapTN (at1 j .top) fr fun fr' => forceHN hp2 fun hp' => forceD res (K fr' hp'))
           | false => .fail))
       | false => .fail)
     | _, _ => .fail)
   | none => (match findS S.one f with
     | some s1 => forceLDN (mapE hp args) fun args' => (match s1 args' with
       | some ⟨pre, res, new⟩ => (match callOKn args res new with
         | true => needsN pre (needsN (callNeeds args new) (hpLenK hp fun n => forceHN (appH hp (shiftHn n new)) fun hp' => forceD (shiftAN n res) (K fr hp')))
         | false => .fail)
       | none => .fail)
     | none => .fail))
def AR_vcTP : {g : Sums -> Bool -> AR -> FT -> Heap -> (FT -> Heap -> AV -> VC) -> VC // AR.vcT = g} := ⟨_, by delta AR.vcT; rfl⟩
def AR_vcTN : Sums -> Bool -> AR -> FT -> Heap -> (FT -> Heap -> AV -> VC) -> VC := AR_vcTP.1
theorem AR_vcTN_eq : AR_vcTN = AR.vcT := AR_vcTP.2.symm
section
variable {R : AV -> Heap -> Prop} {P : Program} {S : Sums}
theorem vcT_sat {nb : Bool} {K : List AV -> Heap -> AV -> VC} {KT : FT -> Heap -> AV -> VC} (hK : ∀ t hp a, WT t -> (KT t hp a).sat R -> (K (flatT t) hp a).sat R) :
  ∀ {r : AR} {t : FT} {hp : Heap}, WT t -> (r.vcT S nb t hp KT).sat R -> (r.vc S nb (flatT t) hp K).sat R
 | .fail, _, _, _, h => h
 | .val a, t, hp, hw, h => by
   simp only [AR.vcT, AR.vc, forceD_eq] at h ⊢
   exact hK _ _ _ hw h
 | .need p r, t, hp, hw, h => by
   simp only [AR.vcT, AR.vc, forceHN_eq, hpLenK_eq, forceLDN_eq, needsN_eq, mapTN_eq, callOKn_eq, shiftHn_eq, shiftAN_eq] at h ⊢
   exact ⟨h.1, vcT_sat hK hw h.2⟩
 | .br b r1 r2, t, hp, hw, h => by
   simp only [AR.vcT, AR.vc, forceHN_eq, hpLenK_eq, forceLDN_eq, needsN_eq, mapTN_eq, callOKn_eq, shiftHn_eq, shiftAN_eq] at h ⊢
   exact ⟨fun hb => vcT_sat hK hw (h.1 hb), fun hb => vcT_sat hK hw (h.2 hb)⟩
 | .blk b mk, t, hp, hw, h => by
   simp only [AR.vcT, AR.vc, forceHN_eq, hpLenK_eq, forceH_eq] at h ⊢
   exact hK _ _ _ hw h
 | .upd i b, t, hp, hw, h => by
   simp only [AR.vcT, AR.vc, forceHN_eq, hpLenK_eq, forceLDN_eq, needsN_eq, mapTN_eq, callOKn_eq, shiftHn_eq, shiftAN_eq] at h ⊢
   split at h
   ·simp only [forceH_eq] at h ⊢
    exact hK _ _ _ hw h
   ·exact h.elim
 | .grow i b, t, hp, hw, h => by
   simp only [AR.vcT, AR.vc, forceHN_eq, hpLenK_eq, forceLDN_eq, needsN_eq, mapTN_eq, callOKn_eq, shiftHn_eq, shiftAN_eq] at h ⊢
   split at h
   ·rename_i e
    rw [e]
    simp only [forceLD_eq]
    obtain ⟨t', h1, _, h3, h4⟩ := mapT_sat hw h
    simp only [forceH_eq] at h4 ⊢
    rw [<- h3]
    exact hK _ _ _ h1 h4
   ·exact h.elim
 | .frz j a r, t, hp, hw, h => by
   simp only [AR.vcT, AR.vc, forceHN_eq, hpLenK_eq, forceLDN_eq, needsN_eq, mapTN_eq, callOKn_eq, shiftHn_eq, shiftAN_eq] at h ⊢
   split at h
   ·rename_i e
    rw [e]
    simp only [forceLD_eq]
    obtain ⟨t', h1, _, h3, h4⟩ := mapT_sat hw h
    simp only [forceH_eq] at h4 ⊢
    rw [<- h3]
    exact vcT_sat hK h1 h4
   ·exact h.elim
 | .call f args, t, hp, hw, h => by
   simp only [AR.vcT, AR.vc, forceHN_eq, hpLenK_eq, forceLDN_eq, needsN_eq, mapTN_eq, callOKn_eq, shiftHn_eq, shiftAN_eq] at h ⊢
   split at h
   ·rename_i s2 e
    rw [e]
    simp only
    split at h
    ·rename_i pre res hp2 mv e0 e2
     rw [e0, e2]
     simp only
     split at h
     ·rename_i e3
      rw [e3]
      cases mv with
      | none =>
        simp only [forceH_eq, forceD_eq] at h ⊢
        exact needs_mono (hK _ _ _ hw) h
      | some j =>
        dsimp only at h ⊢
        split at h
        ·rename_i e4
         rw [e4]
         dsimp only
         refine needs_mono (fun h => ?_) h
         rw [forceLD_eq]
         obtain ⟨t', h1, _, h3, h4⟩ := mapT_sat hw h
         simp only [forceH_eq, forceD_eq] at h4 ⊢
         rw [<- h3]
         exact hK _ _ _ h1 h4
        ·exact h.elim
     ·exact h.elim
    ·exact h.elim
   ·rename_i e
    rw [e]
    simp only
    split at h
    ·rename_i s1 e1
     rw [e1]
     simp only [forceLD_eq] at h ⊢
     split at h
     ·rename_i pre res new e2
      rw [e2]
      simp only
      split at h
      ·rename_i e3
       rw [e3]
       simp only [forceH_eq, forceD_eq] at h ⊢
       exact needs_mono (needs_mono (hK _ _ _ hw)) h
      ·exact h.elim
     ·exact h.elim
    ·exact h.elim
end
end
end Abs
end Go.Proofs.Ytdfdjlijghjdaaa

namespace Go.Proofs.Ytdfdjlijghjdaaa
namespace Abs
open Go Go.RowKit
noncomputable section
def evT (t : FT) : Operand -> AV
 | .tmp i => getT t i
 | x => ev [] x
def branchKT (t : FT) (d : Nat) (K : Bool -> FT -> VC) : VC :=
 match getT t d with
 | .lb true => K true t
 | .lb false => K false t
 | .sb b => .branch b (setFT t d (.lb true) (K true)) (setFT t d (.lb false) (K false))
 | _ => .fail
def forceMT (anc : List Nat) (t : FT) : List Nat -> (List (Nat × AV) -> VC) -> VC
 | [], k => k []
 | i :: l, k => forceV (unGd anc (getT t i)) fun a => forceMT anc t l fun m => k ((i, a) :: m)
def forceMTP : {g : List Nat -> FT -> List Nat -> (List (Nat × AV) -> VC) -> VC // forceMT = g} := ⟨_, by delta forceMT; rfl⟩
def forceMTN : List Nat -> FT -> List Nat -> (List (Nat × AV) -> VC) -> VC := forceMTP.1
theorem forceMTN_eq : forceMTN = forceMT := forceMTP.2.symm
def runOpT (P : Program) (S : Sums) (nb : Bool) (ctx : Ctx) (T : List Cnd) (o : Oper) (fr : FT) (hp : Heap) (K : FT -> Heap -> VC) : VC :=
 match o.op with
 | .pick c a b => forceV (evT fr c) fun c' => forceV (evT fr a) fun a' => forceV (evT fr b) fun b' => pickK ctx T c' a' b' fun r => setKT fr o.dst r fun fr' => K fr' hp
 | op => (match ctx with
   | none => forceMTN [] fr (tmpsO (opnds op)) fun m => AR_vcTN S (turnOp op && nb) (aop P S (evM m) hp op) fr hp fun fr' hp' a => setKT fr' o.dst (noGd a) fun fr'' => K fr'' hp'
   | some (k, ⟨_, _, c, anc⟩) => forceMTN anc fr (tmpsO (opnds op)) fun m => vcCnN S k c (aop P S (evM m) hp op) hp fun hp' a => setKT fr o.dst a fun fr' => K fr' hp')
def lateIT (o : Oper) (fr : FT) : Bool := match o.op with
 | .call c => (match c.callee, c.args.toList with
   | .builtin .append, [.tmp t, _] => (match getT fr t with | .row _ => true | _ => false)
   | _, _ => false)
 | _ => false
def runLateT (P : Program) (S : Sums) (o : Oper) (fr : FT) (hp : Heap) (K : Nat -> FT -> Heap -> VC) : VC :=
 forceMTN [] fr (tmpsO (opnds o.op)) fun m => (match growOf (aop P S (evM m) hp o.op) with
  | some i => AR_vcTN S true (aop P S (evM m) hp o.op) fr hp fun fr' hp' a => setKT fr' o.dst (noGd a) fun fr'' => K i fr'' hp'
  | none => .fail)
def cleanTT (i : Nat) (fr : FT) : List Nat -> Bool
 | [] => true
 | t :: l => !(hasO i (getT fr t)) && cleanTT i fr l
def cleanDT (i : Nat) (d : Option Nat) (fr : FT) (n : Nat) (hp : Heap) : Bool := (match d with | none => true | some d => !(hasO i (getT fr d))) && !(hasOH i (dropH hp n))
def splKT (sp : Bool) (d : Option Nat) (fr : FT) (k : FT -> VC) : VC :=
 match sp with
 | false => k fr
 | true => (match d with
   | none => k fr
   | some d => (match getT fr d with
     | .sb b => .branch b (setFT fr d (.lb true) k) (setFT fr d (.lb false) k)
     | _ => k fr))
def runOpsT (P : Program) (S : Sums) (dr : Bool) (all : List Oper) : Option (Nat × Nat) -> Nat -> List Oper -> List Cnd -> FT -> Heap -> (FT -> Heap -> VC) -> VC
 | Z, n, [], _, fr, hp, K => (match Z with
   | none => cleanFTN fr fun fr' => K fr' hp
   | some (_, u) => (match Nat.ble u n with | true => cleanFTN fr fun fr' => K fr' hp | false => .fail))
 | some (i, u), n, o :: rest, T, fr, hp, K => (match Nat.blt n u with
   | false => .fail
   | true => (match o.guard, T, cleanTT i fr (looksL all o) with
     | none, [], true => runOpT P S false none [] o fr hp fun fr' hp' => (match cleanDT i o.dst fr' hp.length hp' with
       | true => (match Nat.beq (n + 1) u with
         | true => runOpsT P S dr all none (n + 1) rest [] fr' hp' K
         | false => runOpsT P S dr all (some (i, u)) (n + 1) rest [] fr' hp' K)
       | false => .fail)
     | _, _, _ => .fail))
 | none, n, o :: rest, T, fr, hp, K =>
   match o.guard with
   | none => (match dr, T, lateIT o fr with
     | true, [], true => (match barAt true all n with
       | true => runOpT P S true none T o fr hp fun fr' hp' => runOpsT P S dr all none (n + 1) rest T fr' hp' K
       | false => (match befAt all n, Nat.blt (n + 1) (lateN all n) with
         | true, true => runLateT P S o fr hp fun i fr' hp' => runOpsT P S dr all (some (i, lateN all n)) (n + 1) rest T fr' hp' K
         | _, _ => .fail))
     | _, _, _ => runOpT P S (barX P S dr all n T o (getT fr)) none T o fr hp fun fr' hp' => splKT (splB S n o all) o.dst fr' fun fr' => runOpsT P S dr all none (n + 1) rest T fr' hp' K)
   | some (j, want) => (match findC j want T 0 with
     | some kx => runOpT P S (barAt dr all n) (some kx) T o fr hp fun fr' hp' => runOpsT P S dr all none (n + 1) rest T fr' hp' K
     | none => (match dstOf all j with
       | none => .fail
       | some d => (match getT fr d with
         | .tup [] => setKT fr o.dst (.tup []) fun fr' => runOpsT P S dr all none (n + 1) rest T fr' hp K
         | .lb b => (match b == want with
           | true => runOpT P S (barAt dr all n) none T o fr hp fun fr' hp' => runOpsT P S dr all none (n + 1) rest T fr' hp' K
           | false => setKT fr o.dst (.tup []) fun fr' => runOpsT P S dr all none (n + 1) rest T fr' hp K)
         | .sb b => boolW want b fun c => lenKN T fun lt => forceTN (addC T ⟨j, want, c, [lt]⟩) fun T' =>
           runOpT P S (barAt dr all n) (some (lt, ⟨j, want, c, [lt]⟩)) T' o fr hp fun fr' hp' => runOpsT P S dr all none (n + 1) rest T' fr' hp' K
         | .gd p (.lb b) => (match b == want, T[p]? with
           | true, some x => runOpT P S (barAt dr all n) (some (p, x)) T o fr hp fun fr' hp' => runOpsT P S dr all none (n + 1) rest T fr' hp' K
           | false, some _ => setKT fr o.dst (.tup []) fun fr' => runOpsT P S dr all none (n + 1) rest T fr' hp K
           | _, none => .fail)
         | .gd p (.sb b) => (match T[p]? with
           | none => .fail
           | some ⟨_, _, cx, anc⟩ => boolW want b fun c => lenKN T fun lt => forceTN (addC T ⟨j, want, band cx c, lt :: anc⟩) fun T' =>
             runOpT P S (barAt dr all n) (some (lt, ⟨j, want, band cx c, lt :: anc⟩)) T' o fr hp fun fr' hp' =>
              runOpsT P S dr all none (n + 1) rest T' fr' hp' K)
         | _ => .fail)))
def runOpsTP : {g : Program -> Sums -> Bool -> List Oper -> Option (Nat × Nat) -> Nat -> List Oper -> List Cnd -> FT -> Heap -> (FT -> Heap -> VC) -> VC // runOpsT = g} := ⟨_, by delta runOpsT; rfl⟩
def runOpsTN : Program -> Sums -> Bool -> List Oper -> Option (Nat × Nat) -> Nat -> List Oper -> List Cnd -> FT -> Heap -> (FT -> Heap -> VC) -> VC := runOpsTP.1
theorem runOpsTN_eq : runOpsTN = runOpsT := runOpsTP.2.symm
section
variable {R : AV -> Heap -> Prop} {P : Program} {S : Sums} {t : FT}
theorem evT_eq (hw : WT t) (x : Operand) : evT t x = ev (flatT t) x := by
 cases x with
 | tmp i => exact getT_eq hw i
 | const v => cases v <;> rfl
 | global g => rfl
 | func f => rfl
theorem branchKT_sat {d : Nat} {K : Bool -> List AV -> VC} {KT : Bool -> FT -> VC} (hK : ∀ b t, WT t -> (KT b t).sat R -> (K b (flatT t)).sat R) (hw : WT t) (h : (branchKT t d KT).sat R) : (branchK (flatT t) d K).sat R := by
 unfold branchKT at h
 unfold branchK
 rw [getT_eq hw] at h
 split at h
 ·rename_i e; rw [e]; exact hK _ _ hw h
 ·rename_i e; rw [e]; exact hK _ _ hw h
 ·rename_i b e
  rw [e]
  refine ⟨fun hb => ?_, fun hb => ?_⟩
  ·obtain ⟨t', h1, h2, h3⟩ := setFT_sat hw (h.1 hb)
   rw [setF_eq, <- h2]; exact hK _ _ h1 h3
  ·obtain ⟨t', h1, h2, h3⟩ := setFT_sat hw (h.2 hb)
   rw [setF_eq, <- h2]; exact hK _ _ h1 h3
 ·exact h.elim
theorem forceMT_eq (hw : WT t) (anc : List Nat) : ∀ (l : List Nat) (k : List (Nat × AV) -> VC), forceMT anc t l k = forceM anc (flatT t) l k
 | [], _ => rfl
 | i :: l, k => by
   simp only [forceMT, forceM, getT_eq hw]
   congr 1
   funext a
   exact forceMT_eq hw anc l _
theorem setKT_mono {d : Option Nat} {a : AV} {K : List AV -> VC} {KT : FT -> VC} (hK : ∀ t, WT t -> (KT t).sat R -> (K (flatT t)).sat R) (hw : WT t) (h : (setKT t d a KT).sat R) : (setK (flatT t) d a K).sat R := by
 obtain ⟨t', h1, h2, h3⟩ := setKT_sat hw h
 rw [setK_eq, <- h2]
 exact hK _ h1 h3
theorem needsC_mono {X Y : VC} (c : Bool) (h : X.sat R -> Y.sat R) : ∀ {l : List Cd}, (needsC c l X).sat R -> (needsC c l Y).sat R
 | [], hx => h hx
 | p :: l, hx => ⟨hx.1, needsC_mono c h hx.2⟩
theorem needO_mono {ctx : Ctx} {cb w : Bool} {g : Option Bool} {X Y : VC} (h : X.sat R -> Y.sat R) (hx : (needO ctx cb w g X).sat R) : (needO ctx cb w g Y).sat R := by
 unfold needO at hx ⊢
 cases g with
 | none => exact h hx
 | some y =>
   cases ctx with
   | none => exact ⟨hx.1, h hx.2⟩
   | some z => obtain ⟨k, c⟩ := z; exact ⟨hx.1, h hx.2⟩
theorem pickK_mono {ctx : Ctx} {T : List Cnd} {c a b : AV} {k1 k2 : AV -> VC} (hk : ∀ r, (k1 r).sat R -> (k2 r).sat R) (h : (pickK ctx T c a b k1).sat R) : (pickK ctx T c a b k2).sat R := by
 unfold pickK at h ⊢
 split at h
 ·rename_i e
  try rw [e]
  try simp only at h ⊢
  split at h
  ·exact h.elim
  ·rename_i e2
   simp only [forceD_eq] at h ⊢
   exact hk _ h
 ·rename_i e
  try rw [e]
  try simp only at h ⊢
  split at h
  ·exact h.elim
  ·rename_i e2
   simp only [forceD_eq] at h ⊢
   exact hk _ h
 ·rename_i cb e
  try rw [e]
  try simp only at h ⊢
  split at h
  ·rename_i a' ga b' gb e1 e2
   try rw [e1, e2]
   try simp only
   refine needO_mono (needO_mono fun hh => ?_) h
   split at hh <;> first | exact hk _ hh | exact hh.elim
  ·exact h.elim
 ·exact h.elim
theorem vcC_mono {k : Nat} {c : Bool} {k1 k2 : Heap -> AV -> VC} (hk : ∀ hp a, (k1 hp a).sat R -> (k2 hp a).sat R) : ∀ {r : AR} {hp : Heap}, (r.vcC S k c hp k1).sat R -> (r.vcC S k c hp k2).sat R
 | .fail, _, h => by simp only [AR.vcC] at h; exact h.elim
 | .val a, hp, h => by simp only [AR.vcC, forceD_eq] at h ⊢; exact hk _ _ h
 | .need p r, hp, h => by simp only [AR.vcC] at h ⊢; exact ⟨h.1, vcC_mono hk h.2⟩
 | .br b r1 r2, hp, h => by simp only [AR.vcC] at h ⊢; exact ⟨fun hb => vcC_mono hk (h.1 hb), fun hb => vcC_mono hk (h.2 hb)⟩
 | .blk b mk, hp, h => by simp only [AR.vcC, forceH_eq] at h ⊢; exact hk _ _ h
 | .upd _ _, _, h => by simp only [AR.vcC] at h; exact h.elim
 | .grow _ _, _, h => by simp only [AR.vcC] at h; exact h.elim
 | .frz _ _ _, _, h => by simp only [AR.vcC] at h; exact h.elim
 | .call f args, hp, h => by
   simp only [AR.vcC] at h ⊢
   split at h
   ·exact h.elim
   ·rename_i e
    try rw [e]
    try simp only
    split at h
    ·rename_i s1 e1
     try rw [e1]
     simp only [forceLD_eq] at h ⊢
     split at h
     ·rename_i pre res new e2
      try rw [e2]
      try simp only
      split at h
      ·rename_i e3
       try rw [e3]
       simp only [forceH_eq, forceD_eq] at h ⊢
       exact needsC_mono c (needsC_mono c (hk _ _)) h
      ·exact h.elim
     ·exact h.elim
    ·exact h.elim
theorem runOpT_sat {nb : Bool} {ctx : Ctx} {T : List Cnd} {o : Oper} {hp : Heap} {K : List AV -> Heap -> VC} {KT : FT -> Heap -> VC} (hK : ∀ t hp, WT t -> (KT t hp).sat R -> (K (flatT t) hp).sat R) (hw : WT t)
  (h : (runOpT P S nb ctx T o t hp KT).sat R) : (runOp P S nb ctx T o (flatT t) hp K).sat R := by
 unfold runOpT at h
 unfold runOp
 generalize o.op = op at h ⊢
 cases op
 case pick c a b =>
  simp only [forceV_eq, evT_eq hw] at h ⊢
  exact pickK_mono (fun r hr => setKT_mono (K := fun fr' => K fr' hp) (fun t' hw' => hK t' hp hw') hw hr) h
 all_goals
  simp only at h ⊢
  cases ctx with
  | none =>
    dsimp only at h ⊢
    simp only [forceMTN_eq, AR_vcTN_eq, vcCnN_eq, vcCn_eq, forceMT_eq hw] at h
    rw [forceM_eq] at h ⊢
    exact vcT_sat (K := fun fr' hp' a => setK fr' o.dst (noGd a) fun fr'' => K fr'' hp') (fun t' hp' a hw' hh => setKT_mono (K := fun fr'' => K fr'' hp') (fun t'' hw'' => hK t'' hp' hw'') hw' hh) hw h
  | some x =>
    obtain ⟨k, j, want, c, anc⟩ := x
    dsimp only at h ⊢
    simp only [forceMTN_eq, AR_vcTN_eq, vcCnN_eq, vcCn_eq, forceMT_eq hw] at h
    rw [forceM_eq] at h ⊢
    exact vcC_mono (fun hp' a hh => setKT_mono (K := fun fr'' => K fr'' hp') (fun t'' hw'' => hK t'' hp' hw'') hw hh) h
theorem lateIT_eq (hw : WT t) (o : Oper) : lateIT o t = lateI o (flatT t) := by
 unfold lateIT lateI
 simp only [getT_eq hw]
 rfl
theorem cleanTT_eq (hw : WT t) (i : Nat) : ∀ l, cleanTT i t l = cleanT i (flatT t) l
 | [] => rfl
 | x :: l => by simp only [cleanTT, cleanT, getT_eq hw, cleanTT_eq hw i l]
theorem cleanDT_eq (hw : WT t) (i : Nat) (d : Option Nat) (n : Nat) (hp : Heap) : cleanDT i d t n hp = cleanD i d (flatT t) n hp := by
 unfold cleanDT cleanD
 simp only [getT_eq hw]
 rfl
theorem runLateT_sat {o : Oper} {hp : Heap} {K : Nat -> List AV -> Heap -> VC} {KT : Nat -> FT -> Heap -> VC} (hK : ∀ i t hp, WT t -> (KT i t hp).sat R -> (K i (flatT t) hp).sat R) (hw : WT t)
  (h : (runLateT P S o t hp KT).sat R) : (runLate P S o (flatT t) hp K).sat R := by
 unfold runLateT at h
 unfold runLate
 simp only [forceMTN_eq, AR_vcTN_eq, forceMT_eq hw] at h
 rw [forceM_eq] at h
 rw [forceM_eq]
 split at h
 ·rename_i i e
  rw [e]
  simp only
  exact vcT_sat (K := fun fr' hp' a => setK fr' o.dst (noGd a) fun fr'' => K i fr'' hp') (fun t' hp' a hw' hh => setKT_mono (K := fun fr'' => K i fr'' hp') (fun t'' hw'' => hK i t'' hp' hw'') hw' hh) hw h
 ·exact h.elim
theorem cleanFT_mono {hp : Heap} {K : List AV -> Heap -> VC} {KT : FT -> Heap -> VC} (hK : ∀ t hp, WT t -> (KT t hp).sat R -> (K (flatT t) hp).sat R) (hw : WT t)
  (h : (cleanFT t fun t' => KT t' hp).sat R) : (cleanF (flatT t) fun fr => K fr hp).sat R := by
 obtain ⟨t', h1, _, h3, h4⟩ := cleanFT_sat hw h
 rw [cleanF_eq, <- h3]
 exact hK _ _ h1 h4
theorem splKT_sat {sp : Bool} {d : Option Nat} {k : List AV -> VC} {kT : FT -> VC} (hk : ∀ t, WT t -> (kT t).sat R -> (k (flatT t)).sat R) {t : FT} (hw : WT t) (h : (splKT sp d t kT).sat R) : (splK sp d (flatT t) k).sat R := by
 unfold splKT at h
 unfold splK
 split at h
 ·exact hk _ hw h
 ·split at h
  ·exact hk _ hw h
  ·rename_i e
   dsimp only
   rw [getT_eq hw] at h
   split at h
   ·rename_i c hv
    rw [hv]
    refine ⟨fun hb => ?_, fun hb => ?_⟩
    ·obtain ⟨t', h1, h2, h3⟩ := setFT_sat hw (h.1 hb)
     rw [setF_eq, <- h2]; exact hk _ h1 h3
    ·obtain ⟨t', h1, h2, h3⟩ := setFT_sat hw (h.2 hb)
     rw [setF_eq, <- h2]; exact hk _ h1 h3
   ·rename_i hno
    split
    ·rename_i c hv; exact (hno c hv).elim
    ·exact hk _ hw h
theorem runOpsT_sat {dr : Bool} {all : List Oper} {K : List AV -> Heap -> VC} {KT : FT -> Heap -> VC} (hK : ∀ t hp, WT t -> (KT t hp).sat R -> (K (flatT t) hp).sat R) :
  ∀ (l : List Oper) (Z : Option (Nat × Nat)) (n : Nat) (T : List Cnd) (t : FT) (hp : Heap), WT t -> (runOpsT P S dr all Z n l T t hp KT).sat R -> (runOps P S dr all Z n l T (flatT t) hp K).sat R := by
 intro l
 induction l with
 | nil =>
   intro Z n T t hp hw h
   cases Z with
   | none =>
     simp only [runOpsT, runOps, cleanFTN_eq, forceTN_eq, lenKN_eq] at h ⊢
     exact cleanFT_mono hK hw h
   | some z =>
     obtain ⟨i, u⟩ := z
     simp only [runOpsT, runOps, cleanFTN_eq, forceTN_eq, lenKN_eq] at h ⊢
     cases hb : Nat.ble u n with
     | true => rw [hb] at h; exact cleanFT_mono hK hw h
     | false => rw [hb] at h; exact h.elim
 | cons o rest ih =>
   intro Z n T t hp hw h
   have stp : ∀ {nb : Bool} {ctx : Ctx} {T1 T2 : List Cnd} {Z' : Option (Nat × Nat)} {m : Nat}, (runOpT P S nb ctx T1 o t hp fun fr' hp' => runOpsT P S dr all Z' m rest T2 fr' hp' KT).sat R ->
     (runOp P S nb ctx T1 o (flatT t) hp fun fr' hp' => runOps P S dr all Z' m rest T2 fr' hp' K).sat R := fun hh =>
    runOpT_sat (K := fun fr' hp' => runOps P S dr all _ _ rest _ fr' hp' K) (fun t' hp' hw' => ih _ _ _ t' hp' hw') hw hh
   have skp : ∀ {T2 : List Cnd} {Z' : Option (Nat × Nat)} {m : Nat}, (setKT t o.dst (.tup []) fun fr' => runOpsT P S dr all Z' m rest T2 fr' hp KT).sat R -> (setK (flatT t) o.dst (.tup []) fun fr' => runOps P S dr all Z' m rest T2 fr' hp K).sat R := fun hh =>
    setKT_mono (K := fun fr' => runOps P S dr all _ _ rest _ fr' hp K) (fun t' hw' => ih _ _ _ t' hp hw') hw hh
   cases Z with
   | some z =>
     obtain ⟨i, u⟩ := z
     simp only [runOpsT, runOps, cleanFTN_eq, forceTN_eq, lenKN_eq] at h ⊢
     rw [cleanTT_eq hw] at h
     cases hb : Nat.blt n u with
     | false => rw [hb] at h; exact h.elim
     | true =>
       rw [hb] at h
       dsimp only at h ⊢
       cases hg : o.guard with
       | some x => rw [hg] at h; exact h.elim
       | none =>
         rw [hg] at h
         cases T with
         | cons x T => exact h.elim
         | nil =>
           cases hc : cleanT i (flatT t) (looksL all o) with
           | false => rw [hc] at h; exact h.elim
           | true =>
             rw [hc] at h
             dsimp only at h ⊢
             refine runOpT_sat (K := fun fr' hp' => match cleanD i o.dst fr' hp.length hp' with
              | true => (match Nat.beq (n + 1) u with
                | true => runOps P S dr all none (n + 1) rest [] fr' hp' K
                | false => runOps P S dr all (some (i, u)) (n + 1) rest [] fr' hp' K)
              | false => .fail) (fun t' hp' hw' hh => ?_) hw h
             rw [cleanDT_eq hw'] at hh
             cases hd : cleanD i o.dst (flatT t') hp.length hp' with
             | false => rw [hd] at hh; exact hh.elim
             | true =>
               rw [hd] at hh
               dsimp only at hh ⊢
               cases he : Nat.beq (n + 1) u with
               | true => rw [he] at hh; exact ih _ _ _ t' hp' hw' hh
               | false => rw [he] at hh; exact ih _ _ _ t' hp' hw' hh
   | none =>
     simp only [runOpsT, runOps, cleanFTN_eq, forceTN_eq, lenKN_eq] at h ⊢
     rw [lateIT_eq hw] at h
     cases hg : o.guard with
     | none =>
       rw [hg] at h
       dsimp only at h ⊢
       split at h
       ·rename_i hl
        rw [hl]
        dsimp only
        cases hb : barAt true all n with
        | true => rw [hb] at h; exact stp h
        | false =>
          rw [hb] at h
          dsimp only at h ⊢
          cases hbe : befAt all n with
          | false => rw [hbe] at h; exact h.elim
          | true =>
            rw [hbe] at h
            cases hbl : Nat.blt (n + 1) (lateN all n) with
            | false => rw [hbl] at h; exact h.elim
            | true =>
              rw [hbl] at h
              dsimp only at h ⊢
              exact runLateT_sat (K := fun i fr' hp' => runOps P S true all (some (i, lateN all n)) (n + 1) rest [] fr' hp' K) (fun i t' hp' hw' => ih _ _ _ t' hp' hw') hw h
       ·rename_i hno
        split
        ·rename_i h1 h2
         exact (hno rfl rfl (by assumption)).elim
        ·have hg2 : getT t = getL (flatT t) := funext fun i => getT_eq hw i
         rw [hg2] at h
         exact runOpT_sat (K := fun fr' hp' => splK (splB S n o all) o.dst fr' fun fr' => runOps P S _ all none (n + 1) rest _ fr' hp' K) (fun t' hp' hw' hh => splKT_sat (fun t'' hw'' => ih _ _ _ t'' hp' hw'') hw' hh) hw h
     | some x =>
       obtain ⟨j, want⟩ := x
       rw [hg] at h
       dsimp only at h ⊢
       cases hf : findC j want T 0 with
       | some kx => rw [hf] at h; exact stp h
       | none =>
         rw [hf] at h
         dsimp only at h ⊢
         cases hd : dstOf all j with
         | none => rw [hd] at h; exact h.elim
         | some d =>
           rw [hd] at h
           dsimp only at h ⊢
           rw [getT_eq hw] at h
           split at h
           ·rename_i e; rw [e]; exact skp h
           ·rename_i b e
            rw [e]
            dsimp only at h ⊢
            cases hb : (b == want) with
            | true => rw [hb] at h; exact stp h
            | false => rw [hb] at h; exact skp h
           ·rename_i b e
            rw [e]
            dsimp only at h ⊢
            rw [boolW_eq, lenK_eq, forceT_eq] at h ⊢
            exact stp h
           ·rename_i p b e
            rw [e]
            dsimp only at h ⊢
            cases hb : (b == want) with
            | true =>
              rw [hb] at h
              cases hT : T[p]? with
              | none => rw [hT] at h; exact h.elim
              | some x => rw [hT] at h; exact stp h
            | false =>
              rw [hb] at h
              cases hT : T[p]? with
              | none => rw [hT] at h; exact h.elim
              | some x => rw [hT] at h; exact skp h
           ·rename_i p b e
            rw [e]
            dsimp only at h ⊢
            cases hT : T[p]? with
            | none => rw [hT] at h; exact h.elim
            | some x =>
              obtain ⟨q1, q2, cx, anc⟩ := x
              rw [hT] at h
              dsimp only at h ⊢
              rw [boolW_eq, lenK_eq, forceT_eq] at h ⊢
              exact stp h
           ·exact h.elim
end
end
end Abs
end Go.Proofs.Ytdfdjlijghjdaaa
