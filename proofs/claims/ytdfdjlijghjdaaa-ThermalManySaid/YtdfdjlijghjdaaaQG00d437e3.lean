/- A part of the proof: no statement of its own. -/
import Derived.Test.YtdfdjlijghjdaaaQG202c3d4f
import Derived.WalkSpells
set_option linter.unusedSimpArgs false
set_option linter.unusedVariables false
namespace Go.Proofs.Ytdfdjlijghjdaaa
namespace Abs
open Go Go.RowKit
def frsG (dd : Nat -> Option Nat) (fr0 : List AV) (L : List Info) : Nat -> List AV
 | 0 => fr0
 | q + 1 => setO (frsG dd fr0 L q) (dd q) ((L.getD q default).val)
theorem frsG_len (dd : Nat -> Option Nat) (fr0 : List AV) (L : List Info) : ∀ q, (frsG dd fr0 L q).length = fr0.length
 | 0 => rfl
 | q + 1 => by simp only [frsG]; rw [len_setO, frsG_len dd fr0 L q]
theorem getL_setO {fr : List AV} {d : Option Nat} {a : AV} {t : Nat} : getL (setO fr d a) t = if d = some t /\ t < fr.length then a else getL fr t := by
 cases d with
 | none => simp [setO]
 | some d =>
   simp only [setO, getL_set]
   by_cases h : t = d
   ·subst h; simp
   ·simp [h, Ne.symm h]
theorem frsG_val (dd : Nat -> Option Nat) (fr0 : List AV) (L : List Info) (t : Nat) : ∀ q,
  (∃ p, p < q /\ dd p = some t /\ t < fr0.length /\ getL (frsG dd fr0 L q) t = (L.getD p default).val) \/
  (((∀ p, p < q -> dd p ≠ some t) \/ fr0.length <= t) /\ getL (frsG dd fr0 L q) t = getL fr0 t)
 | 0 => .inr ⟨.inl fun p h => by omega, rfl⟩
 | q + 1 => by
   simp only [frsG]
   rw [getL_setO, frsG_len]
   by_cases hd : dd q = some t /\ t < fr0.length
   ·rw [if_pos hd]
    exact .inl ⟨q, by omega, hd.1, hd.2, rfl⟩
   ·rw [if_neg hd]
    rcases frsG_val dd fr0 L t q with ⟨p, h1, h2, h3, h4⟩ | ⟨h1, h2⟩
    ·exact .inl ⟨p, by omega, h2, h3, h4⟩
    ·refine .inr ⟨?_, h2⟩
     rcases h1 with h1 | h1
     ·by_cases hlt : t < fr0.length
      ·refine .inl fun p hp => ?_
       rcases Nat.lt_or_ge p q with hpq | hpq
       ·exact h1 p hpq
       ·obtain rfl : p = q := by omega
        exact fun e => hd ⟨e, hlt⟩
      ·exact .inr (by omega)
     ·exact .inr h1
theorem frs_eq (all : List Oper) (s : Nat) (fr0 : List AV) (L : List Info) : ∀ q, frs all s fr0 L q = frsG (fun q => dstOf all (s + q)) fr0 L q
 | 0 => rfl
 | q + 1 => by simp only [frs, frsG]; rw [frs_eq all s fr0 L q]
theorem frsG_congr {dd dd' : Nat -> Option Nat} {fr0 : List AV} {L L' : List Info} : ∀ {q : Nat}, (∀ p, p < q -> dd p = dd' p /\ L.getD p default = L'.getD p default) -> frsG dd fr0 L q = frsG dd' fr0 L' q
 | 0, _ => rfl
 | q + 1, h => by simp only [frsG]; rw [frsG_congr fun p hp => h p (by omega), (h q (by omega)).1, (h q (by omega)).2]
theorem hps_congr {hp0 : Heap} {L L' : List Info} : ∀ {q : Nat}, (∀ p, p < q -> L.getD p default = L'.getD p default) -> hps hp0 L q = hps hp0 L' q
 | 0, _ => rfl
 | q + 1, h => by simp only [hps]; rw [hps_congr fun p hp => h p (by omega), h q (by omega)]
theorem getD_cat_l {L M : List Info} {q : Nat} (h : q < L.length) : (L ++ M).getD q default = L.getD q default := by
 rw [List.getD_eq_getElem?_getD, List.getD_eq_getElem?_getD, List.getElem?_append_left h]
theorem getD_cat_r {L M : List Info} {q : Nat} : (L ++ M).getD (L.length + q) default = M.getD q default := by
 rw [List.getD_eq_getElem?_getD, List.getD_eq_getElem?_getD, List.getElem?_append_right (by omega)]; simp
theorem getD_take {L : List Info} {m q : Nat} (h : q < m) : (L.take m).getD q default = L.getD q default := by
 rw [List.getD_eq_getElem?_getD, List.getD_eq_getElem?_getD, List.getElem?_take_of_lt h]
theorem hps_cat (hp0 : Heap) (L M : List Info) : ∀ q, hps hp0 (L ++ M) (L.length + q) = hps (hps hp0 L L.length) M q
 | 0 => hps_congr fun p hp => getD_cat_l hp
 | q + 1 => by
   show hps hp0 (L ++ M) (L.length + q + 1) = _
   simp only [hps]
   rw [hps_cat hp0 L M q, getD_cat_r]
section
variable {P : Program} {S : Sums} {C C' : Cx} {w w' : World} {H hp : Heap} {T T1 T' : List Cnd} {all : List Oper}
structure Core (dd : Nat -> Option Nat) (dn : Nat -> Prop) (fr0 : List AV) (hp0 : Heap) (L : List Info) (T' : List Cnd) (C : Cx) (w : World) (act : Act) : Prop where
 hr : HR C (hps hp0 L L.length) w
 free : ∀ q, q < L.length -> ¬ dn q -> ∀ t, t < (L.getD q default).new.length -> C.ρ ((hps hp0 L q).length + t) = none
 v1 : ∀ q, q < L.length -> dn q -> ∀ t, dd q = some t -> t < fr0.length -> RelG T' C w (L.getD q default).val (act.tmps.getD t undef)
 v2 : ∀ t, ((∀ q, q < L.length -> dn q -> dd q ≠ some t) \/ fr0.length <= t) -> RelG T' C w (getL fr0 t) (act.tmps.getD t undef)
 tsz : fr0.length = act.tmps.size
section
variable {dd : Nat -> Option Nat} {dn dn' : Nat -> Prop} {fr0 : List AV} {hp0 : Heap} {L : List Info} {act : Act}
theorem Core.look (hi : Core dd dn fr0 hp0 L T' C w act) {q : Nat} (hq : q <= L.length) {t : Nat} (h1 : ∀ p, p < q -> dd p = some t -> dn p)
  (h2 : (∀ p, q <= p -> p < L.length -> dn p -> dd p ≠ some t) \/ fr0.length <= t) : RelG T' C w (getL (frsG dd fr0 L q) t) (act.tmps.getD t undef) := by
 rcases frsG_val dd fr0 L t q with ⟨p, g1, g2, g3, g4⟩ | ⟨g1, g2⟩
 ·rw [g4]; exact hi.v1 p (by omega) (h1 p g1 g2) t g2 g3
 ·rw [g2]
  refine hi.v2 t ?_
  rcases g1 with g1 | g1
  ·rcases h2 with h2 | h2
   ·refine .inl fun p hp hl => ?_
    rcases Nat.lt_or_ge p q with h | h
    ·exact g1 p h
    ·exact h2 p h hp hl
   ·exact .inr h2
  ·exact .inr g1
theorem hps_new {q : Nat} (hq : q < L.length) : ∃ r, hps hp0 L L.length = hps hp0 L q ++ ((L.getD q default).new ++ r) := by
 obtain ⟨r0, hr0⟩ := hps_le hp0 L (p := q + 1) (q := L.length) (by omega)
 exact ⟨r0, by rw [hr0]; simp [hps]⟩
theorem hps_pre {q : Nat} (hq : q < L.length) : Pre (hps hp0 L q) (hps hp0 L L.length) := fun k hk => by
 obtain ⟨r, hr⟩ := hps_new (hp0 := hp0) hq
 rw [hr, getB_append _ _ _ hk]
theorem hps_at {q : Nat} (hq : q < L.length) {t : Nat} (ht : t < (L.getD q default).new.length) : getB (hps hp0 L L.length) ((hps hp0 L q).length + t) = getB (L.getD q default).new t := by
 obtain ⟨r, hr⟩ := hps_new (hp0 := hp0) hq
 rw [hr, getB_append_r, getB_append _ _ _ ht]
theorem Core.ff (hi : Core dd dn fr0 hp0 L T' C w act) {q : Nat} (hq : q < L.length) (hn : ¬ dn q) : Free C (hps hp0 L L.length) (hps hp0 L q) (L.getD q default).new := fun t ht =>
 ⟨hps_at hq ht, hi.free q hq hn t ht⟩
theorem Core.next (hi : Core dd dn fr0 hp0 L T' C w act) {q : Nat} (hq : q < L.length) (hn : ¬ dn q) (hd : ∀ p, p < L.length -> (dn' p ↔ dn p \/ p = q))
  (huq : ∀ p, p < L.length -> p ≠ q -> ∀ t, dd q = some t -> dd p ≠ some t) {v : Value}
  (h1 : HR C' (hps hp0 L L.length) w') (h2 : RelG T' C' w' (L.getD q default).val v) (h3 : Grow (hps hp0 L q).length (L.getD q default).new.length C w C' w') : Core dd dn' fr0 hp0 L T' C' w' (act.put (dd q) v) := by
 have hx := h3.cext (hi.ff hq hn).none hi.hr.ilt
 refine ⟨h1, fun q' hq' hn' t ht => ?_, fun q' hq' hl t hdt hlt' => ?_, fun t ht => ?_, ?_⟩
 ·have hn2 : ¬ dn q' /\ q' ≠ q := ⟨fun h => hn' ((hd _ hq').2 (.inl h)), fun h => hn' ((hd _ hq').2 (.inr h))⟩
  have hold := hi.free q' hq' hn2.1 t ht
  rw [h3.rho _ ?_]
  ·exact hold
  ·rcases Nat.lt_or_ge q' q with hlt | hge
   ·obtain ⟨r, hr⟩ := hps_le hp0 L (p := q' + 1) (q := q) hlt
    left
    rw [hr]; simp only [hps, List.length_append]; omega
   ·obtain ⟨r, hr⟩ := hps_le hp0 L (p := q + 1) (q := q') (by omega)
    right
    rw [hr]; simp only [hps, List.length_append]; omega
 ·rw [put_get]
  rcases (hd _ hq').1 hl with h | h
  ·have hne : q' ≠ q := fun e => hn (e ▸ h)
   rw [if_neg]
   ·exact (hi.v1 q' hq' h t hdt hlt').mono hx
   ·rintro ⟨hd', _⟩
    exact huq q' hq' hne t hd' hdt
  ·subst h
   rw [if_pos ⟨hdt, by rw [<- hi.tsz]; exact hlt'⟩]
   exact h2
 ·rw [put_get, if_neg]
  ·refine (hi.v2 t (ht.imp (fun h p hp hl => h p hp ((hd _ hp).2 (.inl hl))) id)).mono hx
  ·rintro ⟨hd', hlt'⟩
   rcases ht with ht | ht
   ·exact ht q hq ((hd _ hq).2 (.inr rfl)) hd'
   ·rw [<- hi.tsz] at hlt'; omega
 ·rw [hi.tsz]; cases dd q <;> simp [Act.put]
theorem Core.frame (hi : Core dd dn fr0 hp0 L T' C w act) (hall : ∀ q, q < L.length -> dn q) : FR T' C w (frsG dd fr0 L L.length) act.tmps :=
 ⟨by rw [frsG_len]; exact hi.tsz, fun t => hi.look (Nat.le_refl _) (fun p hp _ => hall p hp) (.inl fun p h1 h2 => by omega)⟩
end
mutual
theorem mapR_clean {i : Nat} {x : AV} : ∀ {a : AV}, hasO i a = false -> mapR (at1 i x) a = a
 | .own j _, h => by simp only [hasO] at h; simp only [mapR]; rw [at1_ne (fun e => by subst e; simp at h)]
 | .elt j _ _ _, h => by simp only [hasO] at h; simp only [mapR]; rw [at1_ne (fun e => by subst e; simp at h)]
 | .row j, h => by simp only [hasO] at h; simp only [mapR]; rw [at1_ne (fun e => by subst e; simp at h)]
 | .lsl j _ _, h => by simp only [hasO] at h; simp only [mapR]; rw [at1_ne (fun e => by subst e; simp at h)]
 | .agg l, h => by simp only [hasO] at h; simp only [mapR]; rw [mapRL_clean h]
 | .tup l, h => by simp only [hasO] at h; simp only [mapR]; rw [mapRL_clean h]
 | .fn f a b, h => by simp only [hasO, Bool.or_eq_false_iff] at h; simp only [mapR]; rw [mapRL_clean h.1, mapRL_clean h.2]
 | .gd k a, h => by simp only [hasO] at h; simp only [mapR]; rw [mapR_clean h]
 | .top, _ => rfl
 | .li _ _, _ => rfl
 | .si _ _, _ => rfl
 | .lb _, _ => rfl
 | .sb _, _ => rfl
 | .v _, _ => rfl
 | .slc _ _ _, _ => rfl
 | .xp _, _ => rfl
 | .pa _ _ _, _ => rfl
 | .mp j, h => by simp only [hasO] at h; simp only [mapR]; rw [at1_ne (fun e => by subst e; simp at h)]
theorem mapRL_clean {i : Nat} {x : AV} : ∀ {l : List AV}, hasO.hasOL i l = false -> mapR.mapRL (at1 i x) l = l
 | [], _ => rfl
 | a :: l, h => by
   simp only [hasO.hasOL, Bool.or_eq_false_iff] at h
   simp only [mapR.mapRL]
   rw [mapR_clean h.1, mapRL_clean h.2]
end
theorem mapB_clean {i : Nat} {x : AV} : ∀ {b : Blk}, hasOB i b = false -> mapB (at1 i x) b = b
 | .cells t l, h => by simp only [hasOB] at h; simp only [mapB]; rw [mapRL_clean h]
 | .row _ _ _ _, _ => rfl
 | .mat _ _ _ _, _ => rfl
 | .tab _ _ _, _ => rfl
 | .rows _ _ _ _ _ _ _ none, _ => rfl
 | .rows _ _ _ _ _ _ _ (some (_, none)), _ => rfl
 | .rows _ _ _ _ _ _ _ (some (_, some j)), h => by simp only [hasOB] at h; simp only [mapB, hoR]; rw [at1_ne (fun e => by subst e; simp at h)]
 | .dead, _ => rfl
theorem mapH_clean {i : Nat} {x : AV} : ∀ {l : Heap}, hasOH i l = false -> mapH (at1 i x) l = l
 | [], _ => rfl
 | b :: l, h => by
   simp only [hasOH, Bool.or_eq_false_iff] at h
   simp only [mapH]
   rw [mapB_clean h.1, mapH_clean h.2]
theorem mapH_app (f : Nat -> Option AV) : ∀ (l m : Heap), mapH f (l ++ m) = mapH f l ++ mapH f m
 | [], _ => rfl
 | b :: l, m => by simp [mapH, mapH_app f l m]
theorem setB_app {b : Blk} : ∀ {l m : Heap} {i : Nat}, i < l.length -> setB (l ++ m) i b = setB l i b ++ m
 | _ :: l, m, 0, _ => rfl
 | x :: l, m, i + 1, h => by
   simp only [List.cons_append, setB]
   rw [setB_app (by simpa using h)]
theorem hps_turn {i : Nat} {b : Blk} {h : Heap} (hi : i < h.length) {M : List Info} : ∀ {q : Nat}, (∀ p, p < q -> hasOH i ((M.getD p default).new) = false) -> hps (setB (mapH (at1 i .top) h) i b) M q = setB (mapH (at1 i .top) (hps h M q)) i b
 | 0, _ => rfl
 | q + 1, hc => by
   obtain ⟨r, hr⟩ := hps_app h M q
   simp only [hps]
   rw [hps_turn hi fun p hp => hc p (by omega), mapH_app, mapH_clean (hc q (by omega)), setB_app]
   rw [len_mapH, hr]; simp; omega
theorem RelG.turn {j : Nat} {a : AV} (t : Turn j a C w C' w') (ha : notGd a) {x : AV} {v : Value} (h : RelG T C w x v) : RelG T C' w' (mapR (at1 j a) x) v :=
 ⟨t.rel h.1, fun k b e => by
  obtain ⟨b', h1, h2⟩ := mapR_gd ha e
  obtain ⟨x, hx, h3, h4⟩ := h.2 k b' h1
  exact ⟨x, hx, fun hc => h2 ▸ t.rel (h3 hc), h4⟩⟩
def Cx.less (C : Cx) (i : Nat) : Cx := ⟨fun j => if j = i then none else C.ρ j, C.I, C.O⟩
theorem Turn.less (C : Cx) (w : World) (i : Nat) : Turn i .top C w (C.less i) w :=
 ⟨fun j hj => by simp [Cx.less, hj], fun _ h => h, fun _ _ => rfl, fun v _ => .top v⟩
theorem frame_step {i : Nat} {bb : Blk} {o : Oper} {frq : List AV} {hpq : Heap} {inf : Info} (hst : StepOK P all T T1 o frq hpq inf) (hsub : SubT T1 T') {act : Act} (hH : HR C H w) (hi : i < hpq.length) (hiH : i < H.length)
  (hpre : Pre hpq (setB (mapH (at1 i .top) H) i bb)) (hn : ∀ t, t < inf.new.length -> C.ρ (hpq.length + t) = none) (hnew : ∀ t, t < inf.new.length -> getB H (hpq.length + t) = getB inf.new t) (hcl : hasOH i inf.new = false)
  (hops : ∀ x ∈ o.op.operands, RelG T' (C.less i) w (ev frq x) (act.eval x)) (hg : ∀ d, gdst all o d -> RelG T' (C.less i) w (getL frq d) (act.tmps.getD d undef)) :
  let Q := fun v w' => ∃ C', HR C' H w' /\ RelG T' C' w' inf.val v /\ Grow hpq.length inf.new.length C w C' w'
  (Region.wanted o (yielded all.toArray act.tmps) = true /\ Ran P o act.eval w Q) \/ (Region.wanted o (yielded all.toArray act.tmps) = false /\ Q undef w) := by
 intro Q
 have hH2 : HR (C.less i) (setB (mapH (at1 i .top) H) i bb) w := (Turn.less C w i).hr hH hiH (fun _ _ _ _ _ _ => rfl) (Nat.le_refl _) (fun p h => by simp [Cx.less] at h) (fun b c n h => by simp [Cx.less] at h)
  (fun b hb => ⟨hH.ilt b hb, fun j c n _ hj => (hH.fresh _ _ _ _ hj).2 hb⟩) (fun _ => rfl) (fun b x hb => ⟨rfl, (hH.sub b x hb).2.1, fun b' c n h => by simp [Cx.less] at h⟩)
 have hnewB : ∀ t, t < inf.new.length -> getB (setB (mapH (at1 i .top) H) i bb) (hpq.length + t) = getB inf.new t := fun t ht => by
  rw [getB_set_ne (by omega), getB_mapH, hnew t ht, <- getB_mapH, mapH_clean hcl]
 have hfree : Free (C.less i) (setB (mapH (at1 i .top) H) i bb) hpq inf.new := fun t ht => by
  refine ⟨hnewB t ht, ?_⟩
  simp only [Cx.less]
  rw [if_neg (by omega)]
  exact hn t ht
 have conv : ∀ v w', (∃ C3, HR C3 (setB (mapH (at1 i .top) H) i bb) w' /\ RelG T' C3 w' inf.val v /\ Grow hpq.length inf.new.length (C.less i) w C3 w') -> Q v w' := by
  rintro v w' ⟨C3, h1, h2, h3⟩
  have h3i : C3.ρ i = none := by rw [h3.rho i (.inl hi)]; simp [Cx.less]
  have hold : ∀ j, (j < hpq.length \/ hpq.length + inf.new.length <= j) -> (if j = i then C.ρ i else C3.ρ j) = C.ρ j := fun j hj => by
   by_cases hji : j = i
   ·rw [if_pos hji, hji]
   ·rw [if_neg hji, h3.rho j hj]; simp [Cx.less, hji]
  have hx34 : Cext C3 w' ⟨fun j => if j = i then C.ρ i else C3.ρ j, C3.I, C3.O⟩ w' := ⟨fun j p hp => by
   show (if j = i then C.ρ i else C3.ρ j) = some p
   by_cases hji : j = i
   ·rw [hji, h3i] at hp; cases hp
   ·rw [if_neg hji]; exact hp, fun _ h => h, fun _ _ => rfl⟩
  have hgr : Grow hpq.length inf.new.length C w ⟨fun j => if j = i then C.ρ i else C3.ρ j, C3.I, C3.O⟩ w' := ⟨h3.os, h3.tape, h3.output, h3.size, h3.keep, h3.imm, h3.imm', hold, fun j b c m g1 g2 g3 => by
   have g3' : (if j = i then C.ρ i else C3.ρ j) = some (.at b c m) := g3
   rw [if_neg (by omega)] at g3'
   exact h3.own j b c m g1 g2 g3', h3.sub⟩
  have hxx : Cext C w ⟨fun j => if j = i then C.ρ i else C3.ρ j, C3.I, C3.O⟩ w' := hgr.cext (fun j g1 g2 => by
   obtain ⟨t, rfl⟩ := Nat.exists_eq_add_of_le g1
   exact hn t (by omega)) hH.ilt
  have hskp : SubKeep C w ⟨fun j => if j = i then C.ρ i else C3.ρ j, C3.I, C3.O⟩ w' := fun b x hb => ⟨(h3.sub b).trans hb, h3.keep b (hH.sub b x hb).1⟩
  have cls : ∀ j p, (if j = i then C.ρ i else C3.ρ j) = some p -> (C.ρ j = some p) \/ (hpq.length <= j /\ j < hpq.length + inf.new.length /\ j ≠ i /\ C3.ρ j = some p) := fun j p hp => by
   by_cases hr : j < hpq.length \/ hpq.length + inf.new.length <= j
   ·rw [hold j hr] at hp; exact .inl hp
   ·rw [if_neg (by omega)] at hp
    exact .inr ⟨by omega, by omega, by omega, hp⟩
  refine ⟨⟨fun j => if j = i then C.ρ i else C3.ρ j, C3.I, C3.O⟩, ⟨fun j p hp => ?_, fun j j' b c n b' c' n' hj hj' hne => ?_, fun j b c n hj => ?_, h1.ilt, fun b x hb => ?_⟩, h2.mono hx34, hgr⟩
  ·rcases cls j p hp with ho | ⟨g1, g2, g3, g4⟩
   ·refine (hH.live j p ho).mono hxx (fun q c m hq => ?_) hskp
    subst hq
    exact h3.keep q (hH.fresh _ _ _ _ ho).1
   ·obtain ⟨t, rfl⟩ := Nat.exists_eq_add_of_le g1
    rw [hnew t (by omega), <- hnewB t (by omega)]
    exact (h1.live _ p g4).mono hx34 (fun q c m _ => rfl) fun b x hb => ⟨hb, rfl⟩
  ·rcases cls j _ hj with ho | ⟨g1, g2, g3, g4⟩
   ·rcases cls j' _ hj' with ho' | ⟨g1', g2', g3', g4'⟩
    ·exact hH.inj _ _ _ _ _ _ _ _ ho ho' hne
    ·have := h3.own j' b' c' n' g1' g2' g4'
     have := (hH.fresh _ _ _ _ ho).1
     omega
   ·rcases cls j' _ hj' with ho' | ⟨g1', g2', g3', g4'⟩
    ·have := h3.own j b c n g1 g2 g4
     have := (hH.fresh _ _ _ _ ho').1
     omega
    ·exact h1.inj _ _ _ _ _ _ _ _ g4 g4' hne
  ·rcases cls j _ hj with ho | ⟨g1, g2, g3, g4⟩
   ·have hf := hH.fresh _ _ _ _ ho
    refine ⟨Nat.lt_of_lt_of_le hf.1 h3.size, fun hb => ?_⟩
    rcases h3.imm' b hb with h | h
    ·exact hf.2 h
    ·omega
   ·exact h1.fresh _ _ _ _ g4
  ·obtain ⟨s1, s2, s3, s4⟩ := h1.sub b x hb
   refine ⟨s1, s2, fun j b' c n hj => ?_, s4⟩
   rcases cls j _ hj with ho | ⟨g1, g2, g3, g4⟩
   ·exact (hH.sub b x (by rw [<- hb]; exact (h3.sub b).symm)).2.2.1 j b' c n ho
   ·exact s3 j b' c n g4
 rcases run_info hst hsub hH2 hpre hfree hops hg with ⟨hw, hr⟩ | ⟨hw, hr⟩
 ·exact .inl ⟨hw, hr.mono conv⟩
 ·exact .inr ⟨hw, conv _ _ hr⟩
theorem readS_pre (hpre : Pre hp H) {x : AV} {r : LN × Nat × (Nat -> List AV)} (h : readS hp x = some r) : readS H x = some r := by
 unfold readS at h ⊢
 split at h
 ·rename_i j
  split at h
  ·rename_i e sz n el hb
   rw [hpre j (getB_lt (by rw [hb]; simp)), hb]
   exact h
  ·cases h
 ·exact h
 ·cases h
theorem late_exec (o : Oper) {c : Call} (ho : o.op = .call c) (hc : c.callee = .builtin .append) {ρ : Operand -> AV} {σ : Operand -> Value} (hev : ∀ x, Rel C w (ρ x) (σ x)) (hH : HR C H w) (hpre : Pre hp H) {i : Nat}
  (hg : growOf (aop P S ρ hp o.op) = some i) {fr fr' : List AV} {hp' : Heap} {a : AV} (hbo : BO S fr hp (aop P S ρ hp o.op) fr' hp' a) :
  Ran P o σ w fun v w' => ∃ C', Turn i .top C w C' w' /\ HR C' (setB (mapH (at1 i .top) H) i (getB hp' i)) w' /\ Rel C' w' (.row i) v /\ Tr S.lo C w C' w' := by
 have hop' : aop P S (ρ) hp o.op = (match c.args.toList, c.argTypes.toList with
  | [s, x], [t, t'] => (match Nat.beq t t' with | true => appendA P S hp t (ρ s) (ρ x) | false => .fail)
  | _, _ => .fail) := by
  rw [ho]; obtain ⟨cal, args, tys⟩ := c; simp only at hc; subst hc; rfl
 rw [hop'] at hbo hg
 split at hbo
 ·rename_i s x t t' ha hty
  rw [ha, hty] at hg
  split at hbo
  ·rename_i htt
   simp only [htt] at hg
   obtain rfl : t = t' := Nat.eq_of_beq_eq_true htt
   obtain ⟨dst, op, type, pos, after, guard⟩ := o
   obtain ⟨cal, args, tys⟩ := c
   obtain ⟨args⟩ := args
   obtain ⟨tys⟩ := tys
   simp only at ho hc ha hty
   subst ho hc ha hty
   refine run_of_post (m := Builtin.append_ #[t, t] type #[σ s, σ x]) (by simp [execOp, resolve, invoke, builtin]) ?_
   unfold appendA at hbo hg
   split at hbo
   ·rename_i e hu
    simp only [hu] at hg
    split at hbo
    ·rename_i hn
     simp only [hn] at hg
     exfalso
     revert hg
     repeat' split
     all_goals simp [growOf]
    ·rename_i hn
     simp only [hn] at hg
     split at hbo
     ·cases hbo
     ·rename_i m sz elx hr
      simp only [hr] at hg
      split at hbo
      ·rename_i hsz hnz
       simp only [hsz, hnz] at hg
       obtain rfl : sz = sizeT P e := Nat.eq_of_beq_eq_true hsz
       have hpos : 0 < sizeT P e := by
        rcases Nat.eq_zero_or_pos (sizeT P e) with h | h
        ·rw [h] at hnz; cases hnz
        ·exact h
       split at hbo
       ·rename_i hsn
        simp only [hsn] at hg
        exfalso
        revert hg
        repeat' split
        all_goals simp [growOf]
       ·rename_i hsn
        simp only [hsn] at hg
        split at hbo
        ·rename_i i0 hsi
         simp only [hsi] at hg
         split at hbo
         ·rename_i e' sz' n el hb hlo'
          simp only [hb, hlo'] at hg
          split at hbo
          ·rename_i hcc
           simp only [hcc, growOf] at hg
           injection hg with hg
           subst hg
           simp only [Bool.and_eq_true, decide_eq_true_eq] at hcc
           obtain ⟨⟨rfl, rfl⟩, hz⟩ := hcc
           obtain ⟨z, hz⟩ := Option.isSome_iff_exists.1 hz
           have hlt : i0 < hp.length := getB_lt (by rw [hb]; simp)
           cases hbo with
           | need _ _ _ _ _ _ _ hb' h =>
             cases h with
             | grow _ _ _ _ hl =>
               obtain ⟨u', w', C', hrun, ht, h1, h2, h3⟩ := append_grow (P := P) (ty := type) hH hu (by rw [<- hsi]; exact hev s) (by rw [hpre _ hlt]; exact hb) (hev x) (readS_pre hpre hr) rfl hpos hz hb' hl
               refine ⟨u', w', hrun, C', ht, ?_, h2, h3⟩
               rw [getB_set, if_pos ⟨rfl, by rw [len_mapH]; exact hlt⟩]
               exact h1
          ·cases hbo
         ·cases hbo
        ·cases hbo
      ·cases hbo
   ·cases hbo
  ·cases hbo
 ·cases hbo
theorem growOf_lt {o : Oper} {c : Call} (ho : o.op = .call c) (hc : c.callee = .builtin .append) {ρ : Operand -> AV} {i : Nat} (hg : growOf (aop P S ρ hp o.op) = some i) : i < hp.length := by
 have hop' : aop P S (ρ) hp o.op = (match c.args.toList, c.argTypes.toList with
  | [s, x], [t, t'] => (match Nat.beq t t' with | true => appendA P S hp t (ρ s) (ρ x) | false => .fail)
  | _, _ => .fail) := by
  rw [ho]; obtain ⟨cal, args, tys⟩ := c; simp only at hc; subst hc; rfl
 rw [hop'] at hg
 unfold appendA at hg
 repeat' split at hg
 all_goals first
  | (simp [growOf] at hg; done)
  | (simp only [growOf] at hg; injection hg with hg; subst hg; exact getB_lt (by intro h; simp_all))
theorem lookT_mem (anc : List Nat) (fr : List AV) (t : Nat) : ∀ l : List Nat, lookT (l.map fun t => (t, unGd anc (getL fr t))) t = if t ∈ l then unGd anc (getL fr t) else .top
 | [] => by simp [lookT_nil]
 | x :: l => by
   rw [List.map_cons, lookT_cons, lookT_mem anc fr t l]
   by_cases h : x = t
   ·subst h; simp
   ·have : Nat.beq x t = false := by
     rcases hb : Nat.beq x t with _ | _
     ·rfl
     ·exact absurd (Nat.eq_of_beq_eq_true hb) h
    simp [this, Ne.symm h]
theorem evM_ops {fr : List AV} {l : List Nat} {act : Act} (h : ∀ t ∈ l, RelG T C w (getL fr t) (act.tmps.getD t undef)) (x : Operand) : Rel C w (evM (l.map fun t => (t, unGd [] (getL fr t))) x) (act.eval x) := by
 cases x with
 | tmp t =>
   show Rel C w (lookT _ t) (act.tmps.getD t undef)
   rw [lookT_mem]
   split
   ·rename_i ht
    exact unGd_rel (h t ht) (c := true) rfl (fun k hk => by simp [memN] at hk)
   ·exact .top _
 | const v => exact (evG_rel (T := []) (fr := []) (.const v) (fun t e => by cases e)).1
 | global v => exact (evG_rel (T := []) (fr := []) (.global v) (fun t e => by cases e)).1
 | func v => exact (evG_rel (T := []) (fr := []) (.func v) (fun t e => by cases e)).1
end
end Abs
end Go.Proofs.Ytdfdjlijghjdaaa

namespace Go.Proofs.Ytdfdjlijghjdaaa
namespace Abs
open Go Go.RowKit
section
variable {P : Program} {S : Sums} {C C' : Cx} {w w' : World} {H hp : Heap} {T T1 T' : List Cnd} {all : List Oper} {I : Act -> World -> Prop}
def wpAnyI (I : Act -> World -> Prop) (F : Fence) (n : Nat) (P : Program) (ops : Array Oper) (Q : Exit -> Act -> World -> Prop) : Nat -> Array Bool -> Act -> World -> Prop
 | 0, D, a, w => Region.ready .any ops D = [] /\ Q .normal a w
 | f + 1, D, a, w => (Region.ready .any ops D = [] -> Q .normal a w) /\ ∀ i ∈ Region.ready .any ops D, wpOpIn F n P ops Q i (fun a' w' => I a' w' /\ wpAnyI I F n P ops Q f (D.setIfInBounds i true) a' w') a w
theorem wpAnyI_any {F : Fence} {n : Nat} {ops : Array Oper} {Q : Exit -> Act -> World -> Prop} : ∀ (fuel : Nat) (D : Array Bool) (a : Act) (w : World), wpAnyI I F n P ops Q fuel D a w -> wpAnyIn F n P .any ops Q fuel D a w
 | 0, _, _, _, h => h
 | f + 1, D, a, w, h => ⟨h.1, fun i hi => wpOpIn_mono (fun a' w' h' => wpAnyI_any f _ a' w' h'.2) (h.2 i hi)⟩
theorem semAt_congr {ro : Option Nat} {ρ ρ' : Operand -> Value} (o : Oper) (hs : ∀ cs b, o.op ≠ .select cs b) (h : ∀ x ∈ o.op.operands, ρ x = ρ' x) : Oper.semAt ro ρ o = Oper.semAt ro ρ' o := by
 have e := execOp_congr o hs h
 cases ro with
 | none => exact e
 | some l =>
   by_cases hd : ∃ c, o.op = .defer c
   ·obtain ⟨c, hc⟩ := hd
    have e2 := resolve_congr (ρ := ρ) (ρ' := ρ') c o.type (fun x hx => h x (by rw [hc]; simpa [Op.operands] using hx))
    unfold Oper.semAt
    simp only [hc, e2]
   ·rw [Oper.semAt_eq _ _ _ fun c hc => hd ⟨c, hc⟩, Oper.semAt_eq _ _ _ fun c hc => hd ⟨c, hc⟩, e]
theorem wpAnyI_mono {I I' : Act -> World -> Prop} {F : Fence} {n : Nat} {ops : Array Oper} {Q : Exit -> Act -> World -> Prop} (hI : ∀ a w, I a w -> I' a w) : ∀ (fuel : Nat) (D : Array Bool) (a : Act) (w : World), wpAnyI I F n P ops Q fuel D a w -> wpAnyI I' F n P ops Q fuel D a w
 | 0, _, _, _, h => h
 | f + 1, D, a, w, h => ⟨h.1, fun i hi => wpOpIn_mono (fun a' w' h' => ⟨hI _ _ h'.1, wpAnyI_mono hI f _ a' w' h'.2⟩) (h.2 i hi)⟩
def Imm (C : Cx) (w0 w : World) : Prop := ∀ b, C.I b -> w.heap[b]? = w0.heap[b]?
theorem Imm.tr {lo : Nat} (hH : HR C hp w) (t : Tr lo C w C' w') : Imm C w w' := fun b hb => t.keep b (hH.ilt b hb) (fun i c d n hc e => (hH.fresh i c d n hc).2 (e ▸ hb)) (by
 cases hc : C.O b with
 | none => rfl
 | some x => exact ((hH.sub b x hc).2.1 hb).elim)
structure Fix (P : Program) (J : World -> Prop) (ops : Array Oper) (o : Oper) (a : Act) (v : Value) : Prop where
 dfr : ∀ c, o.op ≠ .defer c
 sel : ∀ cs b, o.op ≠ .select cs b
 wt : Region.wanted o (yielded ops a.tmps) = true
 run : ∀ w, J w -> (execOp a.eval o).run P w = .ok (.value v) w
def SameAt (ops : Array Oper) (o : Oper) (a0 a : Act) : Prop := ∀ t ∈ o.looksAt ops, a.tmps.getD t undef = a0.tmps.getD t undef
theorem SameAt.eval {ops : Array Oper} {o : Oper} {a0 a : Act} (h : SameAt ops o a0 a) : ∀ x ∈ o.op.operands, a.eval x = a0.eval x := fun x hx => by
 cases x with
 | tmp t => exact h t (by unfold Oper.looksAt; exact List.mem_append_left _ (List.mem_filterMap.2 ⟨.tmp t, by simpa using hx, rfl⟩))
 | const v => rfl
 | global g => rfl
 | func f => rfl
theorem SameAt.wanted {o : Oper} {a0 a : Act} (h : SameAt all.toArray o a0 a) : Region.wanted o (yielded all.toArray a.tmps) = Region.wanted o (yielded all.toArray a0.tmps) := by
 unfold Region.wanted
 cases hg : o.guard with
 | none => rfl
 | some gw =>
   obtain ⟨g, b⟩ := gw
   simp only
   cases hd : dstOf all g with
   | none =>
     have hn : ∀ tm, yielded all.toArray tm g = none := fun tm => by
      unfold yielded
      unfold dstOf at hd
      simp only [List.getElem?_toArray]
      cases ho : all[g]? with
      | none => simp
      | some o' => rw [ho] at hd; simp only at hd; simp [hd]
     rw [hn, hn]
   | some d =>
     rw [yielded_eq hd, yielded_eq hd, h d]
     unfold Oper.looksAt
     refine List.mem_append_right _ ?_
     rw [hg]
     obtain ⟨o', ho', hd'⟩ := dstOf_some hd
     simp [ho', hd']
theorem SameAt.keep {ops : Array Oper} {o oj : Oper} {a0 a : Act} (h : SameAt ops o a0 a) (h3 : ∀ d, oj.dst = some d -> d ∉ o.looksAt ops) (u : Value) : SameAt ops o a0 (a.put oj.dst u) := fun t ht => by
 rw [put_get, if_neg]
 ·exact h t ht
 ·rintro ⟨e, _⟩; exact h3 t e ht
variable {F : Fence} {n : Nat} {Q : Exit -> Act -> World -> Prop} {J : World -> Prop}
theorem opIn_s {ops : Array Oper} {j : Nat} {oi oj : Oper} {a0 : Act} (hj : ops[j]? = some oj) (hap : oi.apart ops oj = true) (hsj : ∀ cs b, oj.op ≠ .select cs b) (hQ : ∀ c a w, ¬ Q (.panic c) a w)
  {K : Act -> World -> Prop} {a : Act} {w : World} {v : Value} (hE : SameAt ops oi a0 a) (h : wpOpIn F n P ops Q j K (a.put oi.dst v) w) :
  wpOpIn F n P ops Q j (fun a' w' => SameAt ops oi a0 a' /\ K (a'.put oi.dst v) w') a w := by
 obtain ⟨h1, h2, h3⟩ := Oper.apart_spec hap
 have keep : ∀ (a : Act), SameAt ops oi a0 a -> ∀ u, SameAt ops oi a0 (a.put oj.dst u) := fun a ha u => ha.keep h3 u
 have hev : ∀ y ∈ oj.op.operands, (a.put oi.dst v).eval y = a.eval y := fun y hy => Act.eval_put fun d hd hxd => h1 d hd (by
  subst hxd
  exact List.mem_append_left _ (List.mem_filterMap.2 ⟨.tmp d, by simpa using hy, rfl⟩))
 unfold wpOpIn at *
 simp only [hj] at *
 rw [wanted_put oj a oi.dst v h1, about_congr oj w hev] at h
 split
 ·rename_i hw
  simp only [hw, if_true] at h
  unfold Oper.wpIn at *
  rw [about_congr oj w hev, semAt_congr oj hsj hev] at h
  refine ⟨h.1, ?_⟩
  replace h := h.2
  generalize (oj.semAt F.round a.eval).run P w = r at *
  cases r with
  | ok y w' =>
    cases y <;> simp only [Oper.uponIn] at h ⊢
    case value u => exact ⟨keep a hE u, by rw [<- Act.put_comm a v u h2]; exact h⟩
    case skip => exact ⟨keep a hE _, by rw [<- Act.put_comm a v undef h2]; exact h⟩
    case defer d =>
     refine ⟨keep { a with defers := d :: a.defers } hE _, ?_⟩
     rw [<- Act.put_comm _ v undef h2, <- Act.put_defers]
     exact h
    case enter f args =>
     refine ⟨h.1, CallsIn.mono h.2 fun e w'' he => ?_⟩
     cases e with
     | returned u => exact ⟨keep a hE u, by rw [<- Act.put_comm a v u h2]; exact he⟩
     | panicked c => exact absurd he (hQ _ _ _)
     | outgrown => exact he
    case row row args => exact ⟨h.1, RowsIn.mono h.2 fun u w'' he => ⟨keep a hE u, by rw [<- Act.put_comm a v u h2]; exact he⟩⟩
    case round l f tmps assign body =>
     refine ⟨h.1, RoundIn.mono h.2 fun e w'' he => ?_⟩
     cases e with
     | returned u => exact ⟨keep a hE u, by rw [<- Act.put_comm a v u h2]; exact he⟩
     | panicked c => exact absurd he (hQ _ _ _)
     | outgrown => exact he
  | halt x w' =>
    cases x <;> simp only [Oper.uponIn] at h ⊢
    case panic u => exact absurd h (hQ _ _ _)
 ·rename_i hw
  simp only [hw] at h
  exact ⟨h.1, keep a hE _, by rw [<- Act.put_comm a v undef h2]; exact h.2⟩
theorem wpOpIn_s {i : Nat} {oi : Oper} {a0 : Act} {v : Value} (hi : all.toArray[i]? = some oi) (hf : Fix P J all.toArray oi a0 v) {K : Act -> World -> Prop} {a : Act} {w : World} (hF : ∀ f, F.fn f) (hE : SameAt all.toArray oi a0 a) (hJ : J w) (h : K (a.put oi.dst v) w) :
  wpOpIn F n P all.toArray Q i K a w := by
 unfold wpOpIn
 simp only [hi]
 rw [hE.wanted, hf.wt]
 simp only [if_true]
 refine ⟨fun f _ => hF f, ?_⟩
 rw [Oper.semAt_eq _ _ _ hf.dfr, execOp_congr oi hf.sel hE.eval, hf.run w hJ]
 exact h
theorem s_firstI {I : Act -> World -> Prop} {i : Nat} {oi : Oper} {a0 : Act} {v : Value} (hi : all.toArray[i]? = some oi) (hf : Fix P J all.toArray oi a0 v) (hF : ∀ f, F.fn f) (hsel : ∀ (j : Nat) (o : Oper) cs b, all.toArray[j]? = some o -> o.op ≠ .select cs b) (hQ : ∀ c a w, ¬ Q (.panic c) a w) (hI : ∀ a w, I (a.put oi.dst v) w -> I a w) :
  ∀ (fuel : Nat) (listed : Array Bool) (a : Act) (w : World),
    (∀ j oj, all.toArray[j]? = some oj -> j ≠ i -> listed.getD j true = false -> (∀ e ∈ oj.after, Region.binds .any e = true -> e.on ≠ i) -> oi.apart all.toArray oj = true) ->
    i ∈ Region.ready .any all.toArray listed -> SameAt all.toArray oi a0 a -> I (a.put oi.dst v) w -> J w ->
    wpAnyI (fun a w => I a w /\ J w) F n P all.toArray Q fuel (listed.setIfInBounds i true) (a.put oi.dst v) w -> wpAnyI I F n P all.toArray Q (fuel + 1) listed a w := by
 intro fuel
 induction fuel with
 | zero =>
   intro listed a w _ hr hE hIp hJ H
   refine ⟨fun h => (by rw [h] at hr; cases hr), fun j hj => ?_⟩
   by_cases hji : j = i
   ·subst hji; exact wpOpIn_s hi hf hF hE hJ ⟨hIp, wpAnyI_mono (fun _ _ h => h.1) _ _ _ _ H⟩
   ·have := ready_mono hj hji
    rw [H.1] at this
    cases this
 | succ fuel ih =>
   intro listed a w hfree hr hE hIp hJ H
   refine ⟨fun h => (by rw [h] at hr; cases hr), fun j hj => ?_⟩
   by_cases hji : j = i
   ·subst hji; exact wpOpIn_s hi hf hF hE hJ ⟨hIp, wpAnyI_mono (fun _ _ h => h.1) _ _ _ _ H⟩
   ·have h1 := H.2 j (ready_mono hj hji)
    obtain ⟨hjun, oj, hoj, hall⟩ := Go.mem_ready.1 hj
    have hnot : ∀ e ∈ oj.after, Region.binds .any e = true -> e.on ≠ i := fun e he hb heq => by
     have h1 := hall e he hb
     have h0 := (Go.mem_ready.1 hr).1
     rw [heq] at h1
     rcases Nat.lt_or_ge i listed.size with h' | h'
     ·simp [h'] at h0 h1; rw [h0] at h1; cases h1
     ·simp [Array.getElem?_eq_none h'] at h1
    have h2 := opIn_s (a0 := a0) (v := v) hoj (hfree j oj hoj hji hjun hnot) (fun cs b => hsel j oj cs b hoj) hQ hE h1
    have hfree' : ∀ k ok, all.toArray[k]? = some ok -> k ≠ i -> (listed.setIfInBounds j true).getD k true = false ->
      (∀ e ∈ ok.after, Region.binds .any e = true -> e.on ≠ i) -> oi.apart all.toArray ok = true := fun k ok hk hki hun hno => by
     refine hfree k ok hk hki ?_ hno
     by_cases hjk : j = k
     ·subst hjk; exact hjun
     ·rw [getD_set_ne true hjk] at hun; exact hun
    refine wpOpIn_mono (fun a' w' h3 => ⟨hI _ _ h3.2.1.1, ih (listed.setIfInBounds j true) a' w' hfree' (ready_mono hr (Ne.symm hji)) h3.1 h3.2.1.1 h3.2.1.2 ?_⟩) h2
    rw [Array.setIfInBounds_comm _ _ hji]
    exact h3.2.2
mutual
theorem det_fun : ∀ {a : AV} {v v' : Value}, detA a = true -> Rel C w a v -> Rel C' w' a v' -> v = v'
 | .lb _, v, v', _, h, h' => by cases h; cases h'; rfl
 | .sb _, v, v', _, h, h' => by cases h; cases h'; rfl
 | .si _ _, v, v', _, h, h' => by cases h; cases h'; rfl
 | .li _ _, v, v', _, h, h' => by cases h; cases h'; rfl
 | .agg l, v, v', hd, h, h' => by
   unfold detA at hd
   cases h with | agg _ vs hv =>
   cases h' with | agg _ vs' hv' =>
   rw [det_funL hd hv hv']
 | .tup l, v, v', hd, h, h' => by
   unfold detA at hd
   cases h with | tup _ vs hv =>
   cases h' with | tup _ vs' hv' =>
   rw [det_funL hd hv hv']
 | .top, _, _, hd, _, _ => by simp [detA] at hd
 | .own _ _, _, _, hd, _, _ => by simp [detA] at hd
 | .elt _ _ _ _, _, _, hd, _, _ => by simp [detA] at hd
 | .row _, _, _, hd, _, _ => by simp [detA] at hd
 | .lsl _ _ _, _, _, hd, _, _ => by simp [detA] at hd
 | .slc _ _ _, _, _, hd, _, _ => by simp [detA] at hd
 | .xp _, _, _, hd, _, _ => by simp [detA] at hd
 | .v _, _, _, hd, _, _ => by simp [detA] at hd
 | .fn _ _ _, _, _, hd, _, _ => by simp [detA] at hd
 | .gd _ _, _, _, hd, _, _ => by simp [detA] at hd
theorem det_funL : ∀ {l : List AV} {vs vs' : List Value}, detA.detL l = true -> RelL C w l vs -> RelL C' w' l vs' -> vs = vs'
 | [], _, _, _, h, h' => by cases h; cases h'; rfl
 | a :: l, _, _, hd, h, h' => by
   unfold detA.detL at hd
   split at hd
   ·rename_i ha
    cases h with | cons _ _ v vs h1 h2 =>
    cases h' with | cons _ _ v' vs' h1' h2' =>
    rw [det_fun ha h1 h1', det_funL hd h2 h2']
   ·cases hd
end
mutual
theorem Rel.det {w : World} : ∀ {a : AV} {v : Value}, Rel C' w a v -> detA a = true -> Rel C w a v
 | .lb _, v, h, _ => by cases h; exact .lb _
 | .sb _, v, h, _ => by cases h; exact .sb _
 | .si _ _, v, h, _ => by cases h; exact .si _ _
 | .li _ _, v, h, _ => by cases h; exact .li _ _
 | .agg l, v, h, hd => by
   unfold detA at hd
   cases h with | agg _ vs hv => exact .agg _ _ (RelL.det hv hd)
 | .tup l, v, h, hd => by
   unfold detA at hd
   cases h with | tup _ vs hv => exact .tup _ _ (RelL.det hv hd)
 | .top, _, _, hd => by simp [detA] at hd
 | .own _ _, _, _, hd => by simp [detA] at hd
 | .elt _ _ _ _, _, _, hd => by simp [detA] at hd
 | .row _, _, _, hd => by simp [detA] at hd
 | .lsl _ _ _, _, _, hd => by simp [detA] at hd
 | .slc _ _ _, _, _, hd => by simp [detA] at hd
 | .xp _, _, _, hd => by simp [detA] at hd
 | .v _, _, _, hd => by simp [detA] at hd
 | .fn _ _ _, _, _, hd => by simp [detA] at hd
 | .gd _ _, _, _, hd => by simp [detA] at hd
theorem RelL.det {w : World} : ∀ {l : List AV} {vs : List Value}, RelL C' w l vs -> detA.detL l = true -> RelL C w l vs
 | [], _, h, _ => by cases h; exact .nil
 | a :: l, _, h, hd => by
   unfold detA.detL at hd
   split at hd
   ·rename_i ha
    cases h with | cons _ _ v vs h1 h2 => exact .cons _ _ _ _ (Rel.det h1 ha) (RelL.det h2 hd)
   ·cases hd
end
theorem idx_in {i : AV} {v : Value} {n : LN} {k : Nat -> AR} {ps : List Cd} {a : AV} (hk : ∀ j, (∃ b, k j = .val b) \/ k j = .fail) (hi : Rel C w i v) (h : arV (idx i n k) = some (ps, a)) (hps : ∀ p ∈ ps, p.ok) : ∃ q j, v = .int q ((j : Nat) : Int) /\ j < n.val /\ k j = .val a := by
 unfold idx at h
 split at h
 ·rename_i q x
  split at h
  ·rename_i hx
   have hx : 0 <= x := by simpa using hx
   cases hi
   split at h
   ·rename_i m
    split at h
    ·rename_i hm
     have hm : x.toNat < m := by simpa using hm
     refine ⟨q, x.toNat, by rw [Int.toNat_of_nonneg hx], hm, ?_⟩
     rcases hk x.toNat with ⟨b, hb⟩ | hb
     ·rw [hb] at h ⊢; simp only [arV, Option.some.injEq, Prod.mk.injEq] at h; rw [h.2]
     ·rw [hb] at h; simp [arV] at h
    ·simp [arV] at h
   ·rename_i m
    rcases hk x.toNat with ⟨b, hb⟩ | hb
    ·rw [hb] at h
     simp only [arV, Option.some.injEq, Prod.mk.injEq] at h
     obtain ⟨rfl, rfl⟩ := h
     have := hps _ (List.mem_singleton.2 rfl)
     exact ⟨q, x.toNat, by rw [Int.toNat_of_nonneg hx], this, hb⟩
    ·rw [hb] at h; simp [arV] at h
  ·simp [arV] at h
 ·rename_i q x
  cases hi
  rcases hk (nat x) with ⟨b, hb⟩ | hb
  ·rw [hb] at h
   simp only [arV, Option.some.injEq, Prod.mk.injEq] at h
   obtain ⟨rfl, rfl⟩ := h
   have hp := hps _ (List.mem_singleton.2 rfl)
   have hp : 0 <= x /\ x < (n.val : Int) := hp
   have hn : nat x = x.toNat := by unfold nat; rfl
   exact ⟨q, nat x, by rw [hn, Int.toNat_of_nonneg hp.1], by rw [hn]; omega, hb⟩
  ·rw [hb] at h; simp [arV] at h
 ·simp [arV] at h
theorem minmax_two {mx : Bool} {a b : AV} {u v : Value} {ps : List Cd} {r : AV} (ha : Rel C w a u) (hb : Rel C w b v) (h : arV (minmax mx a [b]) = some (ps, r)) :
  ∃ z, Rel C w r z /\ ∀ w', ([v].foldlM (if mx then Builtin.max2 else Builtin.min2) u : Sem Value).run P w' = .ok z w' := by
 unfold minmax at h
 cases hk : kindOf a with
 | none => rw [hk] at h; simp [arV] at h
 | some k =>
 cases hk' : kindOf b with
 | none => rw [hk, hk'] at h; simp [arV] at h
 | some k' =>
   have e1 := kindOf_rel ha hk
   have e2 := kindOf_rel hb hk'
   subst e1 e2
   rw [hk, hk'] at h
   simp only at h
   cases mx with
   | true =>
     have key : ∀ w, (Builtin.max2 (.int k (intOf a)) (.int k' (intOf b))).run P w = .ok (.int k (if intOf b > intOf a then intOf b else intOf a)) w := fun w => by simp [Builtin.max2]
     refine ⟨.int k (if intOf b > intOf a then intOf b else intOf a), ?_, fun w' => by simp [Sem.run_bind, key]⟩
     split at h
     ·simp only [minmax, arV, Option.some.injEq, Prod.mk.injEq] at h
      rw [<- h.2]; exact .li _ _
     ·simp only [minmax, arV, Option.some.injEq, Prod.mk.injEq] at h
      rw [<- h.2]; unfold imax; exact .si _ _
   | false =>
     have key : ∀ w, (Builtin.min2 (.int k (intOf a)) (.int k' (intOf b))).run P w = .ok (.int k (if intOf b < intOf a then intOf b else intOf a)) w := fun w => by simp [Builtin.min2]
     refine ⟨.int k (if intOf b < intOf a then intOf b else intOf a), ?_, fun w' => by simp [Sem.run_bind, key]⟩
     split at h
     ·simp only [minmax, arV, Option.some.injEq, Prod.mk.injEq] at h
      rw [<- h.2]; exact .li _ _
     ·simp only [minmax, arV, Option.some.injEq, Prod.mk.injEq] at h
      rw [<- h.2]; unfold imin; exact .si _ _
theorem mm_ok {ρ : Operand -> AV} {σ : Operand -> Value} {dst : Option Tmp} {c : Call} {type : TypeId} {pos : String} {after : Array Edge} {guard : Option (Nat × Bool)} {ps : List Cd} {a : AV} {x y : Operand} {bi : Builtin} (hs : ∀ x, Rel C w (ρ x) (σ x)) (hc : c.callee = .builtin bi) (ha : c.args.toList = [x, y]) (mx : Bool)
  (hb : (mx = false /\ bi = .min) \/ (mx = true /\ bi = .max)) (h : arV (minmax mx (ρ x) [ρ y]) = some (ps, a)) :
  ∃ v, Rel C w a v /\ (∀ c', (⟨dst, .call c, type, pos, after, guard⟩ : Oper).op ≠ .defer c') /\ (∀ cs b, (⟨dst, .call c, type, pos, after, guard⟩ : Oper).op ≠ .select cs b) /\ ∀ w', Imm C w w' -> (execOp σ (⟨dst, .call c, type, pos, after, guard⟩ : Oper)).run P w' = .ok (.value v) w' := by
 obtain ⟨z, h1, h2⟩ := minmax_two (P := P) (hs x) (hs y) h
 refine ⟨z, h1, by simp, by simp, fun w' _ => ?_⟩
 obtain ⟨cal, args, tys⟩ := c
 simp only at hc ha
 subst hc
 have e1 : args.map σ = ⟨[σ x, σ y]⟩ := by apply Array.ext'; simp [ha]
 have h3 := h2 w'
 rcases hb with ⟨rfl, rfl⟩ | ⟨rfl, rfl⟩
 ·simp only [Bool.false_eq_true, if_false] at h3
  simp [execOp, resolve, invoke, builtin, e1, Builtin.min_] at h3 ⊢
  simp [h3]
 ·simp only [if_true] at h3
  simp [execOp, resolve, invoke, builtin, e1, Builtin.max_] at h3 ⊢
  simp [h3]
theorem frVal_ok {ρ : Operand -> AV} {σ : Operand -> Value} {o : Oper} {ps : List Cd} {a : AV} (hilt : ∀ b, C.I b -> b < w.heap.size) (hs : ∀ x, Rel C w (ρ x) (σ x)) (hcn : ∀ v, σ (.const v) = v) (h : frVal P ρ o.op = some (ps, a)) (hps : ∀ p ∈ ps, p.ok) :
  ∃ v, Rel C w a v /\ (∀ c, o.op ≠ .defer c) /\ (∀ cs b, o.op ≠ .select cs b) /\ ∀ w', Imm C w w' -> (execOp σ o).run P w' = .ok (.value v) w' := by
 obtain ⟨dst, op, type, pos, after, guard⟩ := o
 simp only at h
 unfold frVal at h
 split at h
 ·rename_i x
  simp only [Option.some.injEq, Prod.mk.injEq] at h
  obtain ⟨rfl, rfl⟩ := h
  exact ⟨σ x, hs x, by simp, by simp, fun w' _ => by simp [execOp]⟩
 ·rename_i x
  simp only [Option.some.injEq, Prod.mk.injEq] at h
  obtain ⟨rfl, rfl⟩ := h
  exact ⟨σ x, hs x, by simp, by simp, fun w' _ => by simp [execOp]⟩
 ·rename_i t x i
  split at h
  ·rename_i n sz el hx
   have h1 := hs x
   rw [hx] at h1
   unfold indexAddrA at h
   split at h
   ·rename_i m e hu
    exfalso
    split at h
    ·simp [arV] at h
    ·split at h
     ·rename_i hq; simp [arrA] at hq
     split at h
     ·split at h <;> first | (simp [arV] at h; done) | skip
      all_goals (rename_i h5 h6; simp at h6)
     ·split at h <;> first | (simp [arV] at h; done) | skip
      all_goals (rename_i h5 h6; simp at h6)
     ·simp [arV] at h
   ·rename_i e hu
    split at h
    ·simp [arV] at h
    ·rename_i s hse
     simp only at h
     split at h
     ·rename_i hq
      obtain rfl : sz = s + 1 := Nat.eq_of_beq_eq_true hq
      obtain ⟨q, j, hv, hj, hb⟩ := idx_in (fun j => .inl ⟨_, rfl⟩) (hs i) h hps
      simp only [AR.val.injEq] at hb
      subst hb
      obtain ⟨ie, hie⟩ := sizeT_info hse
      generalize hu0 : σ x = u0 at h1
      cases h1 with | slc _ _ _ A cap vs hcap hA hr hl hn =>
      obtain ⟨ad, rfl, hI, hc⟩ := hA (by omega)
      have key : ∀ w', (Instr.indexAt t (.slice (some ad) n.val cap) (.int q (j : Int))).run P w' = .ok (.pointer (some (ad.add (j * (s + 1))))) w' := fun w' => by
       have hsz' := run_sizeT hie w'
       rw [hse] at hsz'
       have h1 : (0 : Int) <= (j : Int) /\ (j : Int) < (n.val : Int) := by omega
       simp [Instr.indexAt, run_underlying hu, asIntOf, hsz', hj]
      refine ⟨.pointer (some (ad.add (j * (s + 1)))), ?_, by simp, by simp, fun w' _ => ?_⟩
      ·refine .xp _ _ (vs j) (hr j hj) (fun _ => by rw [add_block]; exact hI) (fun k hk => ?_) (own_ok (hn j hj))
       rw [add_add]
       exact hc j hj k (by rw [<- hl j hj, <- (hr j hj).len]; exact hk)
      ·simp [execOp, hu0, hv, key]
     ·simp [arV] at h
   ·simp [arV] at h
  ·simp at h
 ·rename_i t x f
  split at h
  ·rename_i l hx
   split at h
   ·rename_i b hfa
    simp only [Option.some.injEq, Prod.mk.injEq] at h
    obtain ⟨rfl, rfl⟩ := h
    have h1 := hs x
    rw [hx] at h1
    unfold fieldAddrA at hfa
    split at hfa
    ·cases hfa
    ·rename_i fd hf
     obtain ⟨fs, hu, hg⟩ := fieldT_some hf
     split at hfa
     ·cases hfa
     ·rename_i n hz
      obtain ⟨i, hi⟩ := sizeT_info hz
      have key : ∀ (ad : Addr) w', (Instr.fieldAt t (.pointer (some ad)) f).run P w' = .ok (.pointer (some (ad.add fd.offset))) w' := fun ad w' => by
       simp [Instr.fieldAt, run_underlying hu, hg, Instr.sureAddr, fieldPlace, run_sizeT hi, hz]
      simp only [AR.val.injEq] at hfa
      subst hfa
      generalize hu0 : σ x = u0 at h1
      cases h1 with | xp _ ad vs hr hI hc hn =>
      refine ⟨.pointer (some (ad.add fd.offset)), ?_, by simp, by simp, fun w' _ => by simp [execOp, hu0, key]⟩
      rw [dropL_eq]
      refine .xp _ _ (vs.drop fd.offset) (hr.drop _) (fun hne => ?_) (fun j hj => ?_) (own_drop _ hn)
      ·rw [add_block]; exact hI (fun h0 => hne (by rw [h0]; simp))
      ·simp at hj
       rw [add_add, hc _ (by omega), List.getElem?_drop]
   ·simp at h
  ·simp at h
 ·rename_i x
  split at h
  ·rename_i hp
   simp only [Option.some.injEq, Prod.mk.injEq] at h
   obtain ⟨rfl, rfl⟩ := h
   obtain ⟨ad, hv⟩ := isPtr_rel (hs x) hp
   refine ⟨σ x, hs x, by simp, by simp, fun w' _ => ?_⟩
   simp [execOp, hv]
  ·simp at h
 ·rename_i c
  split at h
  ·rename_i x y hc ha
   exact mm_ok (dst := dst) (pos := pos) (after := after) (guard := guard) hs hc ha false (.inl ⟨rfl, rfl⟩) h
  ·rename_i x y hc ha
   exact mm_ok (dst := dst) (pos := pos) (after := after) (guard := guard) hs hc ha true (.inr ⟨rfl, rfl⟩) h
  ·simp at h
 ·rename_i t x
  split at h
  ·rename_i l hx
   split at h
   ·rename_i b hld
    simp only [Option.some.injEq, Prod.mk.injEq] at h
    obtain ⟨rfl, rfl⟩ := h
    have h1 := hs x
    rw [hx] at h1
    generalize hu0 : σ x = u0 at h1
    cases h1 with | xp _ ad vs hr hI hc hn =>
    obtain ⟨v, hv, hrun⟩ := run_part_fix (P := P) (ad := ad) hr hld
    refine ⟨v, hv, by simp, by simp, fun w' hw => ?_⟩
    have := hrun w' fun j hj => by
     have hl : l ≠ [] := by rintro rfl; simp at hj
     rw [<- hc j hj]
     exact cell_of_blk (by simpa [add_block] using hw _ (hI hl))
    have h2 : (Instr.loadAt t (.pointer (some ad))).run P w' = .ok v w' := by simpa [Instr.loadAt, Instr.sureAddr] using this
    simp [execOp, hu0, h2]
   ·simp at h
  ·simp at h
 ·rename_i op t x y
  split at h
  ·rename_i h1 h2
   simp only [Option.some.injEq, Prod.mk.injEq] at h
   obtain ⟨rfl, rfl⟩ := h
   obtain ⟨ad, hv⟩ := isPtr_rel (hs x) h2
   refine ⟨.bool false, .lb _, by simp, by simp, fun w' _ => ?_⟩
   have := (run_ptr_nil (P := P) (w := w') h1 (some ad) none (.inr rfl)).1
   have hc : σ (.const (.pointer none)) = .pointer none := hcn _
   simp [execOp, hv, hc, eqGuard_at_pointer, this]
  ·rename_i h1 h2
   simp only [Option.some.injEq, Prod.mk.injEq] at h
   obtain ⟨rfl, rfl⟩ := h
   obtain ⟨ad, hv⟩ := isPtr_rel (hs x) h2
   refine ⟨.bool true, .lb _, by simp, by simp, fun w' _ => ?_⟩
   have := (run_ptr_nil (P := P) (w := w') h1 (some ad) none (.inr rfl)).2
   have hc : σ (.const (.pointer none)) = .pointer none := hcn _
   simp [execOp, hv, hc, eqGuard_at_pointer, this]
  ·simp at h
 ·rename_i op t x y yt hne
  split at h
  ·rename_i k k' hk hk'
   split at h
   ·rename_i ps' b hb
    split at h
    ·rename_i hd
     simp only [Option.some.injEq, Prod.mk.injEq] at h
     obtain ⟨rfl, rfl⟩ := h
     have hpo : PO ⟨[], [], 0, [], [], []⟩ [] (binA P ⟨[], [], 0, [], [], []⟩ op t (ρ x) (ρ y)) b [] := by
      unfold arV at hb
      split at hb
      ·rename_i a' e
       simp only [Option.some.injEq, Prod.mk.injEq] at hb
       obtain ⟨rfl, rfl⟩ := hb
       rw [e]; exact .val _
      ·rename_i p a' e
       simp only [Option.some.injEq, Prod.mk.injEq] at hb
       obtain ⟨rfl, rfl⟩ := hb
       rw [e]; exact .need _ _ _ _ (hps p (by simp)) (.val _)
      ·cases hb
     have e1 := kindOf_rel (hs x) hk
     have e2 := kindOf_rel (hs y) hk'
     have at' : ∀ {w' : World} {z : Operand} {q : IntKind}, kindOf (ρ z) = some q -> Rel (⟨fun _ => none, C.I, fun _ => none⟩ : Cx) w' (ρ z) (σ z) := fun {w' z q} hz => by
      have hz' := hs z
      generalize ρ z = a at hz hz' ⊢
      generalize σ z = u at hz' ⊢
      unfold kindOf at hz
      split at hz
      ·cases hz'; exact .li _ _
      ·cases hz'; exact .si _ _
      ·cases hz
     have run1 : ∀ w', ∃ u, (do eqGuard op t x y (σ x) (σ y); binOp op t (σ x) (σ y) : Sem Value).run P w' = .ok u w' /\ Rel (⟨fun _ => none, C.I, fun _ => none⟩ : Cx) w' b u := fun w' => by
      have := vd_bin (P := P) (S := ⟨[], [], 0, [], [], []⟩) (C := ⟨fun _ => none, C.I, fun _ => none⟩) (w := w') (hp := []) (op := op) (t := t) (x := x) (y := y) (fun t ks h => by simp [findS] at h) (at' hk) (at' hk')
      obtain ⟨_, u, h1, h2⟩ := this b [] hpo
      exact ⟨u, h1, h2⟩
     obtain ⟨u, hu, hr⟩ := run1 w
     refine ⟨u, hr.det hd, by simp, by simp, fun w' _ => ?_⟩
     obtain ⟨u', hu', hr'⟩ := run1 w'
     rw [det_fun hd hr' hr] at hu'
     simp only [execOp]
     have hu2 := hu'
     simp only [Sem.run_bind] at hu2 ⊢
     generalize (eqGuard op t x y (σ x) (σ y)).run P w' = r at hu2 ⊢
     cases r with
     | ok a w2 =>
       simp only [Result.andThen_ok] at hu2 ⊢
       simp [hu2]
     | halt e w2 => simp at hu2
    ·simp at h
   ·simp at h
  ·simp at h
 ·rename_i c x y
  split at h
  ·rename_i hc
   simp only [Option.some.injEq, Prod.mk.injEq] at h
   obtain ⟨rfl, rfl⟩ := h
   have hv := hs c
   rw [hc] at hv
   have hv : σ c = .bool true := by generalize σ c = u at hv; cases hv; rfl
   exact ⟨σ x, hs x, by simp, by simp, fun w' _ => by have := run_pick (P := P) (w := w') (o := ⟨dst, .pick c x y, type, pos, after, guard⟩) rfl hv; simpa using this⟩
  ·rename_i hc
   simp only [Option.some.injEq, Prod.mk.injEq] at h
   obtain ⟨rfl, rfl⟩ := h
   have hv := hs c
   rw [hc] at hv
   have hv : σ c = .bool false := by generalize σ c = u at hv; cases hv; rfl
   exact ⟨σ y, hs y, by simp, by simp, fun w' _ => by have := run_pick (P := P) (w := w') (o := ⟨dst, .pick c x y, type, pos, after, guard⟩) rfl hv; simpa using this⟩
  ·simp at h
 ·simp at h
end
end Abs
end Go.Proofs.Ytdfdjlijghjdaaa

namespace Go.Proofs.Ytdfdjlijghjdaaa
namespace Abs
open Go Go.RowKit
section
variable {P : Program} {S : Sums} {C C' : Cx} {w w' : World} {H hp : Heap} {T T1 T' : List Cnd} {all : List Oper} {I : Act -> World -> Prop}
def GoalI (I : Act -> World -> Prop) (P : Program) (S : Sums) (R : AV -> Heap -> Prop) (K : List AV -> Heap -> VC) (Q : Exit -> Act -> World -> Prop) (C : Cx) (w : World) (ds : Act -> Prop) : Prop :=
 Goal P S R K Q C w ds /\ ∀ C' w' act', Tr S.lo C w C' w' -> ds act' -> I act' w'
theorem GoalI.step {R : AV -> Heap -> Prop} {K : List AV -> Heap -> VC} {Q : Exit -> Act -> World -> Prop} {ds : Act -> Prop} (g : GoalI I P S R K Q C w ds) (t : Tr S.lo C w C' w') : GoalI I P S R K Q C' w' ds :=
 ⟨g.1.step t, fun _ _ _ t' h => g.2 _ _ _ (t.trans t') h⟩
theorem Goal.any {R : AV -> Heap -> Prop} {K : List AV -> Heap -> VC} {Q : Exit -> Act -> World -> Prop} {ds : Act -> Prop} (g : Goal P S R K Q C w ds) : GoalI (fun _ _ => True) P S R K Q C w ds := ⟨g, fun _ _ _ _ _ => trivial⟩
structure Inv (all : List Oper) (s : Nat) (fr0 : List AV) (hp0 : Heap) (L : List Info) (T' : List Cnd) (D : Array Bool) (C : Cx) (w : World) (act : Act) : Prop where
 size : D.size = all.length
 before : ∀ i, i < s -> Lst D i
 behind : ∀ i, s + L.length <= i -> ¬ Lst D i
 closed : Closed all (Lst D)
 core : Core (fun q => dstOf all (s + q)) (fun q => Lst D (s + q)) fr0 hp0 L T' C w act
def jx (s n q : Nat) : Nat := if q < n then s + q else s + q + 1
theorem jx_lt {s n p q : Nat} (h : p < q) : jx s n p < jx s n q := by unfold jx; split <;> split <;> omega
theorem jx_l {s n q : Nat} (h : q < n) : jx s n q = s + q := by unfold jx; rw [if_pos h]
theorem jx_r (s n q : Nat) : jx s n (n + q) = s + n + 1 + q := by unfold jx; rw [if_neg (by omega)]; omega
theorem jx_ge {s n q : Nat} (h : n <= q) : s + n < jx s n q := by unfold jx; rw [if_neg (by omega)]; omega
structure LateInv (all : List Oper) (s : Nat) (fr0 : List AV) (hp0 : Heap) (L M : List Info) (T' : List Cnd) (D : Array Bool) (C : Cx) (w : World) (act : Act) : Prop where
 size : D.size = all.length
 before : ∀ i, i < s -> Lst D i
 notg : ¬ Lst D (s + L.length)
 behind : ∀ i, s + L.length + 1 + M.length <= i -> ¬ Lst D i
 closed : Closed all (Lst D)
 core : Core (fun q => dstOf all (jx s L.length q)) (fun q => Lst D (jx s L.length q)) fr0 hp0 (L ++ M) T' C w act
structure LateG (P : Program) (S : Sums) (all : List Oper) (n : Nat) (fr : List AV) (hp : Heap) (o : Oper) (ρ : Operand -> AV) (i : Nat) (fr2 : List AV) (hp2 : Heap) : Prop where
 ho : all[n]? = some o
 hg : o.guard = none
 bef : befAt all n = true
 lt : n + 1 < lateN all n
 app : ∃ c, o.op = .call c /\ c.callee = .builtin .append
 sees : ρ = evM ((tmpsO (opnds o.op)).map fun t => (t, unGd [] (getL fr t)))
 gr : growOf (aop P S ρ hp o.op) = some i
 bo : ∃ fr' a, BO S fr hp (aop P S ρ hp o.op) fr' hp2 a /\ fr2 = setO fr' o.dst (noGd a)
theorem bef_spec {i : Nat} (h : befAt all i = true) {j : Nat} (hj : j < all.length) (hlt : j < i) : ordM (masks all []) j i = true := by
 have h1 := allLt_spec (f := fun j => match Nat.blt j i with | true => ordM (masks all []) j i | false => true) h j hj
 rw [blt_true hlt] at h1; exact h1
theorem lastT_spec {f : Nat -> Bool} : ∀ {n j : Nat}, lastT f n <= j -> j < n -> f j = false
 | 0, j, _, h => by omega
 | n + 1, j, h1, h2 => by
   simp only [lastT] at h1
   split at h1
   ·omega
   ·rename_i hf
    rcases Nat.lt_or_ge j n with h | h
    ·exact lastT_spec h1 h
    ·obtain rfl : j = n := by omega
     exact hf
theorem late_spec {i k : Nat} (h : lateN all i <= k) (hk : k < all.length) (hik : i < k) : ordM (masks all []) i k = true := by
 have h1 := lastT_spec (f := fun j => match Nat.blt i j with | true => !(ordM (masks all []) i j) | false => false) h hk
 rw [blt_true hik] at h1
 simpa using h1
theorem ready_facts {D : Array Bool} (hsize : D.size = all.length) (hclosed : Closed all (Lst D)) {i : Nat} (hir : i ∈ Region.ready .any all.toArray D) :
  ∃ o, all[i]? = some o /\ ¬ Lst D i /\ (∀ e ∈ o.after.toList, Region.binds .any e = true -> Lst D e.on) /\ (∀ k, Lst (D.setIfInBounds i true) k ↔ Lst D k \/ k = i) /\ Closed all (Lst (D.setIfInBounds i true)) /\
    (∀ fuel, unl (fun k => D.getD k false) all.length <= fuel + 1 -> unl (fun k => (D.setIfInBounds i true).getD k false) all.length <= fuel) /\ (D.setIfInBounds i true).size = all.length := by
 obtain ⟨o, ho, hnl, hpre⟩ := ready_mem hir
 have hlt := (List.getElem?_eq_some_iff.1 ho).1
 have hltD : i < D.size := by rw [hsize]; exact hlt
 rw [getD_tf hltD] at hnl
 have hnl' : ¬ Lst D i := by unfold Lst; rw [hnl]; simp
 have hset := fun k => lst_set (D := D) (i := i) (k := k) hltD
 have hLst : ∀ k, Lst (D.setIfInBounds i true) k ↔ Lst D k \/ k = i := fun k => by unfold Lst; rw [hset]; simp
 refine ⟨o, ho, hnl', hpre, hLst, fun k o' hk hl e he hb => ?_, fun fuel hfu => ?_, by simp [hsize]⟩
 ·rw [hLst] at hl ⊢
  rcases hl with hl | rfl
  ·exact .inl (hclosed k o' hk hl e he hb)
  ·rw [ho] at hk; injection hk with hk; subst hk; exact .inl (hpre e he hb)
 ·have := unl_set (f := fun k => D.getD k false) (g := fun k => (D.setIfInBounds i true).getD k false) (i := i) hnl (fun k => hset k) hlt
  omega
def StA (I : Act -> World -> Prop) (P : Program) (S : Sums) (all : List Oper) (R : AV -> Heap -> Prop) (K : List AV -> Heap -> VC) (Q : Exit -> Act -> World -> Prop) (ds : Act -> Prop) (ro : Option Nat) (rm : Nat) (fuel : Nat) : Prop :=
 ∀ (D : Array Bool) (s : Nat) (T0 : List Cnd) (fr0 : List AV) (hp0 : Heap) (L : List Info) (T' : List Cnd) (C : Cx) (w : World) (act : Act), Seg P all s T0 fr0 hp0 L T' -> SegEnd P S all R K s fr0 hp0 L T' ->
   Inv all s fr0 hp0 L T' D C w act -> S.lo <= hp0.length -> unl (fun i => D.getD i false) all.length <= fuel -> ds act -> GoalI I P S R K Q C w ds -> wpAnyI I (fen ro) rm P all.toArray Q fuel D act w
def StB (I : Act -> World -> Prop) (P : Program) (S : Sums) (all : List Oper) (R : AV -> Heap -> Prop) (K : List AV -> Heap -> VC) (Q : Exit -> Act -> World -> Prop) (ds : Act -> Prop) (ro : Option Nat) (rm : Nat) (fuel : Nat) : Prop :=
 ∀ (D : Array Bool) (s : Nat) (T0 : List Cnd) (fr0 : List AV) (hp0 : Heap) (L : List Info) (o : Oper) (ρ : Operand -> AV) (i : Nat) (fr2 : List AV) (hp2 : Heap) (L2 : List Info) (T2 : List Cnd) (C : Cx) (w : World) (act : Act),
   Seg P all s T0 fr0 hp0 L [] -> LateG P S all (s + L.length) (frs all s fr0 L L.length) (hps hp0 L L.length) o ρ i fr2 hp2 -> Seg P all (s + L.length + 1) [] fr2 hp2 L2 T2 -> SegEnd P S all R K (s + L.length + 1) fr2 hp2 L2 T2 ->
    LateOK all i (lateN all (s + L.length)) (s + L.length + 1) fr2 L2 -> LateInv all s fr0 hp0 L (L2.take (lateN all (s + L.length) - (s + L.length + 1))) T2 D C w act ->
    S.lo <= hp0.length -> unl (fun i => D.getD i false) all.length <= fuel -> ds act -> GoalI I P S R K Q C w ds -> wpAnyI I (fen ro) rm P all.toArray Q fuel D act w
theorem LateInv.look {s : Nat} {fr0 : List AV} {hp0 : Heap} {L M : List Info} {D : Array Bool} {act : Act} (hi : LateInv all s fr0 hp0 L M T' D C w act) (hback : Back all) (htmp : tmpOK all = true) (hlen : s + L.length + 1 + M.length <= all.length)
  {q : Nat} (hq : q < L.length + M.length) {o : Oper} (ho : all[jx s L.length q]? = some o) (hn : ¬ Lst D (jx s L.length q)) (hpre : ∀ e ∈ o.after.toList, Region.binds .any e = true -> Lst D e.on) {t : Nat} (ht : t ∈ looksL all o) :
  RelG T' C w (getL (frsG (fun q => dstOf all (jx s L.length q)) fr0 (L ++ M) q) t) (act.tmps.getD t undef) := by
 have hjl : ∀ p, p < L.length + M.length -> jx s L.length p < all.length := fun p hp => by unfold jx; split <;> omega
 refine hi.core.look (by rw [List.length_append]; omega) (fun p hp hd => ?_) (.inl fun p hpq hp hl hd => ?_)
 ·obtain ⟨o', ho', hd'⟩ := dstOf_some hd
  exact ord_closed hback hi.closed _ _ ho hpre ((tmp_spec htmp ho' hd' ho ht).1 (jx_lt hp))
 ·rw [List.length_append] at hp
  rcases Nat.lt_or_ge q p with h | h
  ·obtain ⟨o', ho', hd'⟩ := dstOf_some hd
   exact hn (ord_mem hback hi.closed (hjl p hp) hl ((tmp_spec htmp ho' hd' ho ht).2 (jx_lt h)))
  ·obtain rfl : p = q := by omega
   exact hn hl
theorem opnds_looks {o : Oper} {c : Call} (ho : o.op = .call c) (hc : c.callee = .builtin .append) {t : Nat} (ht : t ∈ tmpsO (opnds o.op)) : t ∈ looksL all o := by
 refine looks_op ?_
 have h1 : (.tmp t : Operand) ∈ c.args.toList := by
  have h2 : opnds o.op = c.args.toList := by rw [ho]; simp only [opnds, hc]
  rw [h2] at ht
  revert ht
  generalize c.args.toList = l
  intro ht
  induction l with
  | nil => simp [tmpsO] at ht
  | cons x l ih =>
    cases x with
    | tmp u =>
      simp only [tmpsO, List.mem_cons] at ht
      rcases ht with rfl | ht
      ·simp
      ·exact List.mem_cons_of_mem _ (ih ht)
    | _ => exact List.mem_cons_of_mem _ (ih (by simpa [tmpsO] using ht))
 rw [ho]
 show _ ∈ c.operands
 obtain ⟨cal, args, tys⟩ := c
 simp only at hc h1
 subst hc
 simpa [Call.operands] using h1
theorem stB_zero {R : AV -> Heap -> Prop} {K : List AV -> Heap -> VC} {Q : Exit -> Act -> World -> Prop} {ds : Act -> Prop} {ro : Option Nat} {rm : Nat} : StB I P S all R K Q ds ro rm 0 := by
 intro D s T0 fr0 hp0 L o ρ i fr2 hp2 L2 T2 C w act hseg hG hseg2 hend2 hlate hi hlo hfu hds hgoal
 exact absurd (unl_zero (f := fun i => D.getD i false) (by omega) _ (List.getElem?_eq_some_iff.1 hG.ho).1) hi.notg
theorem stB_succ (hS : SumsOK P S) (hu : uniqOK all = true) (htmp : tmpOK all = true) (hback : Back all) {R : AV -> Heap -> Prop} {K : List AV -> Heap -> VC} {Q : Exit -> Act -> World -> Prop} {ds : Act -> Prop} (hput : PutOK all ds) {ro : Option Nat} {rm : Nat} {fuel : Nat}
  (hA : StA I P S all R K Q ds ro rm fuel) (hB : StB I P S all R K Q ds ro rm fuel) : StB I P S all R K Q ds ro rm (fuel + 1) := by
 intro D s T0 fr0 hp0 L o ρ i fr2 hp2 L2 T2 C w act hseg hG hseg2 hend2 hlate hi hlo hfu hds hgoal
 have hgn := (List.getElem?_eq_some_iff.1 hG.ho).1
 have hMl : (L2.take (lateN all (s + L.length) - (s + L.length + 1))).length = lateN all (s + L.length) - (s + L.length + 1) := by
  rw [List.length_take]; have := hlate.1; omega
 have hlate1 := hlate.1
 have hlt0 := hG.lt
 generalize hu' : lateN all (s + L.length) = u at *
 generalize hM : L2.take (u - (s + L.length + 1)) = M at *
 have hML : M.length <= L2.length := by omega
 have hMg : ∀ q, q < M.length -> M.getD q default = L2.getD q default := fun q hq => by rw [<- hM]; exact getD_take (by omega)
 have hlenM : s + L.length + 1 + M.length <= all.length := by have := hseg2.len; omega
 obtain ⟨c, hoc, hcc⟩ := hG.app
 obtain ⟨frb, av, hbo, hfr2⟩ := hG.bo
 obtain ⟨hloi, hav, hfrb, bb, hhp2⟩ := growOf_bo hG.gr hbo
 subst hav hfrb
 have hil : i < (hps hp0 L L.length).length := by
  rcases Nat.lt_or_ge i (hps hp0 L L.length).length with h | h
  ·exact h
  ·exfalso
   have := growOf_lt hoc hcc hG.gr
   omega
 have hclM : ∀ q, q < M.length -> hasOH i ((M.getD q default).new) = false := fun q hq => by
  rw [hMg q hq]; exact (hlate.2 q (by omega) (by omega)).2.2
 have hcat : ∀ q, hps hp0 (L ++ M) (L.length + q) = hps (hps hp0 L L.length) M q := hps_cat hp0 L M
 have htn : ∀ q, q <= M.length -> hps hp2 L2 q = setB (mapH (at1 i .top) (hps hp0 (L ++ M) (L.length + q))) i bb := fun q hq => by
  rw [hcat, <- hps_turn hil fun p hp => hclM p (by omega), <- hhp2]
  exact hps_congr fun p hp => (hMg p (by omega)).symm
 have hlenq : ∀ q, q <= M.length -> (hps hp2 L2 q).length = (hps hp0 (L ++ M) (L.length + q)).length := fun q hq => by
  rw [htn q hq, len_setB, len_mapH]
 have hiq : ∀ q, q <= M.length -> i < (hps hp2 L2 q).length := fun q hq => by
  rw [hlenq q hq, hcat]
  obtain ⟨r, hr⟩ := hps_app (hps hp0 L L.length) M q
  rw [hr, List.length_append]; omega
 have hLM : (L ++ M).length = L.length + M.length := List.length_append
 have hfrL : ∀ q, q <= L.length -> frsG (fun q => dstOf all (jx s L.length q)) fr0 (L ++ M) q = frs all s fr0 L q := fun q hq => by
  rw [frs_eq]
  exact frsG_congr fun p hp => ⟨by simp only [jx_l (show p < L.length by omega)], getD_cat_l (by omega)⟩
 refine ⟨fun hr => ?_, fun k hir => ?_⟩
 ·exact absurd (all_listed hback hi.size hr _ hgn) hi.notg
 ·obtain ⟨o', ho, hnl', hpre, hLst, hclosed, hfu', hsz⟩ := ready_facts hi.size hi.closed hir
  have hlt := (List.getElem?_eq_some_iff.1 ho).1
  have hfu'' := hfu' fuel hfu
  have hao : all.toArray[k]? = some o' := by simpa using ho
  unfold wpOpIn
  simp only [hao]
  have his : s <= k := by
   rcases Nat.lt_or_ge k s with h | h
   ·exact absurd (hi.before k h) hnl'
   ·exact h
  have hkk : ∀ q, q < L.length + M.length -> k = jx s L.length q -> ∀ v w', (∃ C', HR C' (hps hp0 (L ++ M) (L ++ M).length) w' /\ RelG T2 C' w' ((L ++ M).getD q default).val v /\ Grow (hps hp0 (L ++ M) q).length ((L ++ M).getD q default).new.length C w C' w') ->
    I (act.put o'.dst v) w' /\ wpAnyI I (fen ro) rm P all.toArray Q fuel (D.setIfInBounds k true) (act.put o'.dst v) w' := by
   rintro q hq hkq v w' ⟨C', h1, h2, h3⟩
   subst hkq
   have hdd : dstOf all (jx s L.length q) = o'.dst := dstOf_get ho
   have hinj : ∀ p, jx s L.length p = jx s L.length q -> p = q := fun p e => by
    rcases Nat.lt_trichotomy p q with h | h | h
    ·have := jx_lt (s := s) (n := L.length) h; omega
    ·exact h
    ·have := jx_lt (s := s) (n := L.length) h; omega
   have hcore := hi.core.next (dn' := fun q' => Lst (D.setIfInBounds (jx s L.length q) true) (jx s L.length q')) (q := q) (by rw [hLM]; exact hq) hnl' (fun p hp => by
     rw [hLst]
     exact ⟨fun h => h.imp id (hinj p), fun h => h.imp id fun e => by rw [e]⟩) (fun p hp hne t hd hd' => by
     obtain ⟨o2, ho2, hd2⟩ := dstOf_some hd'
     rw [hdd] at hd
     exact (uniq_spec hu ho).1 t hd _ o2 (fun e => hne (hinj p e)) ho2 hd2) h1 h2 h3
   simp only [hdd] at hcore
   obtain ⟨rb, hrb⟩ := hps_app hp0 (L ++ M) q
   have htr : Tr S.lo C w C' w' := h3.tr (by rw [hrb]; simp; omega)
   have hds' := hput o' (List.mem_of_getElem? ho) act v hds
   refine ⟨hgoal.2 _ _ _ htr hds', hB _ s T0 fr0 hp0 L o ρ i fr2 hp2 L2 T2 C' w' _ hseg hG hseg2 hend2 (by rw [hu']; exact hlate) ?_ hlo hfu'' hds' (hgoal.step htr)⟩
   rw [hu', hM]
   refine ⟨hsz, fun k hk => (hLst k).2 (.inl (hi.before k hk)), fun h => ?_, fun k hk h => ?_, hclosed, hcore⟩
   ·rcases (hLst _).1 h with h | h
    ·exact hi.notg h
    ·unfold jx at h; split at h <;> omega
   ·rcases (hLst _).1 h with h | h
    ·exact hi.behind k hk h
    ·unfold jx at h; split at h <;> omega
  have fin : ∀ q, q < L.length + M.length -> k = jx s L.length q ->
    ((Region.wanted o' (yielded all.toArray act.tmps) = true /\ Ran P o' act.eval w fun v w' => ∃ C', HR C' (hps hp0 (L ++ M) (L ++ M).length) w' /\ RelG T2 C' w' ((L ++ M).getD q default).val v /\ Grow (hps hp0 (L ++ M) q).length ((L ++ M).getD q default).new.length C w C' w') \/
     (Region.wanted o' (yielded all.toArray act.tmps) = false /\ ∃ C', HR C' (hps hp0 (L ++ M) (L ++ M).length) w /\ RelG T2 C' w ((L ++ M).getD q default).val undef /\ Grow (hps hp0 (L ++ M) q).length ((L ++ M).getD q default).new.length C w C' w)) ->
    (if Region.wanted o' (yielded all.toArray act.tmps) = true then Oper.wpIn (fen ro) rm P o' act w (fun a' w' => I a' w' /\ wpAnyI I (fen ro) rm P all.toArray Q fuel (D.setIfInBounds k true) a' w') Q
     else (∀ (f : FuncId), Oper.about P w act.eval o' = some f -> (fen ro).fn f) /\ I (act.put o'.dst undef) w /\ wpAnyI I (fen ro) rm P all.toArray Q fuel (D.setIfInBounds k true) (act.put o'.dst undef) w) := by
   intro q hq hkq hd
   rcases hd with ⟨hw, hr⟩ | ⟨hw, hr⟩
   ·rw [hw]
    simp only [if_true]
    exact Ran.wpIn (hr.mono (hkk q hq hkq))
   ·rw [hw]
    simp only [Bool.false_eq_true, if_false]
    exact ⟨fun _ _ => trivial, hkk q hq hkq _ _ hr⟩
  rcases Nat.lt_trichotomy k (s + L.length) with hile | hie | hige
  ·-- of the first piece
   obtain ⟨q, rfl⟩ := Nat.exists_eq_add_of_le his
   have hq : q < L.length := by omega
   have hjq : jx s L.length q = s + q := jx_l hq
   refine fin q (by omega) hjq.symm ?_
   obtain ⟨o1, Tq, Tq1, h1, hst, hsub⟩ := hseg.step q hq
   rw [ho] at h1; injection h1 with h1; subst h1
   have e1 : (L ++ M).getD q default = L.getD q default := getD_cat_l hq
   have e2 : hps hp0 (L ++ M) q = hps hp0 L q := hps_congr fun p hp => getD_cat_l (by omega)
   rw [e1, e2]
   have hlook := fun t ht => hi.look hback htmp hlenM (q := q) (by omega) (by rw [hjq]; exact ho) (by rw [hjq]; exact hnl') hpre (t := t) ht
   simp only [hfrL q (by omega)] at hlook
   have hq' : q < (L ++ M).length := by rw [hLM]; omega
   have hff := hi.core.ff (q := q) hq' (by show ¬ Lst D (jx s L.length q); rw [hjq]; exact hnl')
   rw [e1, e2] at hff
   have hpp := hps_pre (hp0 := hp0) hq'
   rw [e2] at hpp
   exact run_info hst (hsub.trans fun k x hx => by simp at hx) (act := act) hi.core.hr hpp hff (fun x hx => evG_rel x fun t ht => hlook t (looks_op (ht ▸ hx))) (fun d hd => hlook d (looks_gd hd))
  ·-- the append
   subst hie
   have ho1 := hG.ho
   rw [ho] at ho1; injection ho1 with ho1; subst ho1
   have hall : ∀ q, q < L.length -> Lst D (s + q) := fun q hq => ord_closed hback hi.closed _ _ ho hpre (bef_spec hG.bef (by omega) (by omega))
   have hlookg : ∀ t, ((∀ p, L.length <= p -> p < L.length + M.length -> Lst D (jx s L.length p) -> dstOf all (jx s L.length p) ≠ some t) \/ fr0.length <= t) -> RelG T2 C w (getL (frs all s fr0 L L.length) t) (act.tmps.getD t undef) := fun t h => by
    rw [<- hfrL L.length (Nat.le_refl _)]
    refine hi.core.look (by rw [hLM]; omega) (fun p hp _ => ?_) (h.imp (fun h p h1 h2 => h p h1 (by rw [hLM] at h2; exact h2)) id)
    show Lst D (jx s L.length p)
    rw [jx_l hp]; exact hall p hp
   have hev : ∀ x, Rel C w (ρ x) (act.eval x) := fun x => by
    rw [hG.sees]
    refine evM_ops (T := T2) (fun t ht => hlookg t (.inl fun p h1 h2 hl hd => ?_)) x
    obtain ⟨o2, ho2, hd2⟩ := dstOf_some hd
    exact hi.notg (ord_mem hback hi.closed (by unfold jx; split <;> omega) hl ((tmp_spec htmp ho2 hd2 ho (opnds_looks hoc hcc ht)).2 (jx_ge h1)))
   have hwant : Region.wanted o' (yielded all.toArray act.tmps) = true := by unfold Region.wanted; rw [hG.hg]
   rw [hwant]
   simp only [if_true]
   have hpreL : Pre (hps hp0 L L.length) (hps hp0 (L ++ M) (L ++ M).length) := fun k hk => by
    rw [hLM, hcat]
    obtain ⟨r, hr⟩ := hps_app (hps hp0 L L.length) M M.length
    rw [hr, getB_append _ _ _ hk]
   have hbb : getB hp2 i = bb := by rw [hhp2, getB_set, if_pos ⟨rfl, by rw [len_mapH]; exact hil⟩]
   refine Ran.wpIn ((late_exec o' hoc hcc hev hi.core.hr hpreL hG.gr hbo).mono fun v w' ⟨C', ht, h1, h2, h3⟩ => ?_)
   rw [hbb, hLM, <- htn M.length (Nat.le_refl _)] at h1
   obtain ⟨r2, hr2⟩ := hps_le hp2 L2 hML
   have hlo2 : S.lo <= hp2.length := by
    rw [hhp2, len_setB, len_mapH]
    obtain ⟨rb, hrb⟩ := hps_app hp0 L L.length
    rw [hrb]; simp; omega
   have hfl2 : fr2.length = fr0.length := by rw [hfr2, len_setO, len_mapRL, frs_len]
   have hMlst : ∀ q, Lst D (s + L.length + 1 + q) -> q < M.length := fun q h => by
    rcases Nat.lt_or_ge q M.length with h' | h'
    ·exact h'
    ·exact absurd h (hi.behind _ (by omega))
   have hput' : ∀ t, (act.put o'.dst v).tmps.getD t undef = if o'.dst = some t /\ t < act.tmps.size then v else act.tmps.getD t undef := put_get act o'.dst v
   have hds' := hput o' (List.mem_of_getElem? ho) act v hds
   refine ⟨hgoal.2 _ _ _ h3 hds', hA _ _ _ _ _ L2 T2 C' w' _ hseg2 hend2 ⟨hsz, fun k hk => (hLst k).2 ?_, fun k hk hl => ?_, hclosed, ⟨by rw [hr2]; exact h1.ext r2, fun q hq hn t ht' => ?_, fun q hq hl t hd hlt' => ?_, fun t hc => ?_, ?_⟩⟩ hlo2 hfu'' hds' (hgoal.step h3)⟩
   ·rcases Nat.lt_trichotomy k (s + L.length) with h | h | h
    ·rcases Nat.lt_or_ge k s with h' | h'
     ·exact .inl (hi.before k h')
     ·obtain ⟨q, rfl⟩ := Nat.exists_eq_add_of_le h'
      exact .inl (hall q (by omega))
    ·exact .inr h
    ·omega
   ·rcases (hLst k).1 hl with h | h
    ·exact hi.behind k (by omega) h
    ·omega
   ·rcases Nat.lt_or_ge q M.length with hqM | hqM
    ·rw [ht.rho _ (by have := hiq q (by omega); omega), hlenq q (by omega)]
     have e3 : (L ++ M).getD (L.length + q) default = L2.getD q default := by rw [getD_cat_r, hMg q hqM]
     refine hi.core.free (L.length + q) (by rw [hLM]; omega) (fun h => hn ((hLst _).2 (.inl ?_))) t (by rw [e3]; exact ht')
     have h' : Lst D (jx s L.length (L.length + q)) := h
     rw [jx_r] at h'; exact h'
    ·cases hc : C'.ρ ((hps hp2 L2 q).length + t) with
     | none => rfl
     | some p =>
       have := h1.lt hc
       obtain ⟨r, hr⟩ := hps_le hp2 L2 hqM
       rw [hr] at this; simp at this; omega
   ·have hl' : Lst D (s + L.length + 1 + q) := by
     rcases (hLst _).1 hl with h | h
     ·exact h
     ·omega
    have hqM := hMlst q hl'
    have e3 : (L ++ M).getD (L.length + q) default = L2.getD q default := by rw [getD_cat_r, hMg q hqM]
    have hv := hi.core.v1 (L.length + q) (by rw [hLM]; omega) (by show Lst D (jx s L.length (L.length + q)); rw [jx_r]; exact hl') t (by show dstOf all (jx s L.length (L.length + q)) = some t; rw [jx_r]; exact hd) (by rw [<- hfl2]; exact hlt')
    rw [e3] at hv
    have hv' := hv.turn ht trivial
    rw [mapR_clean ((hlate.2 q hq (by omega)).2.1 t hd hlt')] at hv'
    rw [hput', if_neg]
    ·exact hv'
    ·rintro ⟨hd', _⟩
     obtain ⟨o2, ho2, hd2⟩ := dstOf_some hd
     exact (uniq_spec hu ho).1 t hd' _ o2 (by omega) ho2 hd2
   ·rw [hput', hfr2, getL_setO, len_mapRL, frs_len, <- hi.core.tsz]
    by_cases hdt : o'.dst = some t /\ t < fr0.length
    ·rw [if_pos hdt, if_pos hdt]
     exact .plain (rel_noGd h2) (notGd_noGd _)
    ·rw [if_neg hdt, if_neg hdt, getL_mapRL]
     refine (hlookg t ?_).turn ht trivial
     rw [hfl2] at hc
     refine hc.imp (fun hc p h1 h2 hl hd => ?_) id
     obtain ⟨q, rfl⟩ := Nat.exists_eq_add_of_le h1
     rw [jx_r] at hl hd
     exact hc q (by omega) ((hLst _).2 (.inl hl)) hd
   ·rw [hfl2, hi.core.tsz]; cases o'.dst <;> simp [Act.put]
  ·rcases Nat.lt_or_ge k u with hku | hku
   ·-- of the second piece
    obtain ⟨q, rfl⟩ := Nat.exists_eq_add_of_le (show s + L.length + 1 <= k from hige)
    have hqM : q < M.length := by omega
    have hq2 : q < L2.length := by omega
    have hjq : jx s L.length (L.length + q) = s + L.length + 1 + q := jx_r _ _ _
    refine fin (L.length + q) (by omega) hjq.symm ?_
    obtain ⟨o1, Tq, Tq1, h1, hst, hsub⟩ := hseg2.step q hq2
    rw [ho] at h1; injection h1 with h1; subst h1
    have e3 : (L ++ M).getD (L.length + q) default = L2.getD q default := by rw [getD_cat_r, hMg q hqM]
    rw [e3, <- hlenq q (by omega)]
    obtain ⟨hcT, hcV, hcN⟩ := hlate.2 q hq2 (by omega)
    obtain ⟨_, hcT⟩ := hcT _ ho
    have hfrM : ∀ p, p <= q -> ∀ t, hasO i (getL (frs all (s + L.length + 1) fr2 L2 p) t) = false -> getL (frs all (s + L.length + 1) fr2 L2 p) t = mapR (at1 i .top) (getL (frsG (fun q => dstOf all (jx s L.length q)) fr0 (L ++ M) (L.length + p)) t) := by
     intro p
     induction p with
     | zero =>
       intro _ t ht
       show getL fr2 t = mapR (at1 i .top) (getL (frsG _ fr0 (L ++ M) L.length) t)
       have ht' : hasO i (getL fr2 t) = false := ht
       rw [hfrL L.length (Nat.le_refl _)]
       rw [hfr2, getL_setO] at ht' ⊢
       split at ht'
       ·simp [noGd, hasO] at ht'
       ·rename_i hne
        rw [if_neg hne, getL_mapRL]
     | succ p ihp =>
       intro hp t ht
       have hfl2 : fr2.length = fr0.length := by rw [hfr2, len_setO, len_mapRL, frs_len]
       show getL (frs all (s + L.length + 1) fr2 L2 (p + 1)) t = mapR (at1 i .top) (getL (frsG _ fr0 (L ++ M) (L.length + p + 1)) t)
       simp only [frs, frsG] at ht ⊢
       rw [getL_setO, frs_len] at ht ⊢
       rw [getL_setO, frsG_len, jx_r, getD_cat_r, hMg p (by omega), <- hfl2]
       split at ht
       ·rename_i hd
        rw [if_pos hd, if_pos hd, mapR_clean ht]
       ·rename_i hd
        rw [if_neg hd, if_neg hd]
        exact ihp (by omega) t ht
    have hlook : ∀ t ∈ looksL all o', RelG T2 (C.less i) w (getL (frs all (s + L.length + 1) fr2 L2 q) t) (act.tmps.getD t undef) := fun t ht => by
     rw [hfrM q (Nat.le_refl _) t (hcT t ht)]
     exact (hi.look hback htmp hlenM (q := L.length + q) (by omega) (by rw [hjq]; exact ho) (by rw [hjq]; exact hnl') hpre (t := t) ht).turn (Turn.less C w i) trivial
    have hqLM : L.length + q < (L ++ M).length := by rw [hLM]; omega
    refine frame_step (bb := bb) hst hsub hi.core.hr (hiq q (by omega)) ?_ ?_ (fun t ht => ?_) (fun t ht => ?_) hcN (fun x hx => evG_rel x fun t ht => hlook t (looks_op (ht ▸ hx))) (fun d hd => hlook d (looks_gd hd))
    ·have := hiq M.length (Nat.le_refl _)
     rw [hlenq _ (Nat.le_refl _)] at this
     rw [hLM]; exact this
    ·rw [hLM, <- htn M.length (Nat.le_refl _)]
     obtain ⟨r, hr⟩ := hps_le hp2 L2 (show q <= M.length by omega)
     exact fun k hk => by rw [hr, getB_append _ _ _ hk]
    ·rw [hlenq q (by omega)]
     exact hi.core.free (L.length + q) hqLM (by show ¬ Lst D (jx s L.length (L.length + q)); rw [hjq]; exact hnl') t (by rw [e3]; exact ht)
    ·rw [hlenq q (by omega)]
     have := hps_at (hp0 := hp0) hqLM (t := t) (by rw [e3]; exact ht)
     rw [e3] at this
     exact this
   ·-- behind the append
    exact absurd (ord_closed hback hi.closed _ _ ho hpre (late_spec (by rw [hu']; exact hku) hlt hige)) hi.notg
theorem late_enter (hS : SumsOK P S) (hu : uniqOK all = true) {R : AV -> Heap -> Prop} {K : List AV -> Heap -> VC} {Q : Exit -> Act -> World -> Prop} {ds : Act -> Prop} {ro : Option Nat} {rm : Nat} {fuel : Nat} (hB : StB I P S all R K Q ds ro rm fuel)
  {D : Array Bool} {s : Nat} {T0 : List Cnd} {fr0 : List AV} {hp0 : Heap} {L : List Info} {act : Act} {o : Oper} {ρ : Operand -> AV} {i : Nat} {fr' : List AV} {hp' : Heap} {a : AV}
  (hseg : Seg P all s T0 fr0 hp0 L []) (hi : Inv all s fr0 hp0 L [] D C w act) (ho : all[s + L.length]? = some o) (hg : o.guard = none) (hbef : befAt all (s + L.length) = true) (hlt : s + L.length + 1 < lateN all (s + L.length)) (happ : ∃ c, o.op = .call c /\ c.callee = .builtin .append)
  (hρ : ρ = evM ((tmpsO (opnds o.op)).map fun t => (t, unGd [] (getL (frs all s fr0 L L.length) t)))) (hgr : growOf (aop P S ρ (hps hp0 L L.length) o.op) = some i) (hbo : BO S (frs all s fr0 L L.length) (hps hp0 L L.length) (aop P S ρ (hps hp0 L L.length) o.op) fr' hp' a)
  (hh : (runOps P S true all (some (i, lateN all (s + L.length))) (s + L.length + 1) (all.drop (s + L.length + 1)) [] (setO fr' o.dst (noGd a)) hp' K).sat R)
  (hlo : S.lo <= hp0.length) (hfu : unl (fun i => D.getD i false) all.length <= fuel) (hds : ds act) (hgoal : GoalI I P S R K Q C w ds) : wpAnyI I (fen ro) rm P all.toArray Q fuel D act w := by
 have hgn := (List.getElem?_eq_some_iff.1 ho).1
 obtain ⟨L2, T2, hs2, he2, hlate⟩ := seg_late hS hu (s := s + L.length + 1) (fr0 := setO fr' o.dst (noGd a)) (hp0 := hp') (i := i) (u := lateN all (s + L.length)) (all.drop (s + L.length + 1)) []
  ⟨by simp only [List.length_nil]; omega, .refl _, fun q hq => by simp at hq⟩ rfl (by simp only [List.length_nil]; omega) (fun q hq => by simp at hq) hh
 refine hB D s T0 fr0 hp0 L o ρ i _ _ L2 T2 C w act hseg ⟨ho, hg, hbef, hlt, happ, hρ, hgr, ⟨fr', a, hbo, rfl⟩⟩ hs2 he2 hlate ?_ hlo hfu hds hgoal
 generalize L2.take (lateN all (s + L.length) - (s + L.length + 1)) = M
 have hx : ∃ r, hps hp0 (L ++ M) (L ++ M).length = hps hp0 L L.length ++ r := by
  rw [List.length_append, hps_cat]; exact hps_app _ _ _
 obtain ⟨r, hr⟩ := hx
 have hold : ∀ q, q < (L ++ M).length -> Lst D (jx s L.length q) -> q < L.length /\ Lst D (s + q) := fun q _ hl => by
  rcases Nat.lt_or_ge q L.length with h | h
  ·rw [jx_l h] at hl; exact ⟨h, hl⟩
  ·exact absurd hl (hi.behind _ (Nat.le_of_lt (jx_ge h)))
 refine ⟨hi.size, hi.before, hi.behind _ (Nat.le_refl _), fun k hk => hi.behind k (by omega), hi.closed, ⟨by rw [hr]; exact hi.core.hr.ext r, fun q hq hn t ht => ?_, fun q hq hl t hd hlt' => ?_, fun t ht => ?_, hi.core.tsz⟩⟩
 ·rcases Nat.lt_or_ge q L.length with h | h
  ·rw [jx_l h] at hn
   rw [getD_cat_l h] at ht
   rw [show hps hp0 (L ++ M) q = hps hp0 L q from hps_congr fun p hp => getD_cat_l (by omega)]
   exact hi.core.free q h hn t ht
  ·cases hc : C.ρ ((hps hp0 (L ++ M) q).length + t) with
   | none => rfl
   | some p =>
     have := hi.core.hr.lt hc
     obtain ⟨q, rfl⟩ := Nat.exists_eq_add_of_le h
     rw [hps_cat] at this
     obtain ⟨r', hr'⟩ := hps_app (hps hp0 L L.length) M q
     rw [hr'] at this; simp at this; omega
 ·obtain ⟨h1, h2⟩ := hold q hq hl
  rw [getD_cat_l h1]
  rw [jx_l h1] at hd
  exact (hi.core.v1 q h1 h2 t hd hlt').sub fun k x hx => by simp at hx
 ·refine (hi.core.v2 t (ht.imp (fun h q hq hl hd => ?_) id)).sub fun k x hx => by simp at hx
  exact h q (by rw [List.length_append]; omega) (by rw [jx_l hq]; exact hl) (by rw [jx_l hq]; exact hd)
theorem Inv.frame {s : Nat} {fr0 : List AV} {hp0 : Heap} {L : List Info} {D : Array Bool} {act : Act} (hi : Inv all s fr0 hp0 L T' D C w act) (hall : ∀ q, q < L.length -> Lst D (s + q)) : FR T' C w (frs all s fr0 L L.length) act.tmps := by
 rw [frs_eq]; exact hi.core.frame hall
theorem Inv.look {s : Nat} {fr0 : List AV} {hp0 : Heap} {L : List Info} {D : Array Bool} {act : Act} (hi : Inv all s fr0 hp0 L T' D C w act) (hback : Back all) (htmp : tmpOK all = true) (hlen : s + L.length <= all.length) {q : Nat} (hq : q < L.length) {o : Oper} (ho : all[s + q]? = some o)
  (hn : ¬ Lst D (s + q)) (hpre : ∀ e ∈ o.after.toList, Region.binds .any e = true -> Lst D e.on) {t : Nat} (ht : t ∈ looksL all o) : RelG T' C w (getL (frs all s fr0 L q) t) (act.tmps.getD t undef) := by
 rw [frs_eq]
 refine hi.core.look (by omega) (fun p hp hd => ?_) (.inl fun p hpq hp hl hd => ?_)
 ·obtain ⟨o', ho', hd'⟩ := dstOf_some hd
  exact ord_closed hback hi.closed _ _ ho hpre ((tmp_spec htmp ho' hd' ho ht).1 (by omega))
 ·rcases Nat.lt_or_ge q p with h | h
  ·obtain ⟨o', ho', hd'⟩ := dstOf_some hd
   exact hn (ord_mem hback hi.closed (by omega) hl ((tmp_spec htmp ho' hd' ho ht).2 (by omega)))
  ·obtain rfl : p = q := by omega
   exact hn hl
theorem stA_end {R : AV -> Heap -> Prop} {K : List AV -> Heap -> VC} {Q : Exit -> Act -> World -> Prop} {ds : Act -> Prop} {D : Array Bool} {s : Nat} {T0 : List Cnd} {fr0 : List AV} {hp0 : Heap} {L : List Info} {act : Act}
  (hseg : Seg P all s T0 fr0 hp0 L T') (hend : SegEnd P S all R K s fr0 hp0 L T') (hi : Inv all s fr0 hp0 L T' D C w act) (hlo : S.lo <= hp0.length) (hds : ds act) (hgoal : GoalI I P S R K Q C w ds) (hall : ∀ i, i < all.length -> Lst D i) : Q .normal act w := by
 have hfin : s + L.length = all.length := by
  rcases Nat.lt_or_ge (s + L.length) all.length with h | h
  ·exact absurd (hall _ h) (hi.behind _ (Nat.le_refl _))
  ·have := hseg.len; omega
 rcases hend with ⟨_, h⟩ | ⟨o, ho, _⟩ | ⟨o, ho, _⟩
 ·have hF := hi.frame fun q hq => hall _ (by omega)
  obtain ⟨r, hr⟩ := hps_app hp0 L L.length
  exact hgoal.1 _ _ C w act h (by rw [hr]; simp; omega) hi.core.hr hF.clean (.refl _ _ _) hds
 ·have := (List.getElem?_eq_some_iff.1 ho).1; omega
 ·have := (List.getElem?_eq_some_iff.1 ho).1; omega
theorem stA_zero {R : AV -> Heap -> Prop} {K : List AV -> Heap -> VC} {Q : Exit -> Act -> World -> Prop} {ds : Act -> Prop} {ro : Option Nat} {rm : Nat} : StA I P S all R K Q ds ro rm 0 := by
 intro D s T0 fr0 hp0 L T' C w act hseg hend hi hlo hfu hds hgoal
 have hall : ∀ i, i < all.length -> Lst D i := unl_zero (by omega)
 refine ⟨?_, stA_end hseg hend hi hlo hds hgoal hall⟩
 cases hr : Region.ready .any all.toArray D with
 | nil => rfl
 | cons i l =>
   obtain ⟨o, h1, h2, _⟩ := ready_mem (show i ∈ Region.ready .any all.toArray D by rw [hr]; simp)
   have hlt := (List.getElem?_eq_some_iff.1 h1).1
   rw [getD_tf (by rw [hi.size]; exact hlt)] at h2
   have := hall i hlt
   rw [show D.getD i false = true from this] at h2; cases h2
theorem least {p : Nat -> Prop} (h : ∃ n, p n) : ∃ n, p n /\ ∀ m, m < n -> ¬ p m := by
 obtain ⟨n, hn⟩ := h
 induction n using Nat.strongRecOn with
 | _ n ih =>
   rcases Classical.em (∃ m, m < n /\ p m) with ⟨m, h1, h2⟩ | h
   ·exact ih m h1 h2
   ·exact ⟨n, hn, fun m h1 h2 => h ⟨m, h1, h2⟩⟩
theorem okU_spec {n j : Nat} {g : Nat -> AV} (h : okU P all n g j = true) : ∃ o a, all[j]? = some o /\ o.guard = none /\ frVal P (evM ((tmpsO (opnds o.op)).map fun t => (t, unGd [] (g t)))) o.op = some ([], a) /\
  (∀ p o' d, j <= p -> p < n -> all[p]? = some o' -> o'.dst = some d -> d ∉ looksL all o) /\
  (∀ k o', all[k]? = some o' -> k ≠ j -> ordM (masks all []) k j = false -> (∀ e ∈ o'.after.toList, Region.binds .any e = true -> e.on ≠ j) -> o.apart all.toArray o' = true) := by
 unfold okU at h
 split at h
 ·cases h
 ·rename_i o ho
  split at h
  ·rename_i a hg hf
   simp only [Bool.and_eq_true] at h
   refine ⟨o, a, ho, hg, hf, fun p o' d h1 h2 h3 h4 => ?_, fun k o' h1 h2 h3 h4 => ?_⟩
   ·have h5 := allLt_spec h.1 p (List.getElem?_eq_some_iff.1 h3).1
    simp only [h3] at h5
    have e1 : Nat.blt p j = false := by
     cases hb : Nat.blt p j with
     | false => rfl
     | true => have := Nat.le_of_ble_eq_true (show Nat.ble (p + 1) j = true from hb); omega
    rw [e1, blt_true h2] at h5
    simp only [h4, Bool.not_eq_true'] at h5
    intro hm
    have := List.contains_iff_mem.2 hm
    rw [this] at h5; cases h5
   ·have h5 := allLt_spec h.2 k (List.getElem?_eq_some_iff.1 h1).1
    simp only [h1, Bool.or_eq_true, h3, List.any_eq_true, Bool.and_eq_true] at h5
    rcases h5 with ((h5 | h5) | ⟨e, h5, h6, h7⟩) | h5
    ·exact absurd (Nat.eq_of_beq_eq_true h5) h2
    ·cases h5
    ·exact absurd (Nat.eq_of_beq_eq_true h7) (h4 e (by simpa using h5) h6)
    ·exact h5
  ·cases h
theorem barU_spec {n : Nat} {g : Nat -> AV} (h : barU P all n g = true) : (∀ o ∈ all, ∀ cs b, o.op ≠ .select cs b) /\ (∀ k, n < k -> k < all.length -> ordM (masks all []) n k = true) /\ (∀ j, j < n -> j < all.length -> ordM (masks all []) j n = true \/ okU P all n g j = true) := by
 unfold barU at h
 simp only [Bool.and_eq_true] at h
 refine ⟨fun o ho cs b hc => ?_, fun k h1 h2 => ?_, fun j h1 h2 => ?_⟩
 ·have := List.all_eq_true.1 h.1 o ho
  rw [hc] at this; simp [isSelO] at this
 ·have h3 := allLt_spec h.2 k h2
  have e1 : Nat.blt k n = false := by
   cases hb : Nat.blt k n with
   | false => rfl
   | true => have := Nat.le_of_ble_eq_true (show Nat.ble (k + 1) n = true from hb); omega
  have e2 : Nat.beq k n = false := by
   cases hb : Nat.beq k n with
   | false => rfl
   | true => have := Nat.eq_of_beq_eq_true hb; omega
  rw [e1] at h3
  simp only [e2] at h3
  exact h3
 ·have h3 := allLt_spec h.2 j h2
  rw [blt_true h1] at h3
  simp only at h3
  split at h3
  ·rename_i hb; exact .inl hb
  ·exact .inr h3
theorem frs_stay {s q : Nat} {fr0 : List AV} {L : List Info} {t : Nat} : ∀ {n : Nat}, q <= n -> (∀ p, q <= p -> p < n -> dstOf all (s + p) ≠ some t) -> getL (frs all s fr0 L n) t = getL (frs all s fr0 L q) t
 | 0, h, _ => by obtain rfl : q = 0 := by omega
                 rfl
 | n + 1, h, hn => by
   rcases Nat.lt_or_ge q (n + 1) with hlt | hge
   ·rw [<- frs_stay (n := n) (by omega) (fun p h1 h2 => hn p h1 (by omega))]
    have hd := hn n (by omega) (by omega)
    simp only [frs]
    cases hdd : dstOf all (s + n) with
    | none => rfl
    | some d =>
      simp only [setO, getL_set]
      rw [if_neg]
      rintro ⟨rfl, _⟩
      exact hd hdd
   ·obtain rfl : q = n + 1 := by omega
    rfl
theorem opnds_mem {ρ : Operand -> AV} {op : Op} {x : List Cd × AV} (h : frVal P ρ op = some x) {t : Nat} (ht : t ∈ tmpsO (opnds op)) : (.tmp t : Operand) ∈ op.operands := by
 have key : ∀ {l : List Operand}, t ∈ tmpsO l -> (.tmp t : Operand) ∈ l := by
  intro l
  induction l with
  | nil => intro h; simp [tmpsO] at h
  | cons y l ih =>
    intro h
    cases y with
    | tmp u =>
      simp only [tmpsO, List.mem_cons] at h
      rcases h with rfl | h
      ·simp
      ·exact List.mem_cons_of_mem _ (ih h)
    | _ => exact List.mem_cons_of_mem _ (ih (by simpa [tmpsO] using h))
 unfold frVal at h
 split at h
 ·have := key ht; simpa [opnds, Op.operands] using this
 ·have := key ht; simpa [opnds, Op.operands] using this
 ·have := key ht; simpa [opnds, Op.operands] using this
 ·have := key ht; simpa [opnds, Op.operands] using this
 ·have := key ht; simpa [opnds, Op.operands] using this
 ·rename_i c
  have h1 := key ht
  split at h
  ·rename_i x y hc ha
   obtain ⟨cal, args, tys⟩ := c
   simp only at hc ha; subst hc
   simpa [opnds, Op.operands, Call.operands] using h1
  ·rename_i x y hc ha
   obtain ⟨cal, args, tys⟩ := c
   simp only at hc ha; subst hc
   simpa [opnds, Op.operands, Call.operands] using h1
  ·cases h
 ·have := key ht; simpa [opnds, Op.operands] using this
 ·have := key ht; simpa [opnds, Op.operands] using this
 ·have := key ht; simpa [opnds, Op.operands] using this
 ·have := key ht; simpa [opnds, Op.operands] using this
 ·cases h
def IP (all : List Oper) (I : Act -> World -> Prop) : Prop := ∀ o ∈ all, ∀ (a : Act) (v : Value) (w : World), I (a.put o.dst v) w -> I a w
theorem stA_succ (hS : SumsOK P S) (hu : uniqOK all = true) (htmp : tmpOK all = true) (hback : Back all) {R : AV -> Heap -> Prop} {K : List AV -> Heap -> VC} {Q : Exit -> Act -> World -> Prop} {ds : Act -> Prop} (hput : PutOK all ds) {ro : Option Nat} {rm : Nat} {fuel : Nat}
  (hQ : ∀ c a w, ¬ Q (.panic c) a w) (hIP : IP all I) (ihA : ∀ I', IP all I' -> StA I' P S all R K Q ds ro rm fuel) (hB : StB I P S all R K Q ds ro rm (fuel + 1)) : StA I P S all R K Q ds ro rm (fuel + 1) := by
 intro D s T0 fr0 hp0 L T' C w act hseg hend hi hlo hfu hds hgoal
 have ih := ihA I hIP
 rcases Classical.em (∃ o, all[s + L.length]? = some o /\ T' = [] /\ o.guard = none /\ befAt all (s + L.length) = true /\ s + L.length + 1 < lateN all (s + L.length) /\ (∃ c, o.op = .call c /\ c.callee = .builtin .append) /\
  ∃ ρ, ρ = evM ((tmpsO (opnds o.op)).map fun t => (t, unGd [] (getL (frs all s fr0 L L.length) t))) /\ ∃ i, growOf (aop P S ρ (hps hp0 L L.length) o.op) = some i /\ ∃ fr' hp' a, BO S (frs all s fr0 L L.length) (hps hp0 L L.length) (aop P S ρ (hps hp0 L L.length) o.op) fr' hp' a /\
    (runOps P S true all (some (i, lateN all (s + L.length))) (s + L.length + 1) (all.drop (s + L.length + 1)) [] (setO fr' o.dst (noGd a)) hp' K).sat R) with h | hne
 ·obtain ⟨o, ho, rfl, hg, hbef, hlt, happ, ρ, hρ, i, hgr, fr', hp', a, hbo, hh⟩ := h
  exact late_enter hS hu hB hseg hi ho hg hbef hlt happ hρ hgr hbo hh hlo hfu hds hgoal
 rcases Classical.em (BarX P all true (s + L.length) T' (frs all s fr0 L L.length) -> barAt true all (s + L.length) = true \/ ¬ (s + L.length ∈ Region.ready .any all.toArray D) \/ ∀ j, j < s + L.length -> Lst D j) with hbx | hbx
 rotate_left
 ·simp only [Classical.not_imp, not_or, Classical.not_not] at hbx
  obtain ⟨hbx, hnb, hrd, hnj⟩ := hbx
  rcases hbx with h | ⟨_, rfl, hbu⟩
  ·exact absurd h hnb
  obtain ⟨hsel, _, hbf⟩ := barU_spec hbu
  obtain ⟨on, hon, hnn, hnpre, _⟩ := ready_facts hi.size hi.closed hrd
  have hnlt := (List.getElem?_eq_some_iff.1 hon).1
  obtain ⟨j, ⟨hjn, hjl⟩, hmin⟩ := least (p := fun j => j < s + L.length /\ ¬ Lst D j) (by
   rcases Classical.em (∃ j, j < s + L.length /\ ¬ Lst D j) with h | h
   ·exact h
   ·exact absurd (fun j hj => Classical.byContradiction fun hl => h ⟨j, hj, hl⟩) hnj)
  have hjs : s <= j := by
   rcases Nat.lt_or_ge j s with h | h
   ·exact absurd (hi.before j h) hjl
   ·exact h
  have hjlen : j < all.length := by omega
  rcases hbf j hjn hjlen with h | hok
  ·exact absurd (ord_closed hback hi.closed _ _ hon hnpre h) hjl
  obtain ⟨o, a, ho, hg, hfr, hst, hap⟩ := okU_spec hok
  obtain ⟨q, rfl⟩ := Nat.exists_eq_add_of_le hjs
  have hq : q < L.length := by omega
  have hjr : s + q ∈ Region.ready .any all.toArray D := mem_ready ho (by rw [getD_tf (by rw [hi.size]; exact hjlen)]; simpa [Lst] using hjl) fun e he hb => Classical.byContradiction fun hl => hmin e.on (hback _ _ ho e he hb) ⟨by have := hback _ _ ho e he hb; omega, hl⟩
  obtain ⟨o2, ho2, hnl', hpre, hLst, hclosed, hfu1, hsz⟩ := ready_facts hi.size hi.closed hjr
  rw [ho] at ho2; injection ho2 with ho2; subst ho2
  have hlook := fun t ht => hi.look hback htmp hseg.len hq ho hnl' hpre (t := t) ht
  have hsame : ∀ t ∈ looksL all o, getL (frs all s fr0 L L.length) t = getL (frs all s fr0 L q) t := fun t ht => frs_stay (by omega) fun p h1 h2 hd => by
   obtain ⟨o', ho', hd'⟩ := dstOf_some hd
   exact hst (s + p) o' t (by omega) (by omega) ho' hd' ht
  have hrho : ∀ x, Rel C w (evM ((tmpsO (opnds o.op)).map fun t => (t, unGd [] (getL (frs all s fr0 L L.length) t))) x) (act.eval x) := fun x => evM_ops (T := []) (fun t ht => by
   have hm := looks_op (all := all) (opnds_mem hfr ht)
   rw [hsame t hm]; exact hlook t hm) x
  obtain ⟨v, hv, hdf, hsl, hrun⟩ := frVal_ok hi.core.hr.ilt hrho (fun v => rfl) hfr (fun p hp => by cases hp)
  have hwt : Region.wanted o (yielded all.toArray act.tmps) = true := by unfold Region.wanted; rw [hg]
  have hfix : Fix P (Imm C w) all.toArray o act v := ⟨hdf, hsl, hwt, hrun⟩
  have hao : all.toArray[s + q]? = some o := by simpa using ho
  obtain ⟨o', Tq, Tq1, g1, hstp, hsub⟩ := hseg.step q hq
  rw [ho] at g1; injection g1 with g1; subst g1
  have hdd : dstOf all (s + q) = o.dst := dstOf_get ho
  obtain ⟨rb, hrb⟩ := hps_app hp0 L q
  have hds' := hput o (List.mem_of_getElem? ho) act v hds
  obtain ⟨C', k1, k2, k3⟩ : ∃ C', HR C' (hps hp0 L L.length) w /\ RelG [] C' w (L.getD q default).val v /\ Grow (hps hp0 L q).length (L.getD q default).new.length C w C' w := by
   rcases run_info hstp hsub (act := act) hi.core.hr (hps_pre hq) (hi.core.ff hq hnl') (fun x hx => evG_rel x fun t ht => hlook t (looks_op (ht ▸ hx))) (fun d hd => hlook d (looks_gd hd)) with ⟨_, hr⟩ | ⟨hw, _⟩
   ·have hr0 := hrun w (fun _ _ => rfl)
    rcases hr with ⟨v', w', h1, h2⟩ | ⟨f, args, h1, _⟩ | ⟨w', h1, _⟩
    ·rw [hr0] at h1; injection h1 with h1 h3; injection h1 with h1; subst h1 h3; exact h2
    ·rw [hr0] at h1; injection h1 with h1 _; cases h1
    ·rw [hr0] at h1; injection h1 with h1 _; cases h1
   ·rw [hwt] at hw; cases hw
  have htr : Tr S.lo C w C' w := k3.tr (by rw [hrb]; simp; omega)
  have hcore := hi.core.next (dn' := fun q' => Lst (D.setIfInBounds (s + q) true) (s + q')) (q := q) hq hnl' (fun p hp => by
    rw [hLst]
    exact ⟨fun h => h.imp id (by omega), fun h => h.imp id (by omega)⟩) (fun p hp hne t hd hd' => by
    obtain ⟨o2, ho2, hd2⟩ := dstOf_some hd'
    rw [hdd] at hd
    exact (uniq_spec hu ho).1 t hd _ o2 (by omega) ho2 hd2) k1 k2 k3
  simp only [hdd] at hcore
  refine s_firstI (I := I) (J := Imm C w) (a0 := act) hao hfix (fun f => trivial) (fun k o' cs b hk => hsel o' (List.mem_of_getElem? (by simpa using hk)) cs b) hQ (fun a' w' h => hIP o (List.mem_of_getElem? ho) a' v w' h) fuel D act w
   (fun k ok hk hne hun hno => ?_) hjr (fun t _ => rfl) (hgoal.2 _ _ _ (.refl _ _ _) hds') (fun _ _ => rfl) ?_
  ·have hk' : all[k]? = some ok := by simpa using hk
   refine hap k ok hk' hne ?_ (fun e he hb => hno e (by simpa using he) hb)
   cases ho3 : ordM (masks all []) k (s + q) with
   | false => rfl
   | true =>
     have := ord_closed hback hi.closed _ _ ho hpre ho3
     rw [getD_tf (by rw [hi.size]; exact (List.getElem?_eq_some_iff.1 hk').1)] at hun
     unfold Lst at this
     rw [hun] at this; cases this
  ·refine ihA (fun a' w' => I a' w' /\ Imm C w w') (fun o' ho' a' v' w' h => ⟨hIP o' ho' a' v' w' h.1, h.2⟩) _ s T0 fr0 hp0 L [] C' w _ hseg hend ⟨hsz, fun k hk => (hLst k).2 (.inl (hi.before k hk)), fun k hk hl => ?_, hclosed, hcore⟩ hlo (hfu1 fuel hfu) hds'
    ⟨hgoal.1.step htr, fun C2 w2 act2 t h => ⟨(hgoal.step htr).2 _ _ _ t h, fun b hb => Imm.tr k1 t b (k3.imm b hb)⟩⟩
   rcases (hLst k).1 hl with h | h
   ·exact hi.behind k hk h
   ·omega
 refine ⟨fun hr => stA_end hseg hend hi hlo hds hgoal (all_listed hback hi.size hr), fun i hir => ?_⟩
 obtain ⟨o, ho, hnl', hpre, hLst, hclosed, hfu1, hsz⟩ := ready_facts hi.size hi.closed hir
 have hlt := (List.getElem?_eq_some_iff.1 ho).1
 have hfu' := hfu1 fuel hfu
 have hao : all.toArray[i]? = some o := by simpa using ho
 unfold wpOpIn
 simp only [hao]
 have his : s <= i := by
  rcases Nat.lt_or_ge i s with h | h
  ·exact absurd (hi.before i h) hnl'
  ·exact h
 rcases Nat.lt_trichotomy i (s + L.length) with hile | hie | hige
 ·-- an operation that turns nothing
  obtain ⟨q, rfl⟩ := Nat.exists_eq_add_of_le his
  have hq : q < L.length := by omega
  obtain ⟨o', Tq, Tq1, h1, hst, hsub⟩ := hseg.step q hq
  rw [ho] at h1; injection h1 with h1; subst h1
  have hlook := fun t ht => hi.look hback htmp hseg.len hq ho hnl' hpre (t := t) ht
  obtain ⟨rb, hrb⟩ := hps_app hp0 L q
  have hdd : dstOf all (s + q) = o.dst := dstOf_get ho
  have hk : ∀ v w', (∃ C', HR C' (hps hp0 L L.length) w' /\ RelG T' C' w' (L.getD q default).val v /\ Grow (hps hp0 L q).length (L.getD q default).new.length C w C' w') ->
    I (act.put o.dst v) w' /\ wpAnyI I (fen ro) rm P all.toArray Q fuel (D.setIfInBounds (s + q) true) (act.put o.dst v) w' := by
   intro v w' ⟨C', h1, h2, h3⟩
   have hcore := hi.core.next (dn' := fun q' => Lst (D.setIfInBounds (s + q) true) (s + q')) (q := q) hq hnl' (fun p hp => by
     rw [hLst]
     exact ⟨fun h => h.imp id (by omega), fun h => h.imp id (by omega)⟩) (fun p hp hne t hd hd' => by
     obtain ⟨o2, ho2, hd2⟩ := dstOf_some hd'
     rw [hdd] at hd
     exact (uniq_spec hu ho).1 t hd _ o2 (by omega) ho2 hd2) h1 h2 h3
   simp only [hdd] at hcore
   have htr : Tr S.lo C w C' w' := h3.tr (by rw [hrb]; simp; omega)
   have hds' := hput o (List.mem_of_getElem? ho) act v hds
   refine ⟨hgoal.2 _ _ _ htr hds', ih _ s T0 fr0 hp0 L T' C' w' _ hseg hend ⟨hsz, fun k hk => (hLst k).2 (.inl (hi.before k hk)), fun k hk hl => ?_, hclosed, hcore⟩ hlo hfu' hds' (hgoal.step htr)⟩
   rcases (hLst k).1 hl with h | h
   ·exact hi.behind k hk h
   ·omega
  rcases run_info hst hsub (act := act) hi.core.hr (hps_pre hq) (hi.core.ff hq hnl') (fun x hx => evG_rel x fun t ht => hlook t (looks_op (ht ▸ hx))) (fun d hd => hlook d (looks_gd hd)) with ⟨hw, hr⟩ | ⟨hw, hr⟩
  ·rw [hw]
   simp only [if_true]
   exact Ran.wpIn (hr.mono hk)
  ·rw [hw]
   simp only [Bool.false_eq_true, if_false]
   exact ⟨fun _ _ => trivial, hk _ _ hr⟩
 ·-- the one that turns
  subst hie
  rcases hend with ⟨h, _⟩ | ⟨o', ho', hbar, htu, hw, ρ, hρ, fr', hp', a, hbo, ht1, hh⟩ | h
  ·omega
  ·rw [ho] at ho'; injection ho' with ho'; subst ho'
   have hall : ∀ q, q < L.length -> Lst D (s + q) := fun q hq => by
    rcases hbx hbar with h | h | h
    ·exact ord_closed hback hi.closed _ _ ho hpre ((bar_spec h (by omega)).1 (by omega))
    ·exact absurd hir h
    ·exact h (s + q) (by omega)
   have hF := hi.frame hall
   have hwant : Region.wanted o (yielded all.toArray act.tmps) = true := wanted_eq hw fun d _ => hF.get d
   rw [hwant]
   simp only [if_true]
   obtain ⟨rb, hrb⟩ := hps_app hp0 L L.length
   have hlo1 : S.lo <= (hps hp0 L L.length).length := by rw [hrb]; simp; omega
   refine Ran.wpIn ((exec_big hS o htu hρ hi.core.hr hF hlo1 hbo).mono fun v w' ⟨C', h1, h2, h3, h4⟩ => ?_)
   have hF2 : FR T' C' w' (setO fr' o.dst (noGd a)) (act.put o.dst v).tmps := h3.put (.plain (rel_noGd h2) (notGd_noGd _)) _
   have hlo2 := Nat.le_trans hlo1 hbo.len
   obtain ⟨L2, T2, hs2, he2⟩ := seg_run hS hu (s := s + L.length + 1) (T0 := T') (fr0 := setO fr' o.dst (noGd a)) (hp0 := hp') (all.drop (s + L.length + 1)) [] T' ⟨by simp only [List.length_nil]; omega, .refl _, fun q hq => by simp at hq⟩ rfl ht1 hh
   obtain ⟨r2, hr2⟩ := hps_app hp' L2 L2.length
   have hds' := hput o (List.mem_of_getElem? ho) act v hds
   refine ⟨hgoal.2 _ _ _ h4 hds', ih _ _ _ _ _ L2 T2 C' w' _ hs2 he2 ⟨hsz, fun k hk => (hLst k).2 ?_, fun k hk hl => ?_, hclosed, ⟨by rw [hr2]; exact h1.ext r2, fun q hq _ t ht => ?_, fun q hq hl => ?_, fun t _ => (hF2.get t).sub hs2.sub, hF2.len⟩⟩ hlo2 hfu' hds' (hgoal.step h4)⟩
   ·rcases Nat.lt_trichotomy k (s + L.length) with h | h | h
    ·rcases Nat.lt_or_ge k s with h' | h'
     ·exact .inl (hi.before k h')
     ·obtain ⟨q, rfl⟩ := Nat.exists_eq_add_of_le h'
      exact .inl (hall q (by omega))
    ·exact .inr h
    ·omega
   ·rcases (hLst k).1 hl with h | h
    ·exact hi.behind k (by omega) h
    ·omega
   ·obtain ⟨r, hr⟩ := hps_app hp' L2 q
    cases hc : C'.ρ ((hps hp' L2 q).length + t) with
    | none => rfl
    | some p => have := h1.lt hc; rw [hr] at this; simp at this; omega
   ·exfalso
    rcases (hLst _).1 hl with h | h
    ·exact hi.behind _ (by omega) h
    ·omega
  ·exact absurd h hne
 ·exfalso
  rcases hend with ⟨h, _⟩ | ⟨o', ho', hbar, _⟩ | h
  ·omega
  ·refine hi.behind _ (Nat.le_refl _) (ord_closed hback hi.closed _ _ ho hpre ?_)
   rcases hbar with h | ⟨_, _, h⟩
   ·exact (bar_spec h hlt).2 hige
   ·exact (barU_spec h).2.1 i hige hlt
  ·exact absurd h hne
theorem anyorder (hS : SumsOK P S) (hu : uniqOK all = true) (htmp : tmpOK all = true) (hback : Back all) {R : AV -> Heap -> Prop} {K : List AV -> Heap -> VC} {Q : Exit -> Act -> World -> Prop} {ds : Act -> Prop} (hput : PutOK all ds) {ro : Option Nat} {rm : Nat} (hQ : ∀ c a w, ¬ Q (.panic c) a w) :
  ∀ (fuel : Nat) (I : Act -> World -> Prop), IP all I -> StA I P S all R K Q ds ro rm fuel /\ StB I P S all R K Q ds ro rm fuel := by
 intro fuel
 induction fuel with
 | zero => exact fun I _ => ⟨stA_zero, stB_zero⟩
 | succ fuel ih =>
   intro I hI
   have hb := stB_succ hS hu htmp hback hput (ih I hI).1 (ih I hI).2
   exact ⟨stA_succ hS hu htmp hback hput hQ hI (fun I' h => (ih I' h).1) hb, hb⟩
end
end Abs
end Go.Proofs.Ytdfdjlijghjdaaa

namespace Go.Proofs.Ytdfdjlijghjdaaa
namespace Abs
open Go Go.RowKit
theorem dstTo_get : ∀ (l : List Oper) (n : Nat) (d : Option Nat) (q : Nat), (dstTo l n d)[q]? = if q = n then (l[q]?).map (fun o => { o with dst := d }) else l[q]?
 | [], n, d, q => by simp [dstTo]
 | o :: l, 0, d, 0 => by simp [dstTo]
 | o :: l, 0, d, q + 1 => by simp [dstTo]
 | o :: l, n + 1, d, 0 => by simp [dstTo]
 | o :: l, n + 1, d, q + 1 => by
   simp only [dstTo, List.getElem?_cons_succ]
   rw [dstTo_get l n d q]
   simp
theorem dstTo_len : ∀ (l : List Oper) (n : Nat) (d : Option Nat), (dstTo l n d).length = l.length
 | [], _, _ => rfl
 | _ :: _, 0, _ => rfl
 | _ :: l, n + 1, d => by simp [dstTo, dstTo_len l n d]
theorem allocAt_spec {d : Nat} {t : TypeId} : ∀ {l : List Oper} {n a : Nat}, allocAt d t n l = some a -> n <= a /\ ∃ o, l[a - n]? = some o /\ o.dst = some d /\ o.op = .alloc t
 | [], _, _, h => by cases h
 | o :: l, n, a, h => by
   simp only [allocAt] at h
   split at h
   ·rename_i h1 h2
    injection h with h; subst h
    refine ⟨Nat.le_refl _, o, by simp, ?_, ?_⟩
    ·unfold isDst at h1
     split at h1
     ·rename_i e he; rw [he, Nat.eq_of_beq_eq_true h1]
     ·cases h1
    ·unfold isAl at h2
     split at h2
     ·rename_i t' he; rw [he, Nat.eq_of_beq_eq_true h2]
     ·cases h2
   ·obtain ⟨h1, o', h2, h3⟩ := allocAt_spec h
    refine ⟨by omega, o', ?_, h3⟩
    rw [show a - n = (a - (n + 1)) + 1 by omega, List.getElem?_cons_succ]
    exact h2
theorem isSt_spec {op : Op} {t : TypeId} {d : Nat} {x : Operand} (h : isSt op = some (t, d, x)) : op = .store t (.tmp d) x := by
 unfold isSt at h
 split at h
 ·injection h with h; injection h with h1 h2; injection h2 with h2 h3; subst h1 h2 h3; rfl
 ·cases h
theorem swGo_spec {all : List Oper} {z : Sw} : ∀ {l : List Oper} {n : Nat}, swGo all n l = some z -> (∀ q, l[q]? = all[n + q]?) -> (∃ o, all[z.a]? = some o /\ o.dst = some z.d /\ o.op = .alloc z.t) /\ ∃ o, all[z.s]? = some o /\ o.op = .store z.t (.tmp z.d) z.x
 | [], _, h, _ => by cases h
 | o :: l, n, h, hl => by
   have hl' : ∀ q, l[q]? = all[n + 1 + q]? := fun q => by
    have := hl (q + 1)
    rw [List.getElem?_cons_succ] at this
    rw [this]; congr 1; omega
   simp only [swGo] at h
   split at h
   ·rename_i t d x ho
    split at h
    ·exact swGo_spec h hl'
    ·split at h
     ·rename_i a ha
      injection h with h; subst h
      obtain ⟨_, o', h2, h3, h4⟩ := allocAt_spec ha
      refine ⟨⟨o', by simpa using h2, h3, h4⟩, o, ?_, isSt_spec ho⟩
      have := hl 0
      simpa using this.symm
     ·exact swGo_spec h hl'
   ·exact swGo_spec h hl'
section
variable {P : Program} {S : Sums} {C C' : Cx} {w w' : World} {H hp : Heap} {all : List Oper} {z : Sw}
structure SwReg (all : List Oper) (z : Sw) : Prop where
 oa : ∃ o : Oper, all[z.a]? = some o /\ o.dst = some z.d /\ o.op = .alloc z.t
 os : ∃ o : Oper, all[z.s]? = some o /\ o.dst = none /\ o.op = .store z.t (.tmp z.d) z.x
 ord : ordM (masks all []) z.a z.s = true
 ng : ∀ (q : Nat) (o : Oper), all[q]? = some o -> o.guard = none
 uq : uniqOK (swOps all z) = true
 tm : tmpOK (swOps all z) = true
 bk : Back (swOps all z)
theorem SwReg.of (hz : swGo all 0 all = some z) (h : swOK all = true) : SwReg all z := by
 obtain ⟨h1, o, h2, h3⟩ := swGo_spec hz (fun q => by simp)
 unfold swOK at h
 rw [hz] at h
 simp only [h2, Bool.and_eq_true, regOK] at h
 obtain ⟨⟨⟨⟨h4, h5, h6⟩, h7⟩, h8⟩, h9⟩ := h
 refine ⟨h1, ⟨o, h2, by simpa using h9, h3⟩, h8, fun q o' hq => ?_, h4, h5, back_spec h6⟩
 have := List.all_eq_true.1 h7 o' (List.mem_of_getElem? hq)
 simpa using this
theorem SwReg.ne (hz : SwReg all z) : z.a ≠ z.s := fun e => by
 obtain ⟨o, h1, _, h2⟩ := hz.oa
 obtain ⟨o', h3, _, h4⟩ := hz.os
 rw [e, h3] at h1; injection h1 with h1; subst h1
 rw [h4] at h2; cases h2
theorem swOps_len : (swOps all z).length = all.length := by unfold swOps; rw [dstTo_len, dstTo_len]
theorem swOps_get (hz : SwReg all z) (q : Nat) : (swOps all z)[q]? = if q = z.a then (all[q]?).map (fun o => { o with dst := none }) else if q = z.s then (all[q]?).map (fun o => { o with dst := some z.d }) else all[q]? := by
 unfold swOps
 have hne := hz.ne
 rw [dstTo_get, dstTo_get]
 by_cases h1 : q = z.s
 ·subst h1
  rw [if_pos rfl, if_neg (Ne.symm hne), if_neg (Ne.symm hne), if_pos rfl]
 ·rw [if_neg h1]
  by_cases h2 : q = z.a
  ·rw [if_pos h2, if_pos h2]
  ·rw [if_neg h2, if_neg h2, if_neg h1]
theorem swOps_at (hz : SwReg all z) {q : Nat} {o : Oper} (ho : all[q]? = some o) : ∃ d, (swOps all z)[q]? = some { o with dst := d } /\ dstOf (swOps all z) q = d /\ (q ≠ z.a -> q ≠ z.s -> d = o.dst) /\ (q = z.a -> d = none) /\ (q = z.s -> d = some z.d) := by
 have h := swOps_get hz q
 rw [ho] at h
 by_cases h1 : q = z.a
 ·rw [if_pos h1] at h
  exact ⟨none, h, dstOf_get h, fun h => absurd h1 h, fun _ => rfl, fun h2 => absurd (h1.symm.trans h2) hz.ne⟩
 ·rw [if_neg h1] at h
  by_cases h2 : q = z.s
  ·rw [if_pos h2] at h
   exact ⟨some z.d, h, dstOf_get h, fun _ h => absurd h2 h, fun h => absurd h h1, fun _ => rfl⟩
  ·rw [if_neg h2] at h
   exact ⟨o.dst, h, dstOf_get h, fun _ _ => rfl, fun h => absurd h h1, fun h => absurd h h2⟩
theorem swOps_back (hz : SwReg all z) {q : Nat} {o : Oper} (ho : (swOps all z)[q]? = some o) : ∃ o', all[q]? = some o' /\ o.after = o'.after := by
 have hlt : q < all.length := by rw [<- swOps_len (z := z)]; exact (List.getElem?_eq_some_iff.1 ho).1
 have hq : all[q]? = some (all[q]'hlt) := List.getElem?_eq_getElem _
 obtain ⟨d, h1, _⟩ := swOps_at hz hq
 rw [h1] at ho; injection ho with ho
 exact ⟨_, hq, by rw [<- ho]⟩
theorem closed_sw (hz : SwReg all z) {D : Nat -> Prop} (h : Closed all D) : Closed (swOps all z) D := fun i o ho hi e he hb => by
 obtain ⟨o', h1, h2⟩ := swOps_back hz ho
 exact h i o' h1 hi e (h2 ▸ he) hb
structure SwSeg (P : Program) (all : List Oper) (z : Sw) (fr0 : List AV) (hp0 : Heap) (L : List Info) : Prop where
 len : L.length <= all.length
 la : z.a < L.length -> (L.getD z.a default).new = [] /\ (zeroL P z.t).isSome = true
 ls : z.s < L.length -> ∃ l, l = cellsA (evM ((tmpsO [z.x]).map fun t => (t, unGd [] (getL (frs (swOps all z) 0 fr0 L z.s) t))) z.x) /\ l.length = sizeT P z.t /\ 0 < sizeT P z.t /\ oneL l = true /\
  (L.getD z.s default).val = .own (hps hp0 L z.s).length 0 /\ (L.getD z.s default).new = [.cells z.t l]
 step : ∀ q, q < L.length -> q ≠ z.a -> q ≠ z.s -> ∃ o, all[q]? = some o /\ StepOK P all [] [] o (frs (swOps all z) 0 fr0 L q) (hps hp0 L q) (L.getD q default)
def SwEnd (P : Program) (S : Sums) (all : List Oper) (z : Sw) (R : AV -> Heap -> Prop) (K : List AV -> Heap -> VC) (fr0 : List AV) (hp0 : Heap) (L : List Info) : Prop :=
 (L.length = all.length /\ (K (cleanL (frs (swOps all z) 0 fr0 L L.length)) (hps hp0 L L.length)).sat R) \/
 (L.length + 1 = all.length /\ z.a ≠ L.length /\ z.s ≠ L.length /\ barAt true all L.length = true /\ ∃ o, all[L.length]? = some o /\ turnOp o.op = true /\ ∃ ρ, Sees (frs (swOps all z) 0 fr0 L L.length) ρ /\
  ∃ fr' hp' a, BO S (frs (swOps all z) 0 fr0 L L.length) (hps hp0 L L.length) (aop P S ρ (hps hp0 L L.length) o.op) fr' hp' a /\ (K (cleanL (setO fr' o.dst (noGd a))) hp').sat R)
theorem sw_seg (hS : SumsOK P S) (hz : SwReg all z) {R : AV -> Heap -> Prop} {K : List AV -> Heap -> VC} {fr0 : List AV} {hp0 : Heap} {fb : Bool} (hfb : fb = true -> barAt true all (all.length - 1) = true) : ∀ (rest : List Oper) (L : List Info), SwSeg P all z fr0 hp0 L -> (swOps all z).drop L.length = rest ->
  (runSw P S z fb L.length rest (frs (swOps all z) 0 fr0 L L.length) (hps hp0 L L.length) K).sat R ->
  ∃ L', SwSeg P all z fr0 hp0 L' /\ SwEnd P S all z R K fr0 hp0 L' := by
 intro rest
 induction rest with
 | nil =>
   intro L hs hd h
   refine ⟨L, hs, .inl ⟨?_, by simpa only [runSw, cleanF_eq] using h⟩⟩
   have := List.drop_eq_nil_iff.1 hd
   have := hs.len
   rw [swOps_len] at *
   omega
 | cons o rest ih =>
   intro L hs hd h
   have hlt : L.length < all.length := by
    rw [<- swOps_len (z := z)]
    rcases Nat.lt_or_ge L.length (swOps all z).length with h | h
    ·exact h
    ·rw [List.drop_eq_nil_of_le h] at hd; cases hd
   have ho : (swOps all z)[L.length]? = some o := by
    have := List.getElem?_drop (xs := swOps all z) (i := L.length) (j := 0)
    rw [hd] at this; simpa using this.symm
   have hd' : (swOps all z).drop (L.length + 1) = rest := by
    rw [<- List.drop_drop, hd]; rfl
   have hoa : all[L.length]? = some (all[L.length]'hlt) := List.getElem?_eq_getElem _
   obtain ⟨dd, hg, hdst, hd1, hd2, hd3⟩ := swOps_at hz hoa
   have eo : o = { all[L.length]'hlt with dst := dd } := by rw [ho] at hg; injection hg
   have next : ∀ i : Info, (z.a = L.length -> i.new = [] /\ (zeroL P z.t).isSome = true) ->
     (z.s = L.length -> ∃ l, l = cellsA (evM ((tmpsO [z.x]).map fun t => (t, unGd [] (getL (frs (swOps all z) 0 fr0 L L.length) t))) z.x) /\ l.length = sizeT P z.t /\ 0 < sizeT P z.t /\ oneL l = true /\ i.val = .own (hps hp0 L L.length).length 0 /\ i.new = [.cells z.t l]) ->
     (L.length ≠ z.a -> L.length ≠ z.s -> StepOK P all [] [] (all[L.length]'hlt) (frs (swOps all z) 0 fr0 L L.length) (hps hp0 L L.length) i) ->
     (runSw P S z fb (L.length + 1) rest (setO (frs (swOps all z) 0 fr0 L L.length) dd i.val) (hps hp0 L L.length ++ i.new) K).sat R ->
     ∃ L', SwSeg P all z fr0 hp0 L' /\ SwEnd P S all z R K fr0 hp0 L' := by
    intro i hna hns hst hh
    have e1 : frs (swOps all z) 0 fr0 (L ++ [i]) (L ++ [i]).length = setO (frs (swOps all z) 0 fr0 L L.length) dd i.val := by
     rw [List.length_append, List.length_singleton]
     simp only [frs]
     rw [frs_snoc (Nat.le_refl _), getD_snoc, Nat.zero_add, hdst]
    have e2 : hps hp0 (L ++ [i]) (L ++ [i]).length = hps hp0 L L.length ++ i.new := by
     rw [List.length_append, List.length_singleton]
     simp only [hps]
     rw [hps_snoc (Nat.le_refl _), getD_snoc]
    have e3 : (L ++ [i]).length = L.length + 1 := by simp
    refine ih (L ++ [i]) ⟨by rw [e3]; omega, fun ha => ?_, fun hs' => ?_, fun q hq hqa hqs => ?_⟩ (by rw [e3]; exact hd') (by rw [e1, e2, e3]; exact hh)
    ·rw [e3] at ha
     rcases Nat.lt_or_ge z.a L.length with h | h
     ·rw [getD_snoc_lt h]; exact hs.la h
     ·have : z.a = L.length := by omega
      rw [this, getD_snoc]; exact hna this
    ·rw [e3] at hs'
     rcases Nat.lt_or_ge z.s L.length with h | h
     ·rw [getD_snoc_lt h, frs_snoc (by omega), hps_snoc (by omega)]; exact hs.ls h
     ·have : z.s = L.length := by omega
      rw [this, getD_snoc, frs_snoc (Nat.le_refl _), hps_snoc (Nat.le_refl _)]; exact hns this
    ·rw [e3] at hq
     rcases Nat.lt_or_ge q L.length with hql | hql
     ·rw [getD_snoc_lt hql, frs_snoc (by omega), hps_snoc (by omega)]; exact hs.step q hql hqa hqs
     ·obtain rfl : q = L.length := by omega
      rw [getD_snoc, frs_snoc (Nat.le_refl _), hps_snoc (Nat.le_refl _)]
      exact ⟨_, hoa, hst hqa hqs⟩
   simp only [runSw] at h
   split at h
   ·rename_i ha
    have ha := Nat.eq_of_beq_eq_true ha
    split at h
    ·rename_i l hl
     refine next ⟨none, true, .top, []⟩ (fun _ => ⟨rfl, by rw [hl]; rfl⟩) (fun hs' => absurd (ha.symm.trans hs'.symm) hz.ne) (fun hn => absurd ha hn) ?_
     rw [hd2 ha]
     simpa [setO] using h
    ·exact h.elim
   ·rename_i ha hs'
    have hs' := Nat.eq_of_beq_eq_true hs'
    rw [forceM_eq, forceL_eq] at h
    split at h
    ·rename_i hc
     simp only [Bool.and_eq_true, decide_eq_true_eq] at hc
     rw [forceH_eq, setF_eq, appH_eq] at h
     refine next ⟨none, false, .own (hps hp0 L L.length).length 0, [.cells z.t _]⟩ (fun ha' => absurd (ha'.trans hs') hz.ne) (fun _ => ⟨_, rfl, hc.1.1, hc.1.2, hc.2, rfl, rfl⟩) (fun _ hn => absurd hs' hn) ?_
     rw [hd3 hs']
     exact h
    ·exact h.elim
   ·rename_i ha hs'
    have hqa : L.length ≠ z.a := fun e => by rw [e] at ha; simp at ha
    have hqs : L.length ≠ z.s := fun e => by rw [e] at hs'; simp at hs'
    have hdd := hd1 hqa hqs
    rw [hdd] at eo
    have eo : o = all[L.length]'hlt := eo
    rcases runOp_sat hS (T := []) (ctx := none) trivial h with ⟨b, new, h1, h2⟩ | ⟨hn, _, htu, ρ, hρ, fr', hp', a, h1, h2⟩
    ·refine next ⟨none, false, b, new⟩ (fun e => absurd e.symm hqa) (fun e => absurd e.symm hqs) (fun _ _ => ⟨.refl _, by unfold Wants; rw [hz.ng _ _ hoa]; rfl, fun _ => ⟨by rw [<- eo]; exact h1, trivial⟩, fun h => by cases h⟩) ?_
     rw [hdd, <- eo]
     exact h2
    ·cases rest with
     | cons _ _ => cases hn
     | nil =>
       have hl1 : L.length + 1 = all.length := by
        have := List.drop_eq_nil_iff.1 hd'
        rw [swOps_len] at this; omega
       simp only [runSw, cleanF_eq] at h2
       refine ⟨L, hs, .inr ⟨hl1, Ne.symm hqa, Ne.symm hqs, by have := hfb hn; rwa [show all.length - 1 = L.length by omega] at this, o, by rw [eo]; exact hoa, htu, ρ, hρ, fr', hp', a, h1, h2⟩⟩
structure SwObj (P : Program) (z : Sw) (n0 : Nat) (C : Cx) (w : World) (act : Act) (b : Nat) : Prop where
 val : act.tmps.getD z.d undef = .pointer (some ⟨b, 0, none⟩)
 new : n0 <= b
 lt : b < w.heap.size
 cell : ∃ zs : Array Value, w.heap[b]? = some (.cells zs z.t (0, 0)) /\ zs.size = sizeT P z.t
 ni : ¬ C.I b
 nr : ∀ i b' c n, C.ρ i = some (.at b' c n) -> b' ≠ b
 no : C.O b = none
structure SwInv (P : Program) (S : Sums) (all : List Oper) (z : Sw) (fr0 : List AV) (hp0 : Heap) (L : List Info) (Cs : Cx) (ws : World) (D : Array Bool) (C : Cx) (w : World) (act : Act) : Prop where
 size : D.size = all.length
 closed : Closed all (Lst D)
 core : Core (fun q => dstOf (swOps all z) q) (fun q => Lst D q) fr0 hp0 L [] C w act
 tr : Tr S.lo Cs ws C w
 ob : Lst D z.a -> ¬ Lst D z.s -> ∃ b, SwObj P z ws.heap.size C w act b
 last : L.length < all.length -> ¬ Lst D L.length
theorem Core.put {dd : Nat -> Option Nat} {dn dn' : Nat -> Prop} {fr0 : List AV} {hp0 : Heap} {L : List Info} {act : Act} (hi : Core dd dn fr0 hp0 L [] C w act) (hx : Cext C w C' w') (hr : HR C' (hps hp0 L L.length) w')
  (hfree : ∀ q, q < L.length -> ¬ dn' q -> ∀ t, t < (L.getD q default).new.length -> C'.ρ ((hps hp0 L q).length + t) = none) (hd : ∀ q, q < L.length -> dn' q -> dn q \/ ∃ t, dd q = some t /\ RelG [] C' w' (L.getD q default).val (act.tmps.getD t undef))
  (hdn : ∀ q, q < L.length -> dn q -> dn' q) : Core dd dn' fr0 hp0 L [] C' w' act := by
 refine ⟨hr, hfree, fun q hq hn t hdt hlt => ?_, fun t ht => (hi.v2 t (ht.imp (fun h q hq hn => h q hq (hdn q hq hn)) id)).mono hx, hi.tsz⟩
 rcases hd q hq hn with h | ⟨t', h1, h2⟩
 ·exact (hi.v1 q hq h t hdt hlt).mono hx
 ·rw [hdt] at h1; injection h1 with h1; subst h1; exact h2
theorem HR.alloc (h : HR C H w) (o : Obj) : HR C H (w.alloc o) /\ Cext C w C (w.alloc o) := by
 have hx : Cext C w C (w.alloc o) := ⟨fun _ _ h => h, fun _ h => h, fun b hb => heap_alloc w o b (h.ilt b hb)⟩
 exact ⟨⟨fun i p hi => (h.live i p hi).mono hx (fun q c m hq => heap_alloc w o q (by subst hq; exact (h.fresh _ _ _ _ hi).1)) (fun b x hb => ⟨hb, heap_alloc w o b (h.sub b x hb).1⟩), h.inj, fun i b c n hi => ⟨Nat.lt_of_lt_of_le (h.fresh _ _ _ _ hi).1 (by simp), (h.fresh _ _ _ _ hi).2⟩,
  fun b hb => Nat.lt_of_lt_of_le (h.ilt b hb) (by simp), fun b x hb => ⟨Nat.lt_of_lt_of_le (h.sub b x hb).1 (by simp), (h.sub b x hb).2.1, (h.sub b x hb).2.2.1, (h.sub b x hb).2.2.2.keep (heap_alloc w o b (h.sub b x hb).1)⟩⟩, hx⟩
theorem Tr.alloc (lo : Nat) (hi : ∀ b, C.I b -> b < w.heap.size) (o : Obj) : Tr lo C w C (w.alloc o) :=
 ⟨rfl, rfl, rfl, by simp, fun k hk _ _ => heap_alloc w o k hk, fun _ h => h, fun _ h => .inl h, fun _ _ => rfl, fun i b c n h h' => .inl ⟨i, c, n, h, h'⟩, fun b x h => .inl ⟨x, h⟩⟩
theorem sw_store {lo j : Nat} {Cs : Cx} {ws : World} {act : Act} {b : Nat} (hH : HR C H w) (ht : Tr lo Cs ws C w) (hob : SwObj P z ws.heap.size C w act b) (hj : C.ρ j = none) (hlo : lo <= j) {x : AV} {v : Value} (hx : Rel C w x v)
  (hl : (cellsA x).length = sizeT P z.t) (hpos : 0 < sizeT P z.t) (ho : oneL (cellsA x) = true) (hg : getB H j = .cells z.t (cellsA x)) :
  ∃ w' C', (Instr.storeAt z.t (act.tmps.getD z.d undef) v).run P w = .ok () w' /\ HR C' H w' /\ Cext C w C' w' /\ Tr lo Cs ws C' w' /\ C' = C.put j (.at b 0 0) := by
 obtain ⟨zs, hz1, hz2⟩ := hob.cell
 have hjl : j < H.length := getB_lt (by rw [hg]; simp)
 have hx1 : Cext C w (C.put j (.at b 0 0)) w := ⟨fun i p hp => by
  by_cases hi : i = j
  ·subst hi; rw [hj] at hp; cases hp
  ·rw [Cx.put_ne hi]; exact hp, fun _ h => h, fun _ _ => rfl⟩
 have htop : ∀ l : List Value, RelL (C.put j (.at b 0 0)) w (l.map fun _ => AV.top) l := fun l => by
  induction l with
  | nil => exact .nil
  | cons a l ih => exact .cons _ _ _ _ (.top _) ih
 have hH1 : HR (C.put j (.at b 0 0)) (setB H j (.cells z.t (zs.toList.map fun _ => AV.top))) w := by
  refine ⟨fun i p hp => ?_, fun i i' b1 c m b2 c' m' hp hp' hne => ?_, fun i b1 c m hp => ?_, hH.ilt, fun b1 x hb1 => ⟨(hH.sub b1 x hb1).1, (hH.sub b1 x hb1).2.1, fun i b' c n hp => ?_, (hH.sub b1 x hb1).2.2.2⟩⟩
  ·by_cases hi : i = j
   ·subst hi; rw [Cx.put_eq] at hp; injection hp with hp; subst hp
    rw [getB_set, if_pos ⟨rfl, hjl⟩]
    exact ⟨zs.toList, htop _, by simpa using hz1⟩
   ·rw [Cx.put_ne hi] at hp
    rw [getB_set_ne hi]
    exact (hH.live i p hp).mono hx1 (fun _ _ _ _ => rfl) fun b x hb => ⟨hb, rfl⟩
  ·by_cases hi : i = j
   ·by_cases hi' : i' = j
    ·omega
    ·subst hi; rw [Cx.put_eq] at hp; rw [Cx.put_ne hi'] at hp'
     injection hp with hp; injection hp with hp _ _
     rw [<- hp]; exact Ne.symm (hob.nr _ _ _ _ hp')
   ·rw [Cx.put_ne hi] at hp
    by_cases hi' : i' = j
    ·subst hi'; rw [Cx.put_eq] at hp'
     injection hp' with hp'; injection hp' with hp' _ _
     rw [<- hp']; exact hob.nr _ _ _ _ hp
    ·rw [Cx.put_ne hi'] at hp'; exact hH.inj _ _ _ _ _ _ _ _ hp hp' hne
  ·by_cases hi : i = j
   ·subst hi; rw [Cx.put_eq] at hp; injection hp with hp; injection hp with hp _ _
    rw [<- hp]; exact ⟨hob.lt, hob.ni⟩
   ·rw [Cx.put_ne hi] at hp; exact hH.fresh _ _ _ _ hp
  ·by_cases hi : i = j
   ·subst hi; rw [Cx.put_eq] at hp; injection hp with hp; injection hp with hp _ _
    rw [<- hp]; rintro rfl
    have hno := hob.no
    have hb1' : C.O b = some x := hb1
    rw [hno] at hb1'; cases hb1'
   ·rw [Cx.put_ne hi] at hp; exact (hH.sub b1 x hb1).2.2.1 _ _ _ _ hp
 have hlen : (zs.toList.map fun _ => AV.top).length = sizeT P z.t := by simp [hz2]
 have hst : storeA P (setB H j (.cells z.t (zs.toList.map fun _ => AV.top))) z.t (.own j 0) x = .upd j (.cells z.t (pasteL (zs.toList.map fun _ => AV.top) 0 (cellsA x))) := by
  unfold storeA
  have h1 : decide ((cellsA x).length = sizeT P z.t /\ 0 < sizeT P z.t) = true := by simp [hl, hpos]
  have h2 : getB (setB H j (.cells z.t (zs.toList.map fun _ => AV.top))) j = .cells z.t (zs.toList.map fun _ => AV.top) := by rw [getB_set, if_pos ⟨rfl, hjl⟩]
  simp only [h1, h2]
  have h3 : (decide (0 + (cellsA x).length <= (zs.toList.map fun _ => AV.top).length) && oneL (cellsA x)) = true := by
   rw [hlen, ho]; simp [hl]
  simp only [h3]
 obtain ⟨w', hrun, h1, h2, h3⟩ := store_upd hH1 (.own _ _ _ _ _ Cx.put_eq) (hx.mono hx1) hst lo
 have hpaste : pasteL (zs.toList.map fun _ => AV.top) 0 (cellsA x) = cellsA x := by
  rw [pasteL_eq, List.take_zero, List.nil_append, List.drop_eq_nil_of_le (by rw [hlen]; omega), List.append_nil]
 have hset : setB (setB H j (.cells z.t (zs.toList.map fun _ => AV.top))) j (.cells z.t (cellsA x)) = H := by
  rw [setB_eq, setB_eq, List.set_set, <- hg]
  rw [getB_eq, List.getD_eq_getElem?_getD, List.getElem?_eq_getElem hjl]
  simp
 rw [hpaste, hset] at h1
 have ht1 : Tr lo Cs ws (C.put j (.at b 0 0)) w := by
  refine ⟨ht.os, ht.tape, ht.output, ht.size, ht.keep, ht.imm, ht.imm', fun i hi => ?_, fun i b1 c n hi hp => ?_, ht.sub⟩
  ·rw [Cx.put_ne (by omega)]; exact ht.rho i hi
  ·by_cases hij : i = j
   ·subst hij; rw [Cx.put_eq] at hp; injection hp with hp; injection hp with hp _ _
    rw [<- hp]; exact .inr (.inl hob.new)
   ·rw [Cx.put_ne hij] at hp; exact ht.own _ _ _ _ hi hp
 exact ⟨w', C.put j (.at b 0 0), by rw [hob.val]; exact hrun, h1, hx1.trans h2, ht1.trans h3, rfl⟩
theorem sw_any (hS : SumsOK P S) (hz : SwReg all z) {R : AV -> Heap -> Prop} {K : List AV -> Heap -> VC} {Q : Exit -> Act -> World -> Prop} {ds : Act -> Prop} (hput : PutOK all ds) {ro : Option Nat} {rm : Nat} {fr0 : List AV} {hp0 : Heap} {L : List Info} {Cs : Cx} {ws : World}
  (hseg : SwSeg P all z fr0 hp0 L) (hend : SwEnd P S all z R K fr0 hp0 L) (hlo : S.lo <= hp0.length) (hd0 : z.d < fr0.length) (htop : getL fr0 z.d = .top) (hgoal : Goal P S R K Q Cs ws ds) :
  ∀ (fuel : Nat) (D : Array Bool) (C : Cx) (w : World) (act : Act), SwInv P S all z fr0 hp0 L Cs ws D C w act -> unl (fun i => D.getD i false) all.length <= fuel -> ds act -> wpAnyIn (fen ro) rm P .any all.toArray Q fuel D act w := by
 have fin : ∀ {D : Array Bool} {C : Cx} {w : World} {act : Act}, SwInv P S all z fr0 hp0 L Cs ws D C w act -> ds act -> (∀ i, i < all.length -> Lst D i) -> Q .normal act w := by
  intro D C w act hi hds hall
  rcases hend with ⟨hlen, hK⟩ | ⟨hlen, _⟩
  rotate_left
  ·exact absurd (hall L.length (by omega)) (hi.last (by omega))
  have hF := hi.core.frame fun q hq => hall q (by omega)
  have e : frsG (fun q => dstOf (swOps all z) q) fr0 L L.length = frs (swOps all z) 0 fr0 L L.length := by
   rw [frs_eq]
   congr 1
   funext q
   rw [Nat.zero_add]
  rw [e] at hF
  obtain ⟨r, hr⟩ := hps_app hp0 L L.length
  exact hgoal _ _ C w act hK (by rw [hr]; simp; omega) hi.core.hr hF.clean hi.tr hds
 have hback : Back all := fun i o ho e he hb => by
  obtain ⟨d, h1, _⟩ := swOps_at hz ho
  exact hz.bk i _ h1 e he hb
 intro fuel
 induction fuel with
 | zero =>
   intro D C w act hi hfu hds
   have hall : ∀ i, i < all.length -> Lst D i := unl_zero (by omega)
   refine ⟨?_, fin hi hds hall⟩
   cases hr : Region.ready .any all.toArray D with
   | nil => rfl
   | cons i l =>
     obtain ⟨o, h1, h2, _⟩ := ready_mem (show i ∈ Region.ready .any all.toArray D by rw [hr]; simp)
     have hlt := (List.getElem?_eq_some_iff.1 h1).1
     rw [getD_tf (by rw [hi.size]; exact hlt)] at h2
     have := hall i hlt
     rw [show D.getD i false = true from this] at h2; cases h2
 | succ fuel ih =>
   intro D C w act hi hfu hds
   refine ⟨fun hr => fin hi hds (all_listed hback hi.size hr), fun q hir => ?_⟩
   obtain ⟨o, ho, hnl', hpre, hLst, hclosed, hfu1, hsz⟩ := ready_facts hi.size hi.closed hir
   have hlt := (List.getElem?_eq_some_iff.1 ho).1
   have hfu' := hfu1 fuel hfu
   have hao : all.toArray[q]? = some o := by simpa using ho
   obtain ⟨dq, hg', hdst, hd1, hd2, hd3⟩ := swOps_at hz ho
   have hwt : Region.wanted o (yielded all.toArray act.tmps) = true := by unfold Region.wanted; rw [hz.ng _ _ ho]
   unfold wpOpIn
   simp only [hao, hwt, if_true]
   have hcl := closed_sw hz hi.closed
   have hL1 : L.length = all.length \/ L.length + 1 = all.length := by
    rcases hend with ⟨h, _⟩ | ⟨h, _⟩
    ·exact .inl h
    ·exact .inr h
   rcases Nat.lt_or_ge q L.length with hq | hqL
   rotate_left
   ·-- the last one, which turns
    rcases hend with ⟨h, _⟩ | ⟨hlen, hna, hns, hbar, o', ho', htu, ρ, hρ, fr', hp', a, hbo, hK⟩
    ·omega
    obtain rfl : q = L.length := by omega
    rw [ho] at ho'; injection ho' with ho'; subst ho'
    have hall : ∀ p, p < L.length -> Lst D p := fun p hp => ord_closed hback hi.closed _ _ ho hpre ((bar_spec hbar (by omega)).1 hp)
    have hF := hi.core.frame fun p hp => hall p hp
    have e : frsG (fun q => dstOf (swOps all z) q) fr0 L L.length = frs (swOps all z) 0 fr0 L L.length := by
     rw [frs_eq]
     congr 1
     funext q
     rw [Nat.zero_add]
    rw [e] at hF
    obtain ⟨rb, hrb⟩ := hps_app hp0 L L.length
    have hlo1 : S.lo <= (hps hp0 L L.length).length := by rw [hrb]; simp; omega
    refine Ran.wpIn ((exec_big hS o htu hρ hi.core.hr hF hlo1 hbo).mono fun v w' ⟨C', h1, h2, h3, h4⟩ => ?_)
    have hF2 : FR [] C' w' (setO fr' o.dst (noGd a)) (act.put o.dst v).tmps := h3.put (.plain (rel_noGd h2) (notGd_noGd _)) _
    have hQ : Q .normal (act.put o.dst v) w' := hgoal _ _ C' w' _ hK (Nat.le_trans hlo1 hbo.len) h1 hF2.clean (hi.tr.trans h4) (hput o (List.mem_of_getElem? ho) act v hds)
    have hall' : ∀ i, i < all.length -> Lst (D.setIfInBounds L.length true) i := fun i hi' => (hLst i).2 (by
     rcases Nat.lt_or_ge i L.length with h | h
     ·exact .inl (hall i h)
     ·exact .inr (by omega))
    have hnr : ∀ i, i ∉ Region.ready .any all.toArray (D.setIfInBounds L.length true) := fun i hir' => by
     obtain ⟨o2, h1, h2, _⟩ := ready_mem hir'
     have hlt2 := (List.getElem?_eq_some_iff.1 h1).1
     rw [getD_tf (by rw [hsz]; exact hlt2)] at h2
     have := hall' i hlt2
     rw [show (D.setIfInBounds L.length true).getD i false = true from this] at h2; cases h2
    cases fuel with
    | zero =>
      refine ⟨?_, hQ⟩
      cases hr : Region.ready .any all.toArray (D.setIfInBounds L.length true) with
      | nil => rfl
      | cons i l => exact absurd (show i ∈ Region.ready .any all.toArray (D.setIfInBounds L.length true) by rw [hr]; simp) (hnr i)
    | succ fuel => exact ⟨fun _ => hQ, fun i hi' => absurd hi' (hnr i)⟩
   have hlast : L.length < all.length -> ¬ Lst (D.setIfInBounds q true) L.length := fun h hl => by
    rcases (hLst L.length).1 hl with h' | h'
    ·exact hi.last h h'
    ·omega
   have hlook : ∀ t ∈ looksL (swOps all z) { o with dst := dq }, RelG [] C w (getL (frs (swOps all z) 0 fr0 L q) t) (act.tmps.getD t undef) := fun t ht => by
    have e : frs (swOps all z) 0 fr0 L q = frsG (fun q => dstOf (swOps all z) q) fr0 L q := by
     rw [frs_eq]
     congr 1
     funext q
     rw [Nat.zero_add]
    rw [e]
    refine hi.core.look (by omega) (fun p hp hd => ?_) (.inl fun p hpq hp hl hd => ?_)
    ·obtain ⟨o', ho', hd'⟩ := dstOf_some hd
     exact ord_closed hz.bk hcl _ _ hg' hpre ((tmp_spec hz.tm ho' hd' hg' ht).1 hp)
    ·rcases Nat.lt_or_ge q p with h | h
     ·obtain ⟨o', ho', hd'⟩ := dstOf_some hd
      exact hnl' (ord_mem hz.bk hcl (by rw [swOps_len]; omega) hl ((tmp_spec hz.tm ho' hd' hg' ht).2 h))
     ·obtain rfl : p = q := by omega
      exact hnl' hl
   have hdsz : z.d < act.tmps.size := by rw [<- hi.core.tsz]; exact hd0
   obtain ⟨oA, hoA, hoAd, hoAo⟩ := hz.oa
   obtain ⟨oS, hoS, hoSd, hoSo⟩ := hz.os
   have hla0 := (List.getElem?_eq_some_iff.1 hoA).1
   have hls0 := (List.getElem?_eq_some_iff.1 hoS).1
   have hla : z.a < L.length := by
    rcases hend with ⟨h, _⟩ | ⟨h, h1, _⟩
    ·omega
    ·omega
   have hls : z.s < L.length := by
    rcases hend with ⟨h, _⟩ | ⟨h, _, h1, _⟩
    ·omega
    ·omega
   have hsa : ∀ {D : Array Bool}, Closed all (Lst D) -> Lst D z.s -> Lst D z.a := fun hc hl => ord_mem hback hc (by omega) hl hz.ord
   by_cases hqa : q = z.a
   ·-- the making
    subst hqa
    rw [hoA] at ho; injection ho with ho; subst ho
    obtain ⟨hnew, hzs⟩ := hseg.la hla
    obtain ⟨l, hl⟩ := Option.isSome_iff_exists.1 hzs
    obtain ⟨ti, zv, hti, hzv, hsz', rfl⟩ := zeroL_some hl
    have hns : ¬ Lst D z.s := fun h => hnl' (hsa hi.closed h)
    have hran : Ran P oA act.eval w fun v w' => v = .pointer (some ⟨w.heap.size, 0, none⟩) /\ w' = w.alloc (.cells zv.cells z.t) := by
     obtain ⟨dst, op, type, pos, after, guard⟩ := oA
     simp only at hoAo
     subst hoAo
     exact run_of_post (m := Instr.alloc z.t true _) rfl ⟨_, _, by simp [Instr.alloc, zeroValue, typeInfo, hti, hzv, newVar, newRow], rfl, rfl⟩
    refine Ran.wpIn (hran.mono fun v w' ⟨hv, hw'⟩ => ?_)
    subst hv hw'
    obtain ⟨hH1, hx⟩ := hi.core.hr.alloc (.cells zv.cells z.t)
    have hgd : ∀ t, (act.put oA.dst (.pointer (some ⟨w.heap.size, 0, none⟩))).tmps.getD t undef = if t = z.d then .pointer (some ⟨w.heap.size, 0, none⟩) else act.tmps.getD t undef := fun t => by
     rw [put_get, hoAd]
     by_cases h : t = z.d
     ·subst h; simp [hdsz]
     ·rw [if_neg h, if_neg]
      rintro ⟨h', _⟩; injection h' with h'; exact h h'.symm
    have hddd : ∀ p, p < L.length -> dstOf (swOps all z) p = some z.d -> p = z.s := fun p hp hd => by
     obtain ⟨o', ho', hd'⟩ := dstOf_some hd
     rcases Classical.em (p = z.s) with h | h
     ·exact h
     ·exfalso
      obtain ⟨d2, hg2, _, _, _, h3⟩ := swOps_at hz hoS
      rw [h3 rfl] at hg2
      exact (uniq_spec hz.uq ho').1 z.d hd' z.s _ (Ne.symm h) hg2 rfl
    refine ih _ C _ _ ⟨hsz, hclosed, ⟨hH1, fun p hp hn => hi.core.free p hp fun h => hn ((hLst p).2 (.inl h)), fun p hp hl t hdt hlt' => ?_, fun t ht => ?_, ?_⟩, hi.tr.trans (.alloc _ hi.core.hr.ilt _), fun _ _ => ⟨w.heap.size, ?_, hi.tr.size, by simp, ⟨zv.cells, by simpa using heap_new_cells w zv.cells z.t, ?_⟩, fun h => by have := hi.core.hr.ilt _ h; omega, fun i b' c n h e => (by have := (hi.core.hr.fresh _ _ _ _ h).1; omega), Option.eq_none_iff_forall_ne_some.2 fun x h => by have := (hi.core.hr.sub _ _ h).1; omega⟩, hlast⟩ hfu' (hput oA (List.mem_of_getElem? hoA) _ _ hds)
    ·rw [hgd]
     have hpa : p ≠ z.a := fun e => by rw [e, hdst, hd2 rfl] at hdt; cases hdt
     have hlp : Lst D p := by
      rcases (hLst p).1 hl with h | h
      ·exact h
      ·exact absurd h hpa
     rw [if_neg]
     ·exact (hi.core.v1 p hp hlp t hdt hlt').mono hx
     ·intro e; subst e
      have := hddd p hp hdt
      subst this
      exact hns hlp
    ·rw [hgd]
     split
     ·rename_i e; subst e; rw [htop]; exact .plain (.top _) trivial
     ·exact (hi.core.v2 t (ht.imp (fun h p hp hl => h p hp ((hLst p).2 (.inl hl))) id)).mono hx
    ·rw [hi.core.tsz, hoAd]; simp [Act.put]
    ·rw [hgd, if_pos rfl]
    ·have : sizeT P z.t = ti.size := by unfold sizeT; rw [hti]
     rw [this, <- hsz']
   ·by_cases hqs : q = z.s
    ·-- the store
     subst hqs
     rw [hoS] at ho; injection ho with ho; subst ho
     have hla' : Lst D z.a := ord_closed hback hi.closed _ _ hoS hpre hz.ord
     obtain ⟨b, hob⟩ := hi.ob hla' hnl'
     obtain ⟨l, hl, hl1, hl2, hl3, hval, hnew⟩ := hseg.ls hls
     have hxr : Rel C w (evM ((tmpsO [z.x]).map fun t => (t, unGd [] (getL (frs (swOps all z) 0 fr0 L z.s) t))) z.x) (act.eval z.x) := evM_ops (T := []) (fun t ht => hlook t (looks_op (by
      have : z.x = .tmp t := by
       cases hzx : z.x <;> rw [hzx] at ht <;> simp [tmpsO] at ht
       rw [ht]
      show (.tmp t : Operand) ∈ oS.op.operands
      rw [hoSo, this]; simp [Op.operands]))) z.x
     have hj : C.ρ (hps hp0 L z.s).length = none := by
      exact hi.core.free z.s hls hnl' 0 (by rw [hnew]; simp)
     have hat : getB (hps hp0 L L.length) (hps hp0 L z.s).length = .cells z.t l := by
      have := hps_at (hp0 := hp0) hls (t := 0) (by rw [hnew]; simp)
      rw [hnew] at this
      simpa [getB] using this
     obtain ⟨rb, hrb⟩ := hps_app hp0 L z.s
     obtain ⟨w', C', hrun, h1, h2, h3, hC'⟩ := sw_store hi.core.hr hi.tr hob hj (by rw [hrb]; simp; omega) hxr (by rw [<- hl]; exact hl1) hl2 (by rw [<- hl]; exact hl3) (by rw [<- hl]; exact hat)
     have hran : Ran P oS act.eval w fun v w'' => v = undef /\ w'' = w' := by
      refine .inr (.inr ⟨w', ?_, rfl, rfl⟩)
      obtain ⟨dst, op, type, pos, after, guard⟩ := oS
      simp only at hoSo
      subst hoSo
      have hrun' : (Instr.storeAt z.t (act.eval (.tmp z.d)) (act.eval z.x)).run P w = .ok () w' := hrun
      simp [execOp, hrun']
     refine Ran.wpIn (hran.mono fun v w'' ⟨hv, hw'⟩ => ?_)
     subst hv; subst hw'
     have hput0 : act.put oS.dst undef = act := by rw [hoSd]; rfl
     rw [hput0]
     refine ih _ C' _ _ ⟨hsz, hclosed, hi.core.put h2 h1 (fun p hp hn t ht => ?_) (fun p hp hl => ?_) (fun p _ h => (hLst p).2 (.inl h)), h3, fun _ hn => absurd ((hLst z.s).2 (.inr rfl)) hn, hlast⟩ hfu' (by rw [<- hput0]; exact hput oS (List.mem_of_getElem? hoS) _ _ hds)
     ·rw [hC', Cx.put_ne]
      ·exact hi.core.free p hp (fun h => hn ((hLst p).2 (.inl h))) t ht
      ·have hps' : p ≠ z.s := fun e => hn ((hLst p).2 (.inr e))
       rcases Nat.lt_or_ge p z.s with h | h
       ·obtain ⟨r, hr⟩ := hps_le hp0 L (show p + 1 <= z.s by omega)
        rw [hr]; simp only [hps, List.length_append]; omega
       ·obtain ⟨r, hr⟩ := hps_le hp0 L (show z.s + 1 <= p by omega)
        rw [hr]; simp only [hps, List.length_append, hnew, List.length_singleton]; omega
     ·rcases (hLst p).1 hl with h | h
      ·exact .inl h
      ·subst h
       refine .inr ⟨z.d, by rw [hdst, hd3 rfl], ?_⟩
       rw [hval, hob.val]
       exact .plain (.own _ _ _ _ _ (by rw [hC']; exact Cx.put_eq)) trivial
    ·-- any other
     obtain ⟨o', ho', hst⟩ := hseg.step q hq hqa hqs
     rw [ho] at ho'; injection ho' with ho'; subst ho'
     have hdq := hd1 hqa hqs
     subst hdq
     obtain ⟨rb, hrb⟩ := hps_app hp0 L q
     have hk : ∀ v w', (∃ C', HR C' (hps hp0 L L.length) w' /\ RelG [] C' w' (L.getD q default).val v /\ Grow (hps hp0 L q).length (L.getD q default).new.length C w C' w') ->
       wpAnyIn (fen ro) rm P .any all.toArray Q fuel (D.setIfInBounds q true) (act.put o.dst v) w' := by
      intro v w' ⟨C', h1, h2, h3⟩
      have hcore := hi.core.next (dn' := fun q' => Lst (D.setIfInBounds q true) q') (q := q) hq hnl' (fun p hp => hLst p) (fun p hp hne t hd hd' => by
        obtain ⟨o2, ho2, hd2⟩ := dstOf_some hd'
        obtain ⟨o1, ho1, hd1'⟩ := dstOf_some hd
        exact (uniq_spec hz.uq ho1).1 t hd1' _ o2 hne ho2 hd2) h1 h2 h3
      simp only [hdst] at hcore
      refine ih _ C' w' _ ⟨hsz, hclosed, hcore, hi.tr.trans (h3.tr (by rw [hrb]; simp; omega)), fun hA hS' => ?_, hlast⟩ hfu' (hput o (List.mem_of_getElem? ho) _ _ hds)
      have hA' : Lst D z.a := by
       rcases (hLst z.a).1 hA with h | h
       ·exact h
       ·exact absurd h.symm hqa
      have hS'' : ¬ Lst D z.s := fun h => hS' ((hLst z.s).2 (.inl h))
      obtain ⟨b, hob⟩ := hi.ob hA' hS''
      obtain ⟨zs, hc1, hc2⟩ := hob.cell
      refine ⟨b, ?_, hob.new, Nat.lt_of_lt_of_le hob.lt h3.size, ⟨zs, (h3.keep b hob.lt).trans hc1, hc2⟩, fun h => ?_, fun i b' c n hp e => ?_, (h3.sub b).trans hob.no⟩
      ·rw [put_get, if_neg]
       ·exact hob.val
       ·rintro ⟨h, _⟩
        obtain ⟨d2, hg2, _, _, _, h3'⟩ := swOps_at hz hoS
        rw [h3' rfl] at hg2
        exact (uniq_spec hz.uq hg').1 z.d h z.s _ (Ne.symm hqs) hg2 rfl
      ·rcases h3.imm' b h with h | h
       ·exact hob.ni h
       ·have := hob.lt; omega
      ·by_cases hr : i < (hps hp0 L q).length \/ (hps hp0 L q).length + (L.getD q default).new.length <= i
       ·rw [h3.rho i hr] at hp; exact hob.nr _ _ _ _ hp e
       ·have := h3.own i b' c n (by omega) (by omega) hp
        have := hob.lt; omega
     rcases run_info hst (.refl _) (act := act) hi.core.hr (hps_pre hq) (hi.core.ff hq hnl') (fun x hx => evG_rel x fun t ht => hlook t (looks_op (ht ▸ hx))) (fun d hd => by
       obtain ⟨j, want, hg, _⟩ := hd
       rw [hz.ng _ _ ho] at hg; cases hg) with ⟨_, hr⟩ | ⟨hw, _⟩
     ·exact Ran.wpIn (hr.mono hk)
     ·rw [hwt] at hw; cases hw
end
end Abs
end Go.Proofs.Ytdfdjlijghjdaaa

namespace Go.Proofs.Ytdfdjlijghjdaaa
namespace Abs
open Go Go.RowKit
section
variable {P : Program} {F : Fence} {n : Nat} {Q : Exit -> Act -> World -> Prop} {all : List Oper}
theorem mvX_spec {o : Oper} {x : Operand} (h : mvX o = some x) : o.op = .move x /\ o.guard = none /\ o.after.toList = [] := by
 unfold mvX at h
 split at h
 ·rename_i y hy
  split at h
  ·rename_i h1 h2
   injection h with h; subst h
   exact ⟨hy, h1, h2⟩
  ·cases h
 ·cases h
theorem opIn_mv {ops : Array Oper} {j : Nat} {oi oj : Oper} {x : Operand} (hj : ops[j]? = some oj) (hx : oi.op = .move x) (hap : oi.apart ops oj = true) (hsj : ∀ cs b, oj.op ≠ .select cs b) (hQ : ∀ c a w, ¬ Q (.panic c) a w)
  {K : Act -> World -> Prop} {a : Act} {w : World} {v : Value} (hv : a.eval x = v) (h : wpOpIn F n P ops Q j K (a.put oi.dst v) w) :
  wpOpIn F n P ops Q j (fun a' w' => a'.eval x = v /\ K (a'.put oi.dst v) w') a w := by
 obtain ⟨h1, h2, h3⟩ := Oper.apart_spec hap
 have keep : ∀ (a : Act), a.eval x = v -> ∀ u, (a.put oj.dst u).eval x = v := fun a ha u => by
  rw [Act.eval_put fun d hd hxd => h3 d hd ?_]
  ·exact ha
  ·unfold Oper.looksAt
   rw [hx, hxd]
   exact List.mem_append_left _ (List.mem_filterMap.2 ⟨.tmp d, by simp [Op.operands], rfl⟩)
 have hev : ∀ y ∈ oj.op.operands, (a.put oi.dst v).eval y = a.eval y := fun y hy => Act.eval_put fun d hd hxd => h1 d hd (by
  subst hxd
  exact List.mem_append_left _ (List.mem_filterMap.2 ⟨.tmp d, by simpa using hy, rfl⟩))
 unfold wpOpIn at *
 simp only [hj] at *
 rw [wanted_put oj a oi.dst v h1, about_congr oj w hev] at h
 split
 ·rename_i hw
  simp only [hw, if_true] at h
  unfold Oper.wpIn at *
  rw [about_congr oj w hev, semAt_congr oj hsj hev] at h
  refine ⟨h.1, ?_⟩
  replace h := h.2
  generalize (oj.semAt F.round a.eval).run P w = r at *
  cases r with
  | ok y w' =>
    cases y <;> simp only [Oper.uponIn] at h ⊢
    case value u => exact ⟨keep a hv u, by rw [<- Act.put_comm a v u h2]; exact h⟩
    case skip => exact ⟨keep a hv _, by rw [<- Act.put_comm a v undef h2]; exact h⟩
    case defer d =>
     refine ⟨keep { a with defers := d :: a.defers } hv _, ?_⟩
     rw [<- Act.put_comm _ v undef h2, <- Act.put_defers]
     exact h
    case enter f args =>
     refine ⟨h.1, CallsIn.mono h.2 fun e w'' he => ?_⟩
     cases e with
     | returned u => exact ⟨keep a hv u, by rw [<- Act.put_comm a v u h2]; exact he⟩
     | panicked c => exact absurd he (hQ _ _ _)
     | outgrown => exact he
    case row row args => exact ⟨h.1, RowsIn.mono h.2 fun u w'' he => ⟨keep a hv u, by rw [<- Act.put_comm a v u h2]; exact he⟩⟩
    case round l f tmps assign body =>
     refine ⟨h.1, RoundIn.mono h.2 fun e w'' he => ?_⟩
     cases e with
     | returned u => exact ⟨keep a hv u, by rw [<- Act.put_comm a v u h2]; exact he⟩
     | panicked c => exact absurd he (hQ _ _ _)
     | outgrown => exact he
  | halt x w' =>
    cases x <;> simp only [Oper.uponIn] at h ⊢
    case panic u => exact absurd h (hQ _ _ _)
 ·rename_i hw
  simp only [hw] at h
  exact ⟨h.1, keep a hv _, by rw [<- Act.put_comm a v undef h2]; exact h.2⟩
theorem wpOpIn_mv {ops : Array Oper} {i : Nat} {oi : Oper} {x : Operand} (hi : ops[i]? = some oi) (hx : oi.op = .move x) (hg : oi.guard = none) {K : Act -> World -> Prop} {a : Act} {w : World} (hF : ∀ f, F.fn f) (h : K (a.put oi.dst (a.eval x)) w) :
  wpOpIn F n P ops Q i K a w := by
 unfold wpOpIn
 simp only [hi]
 have hw : Region.wanted oi (yielded ops a.tmps) = true := by unfold Region.wanted; rw [hg]
 rw [hw]
 simp only [if_true]
 refine ⟨fun f _ => hF f, ?_⟩
 rw [Oper.semAt_eq _ _ _ fun c hc => by rw [hx] at hc; cases hc]
 have : (execOp a.eval oi).run P w = .ok (.value (a.eval x)) w := by
  obtain ⟨dst, op, type, pos, after, guard⟩ := oi
  simp only at hx
  subst hx
  simp [execOp]
 rw [this]
 exact h
theorem mv_first {ops : Array Oper} {i : Nat} {oi : Oper} {x : Operand} (hi : ops[i]? = some oi) (hx : oi.op = .move x) (hg : oi.guard = none) (hF : ∀ f, F.fn f) (hsel : ∀ (j : Nat) (o : Oper) cs b, ops[j]? = some o -> o.op ≠ .select cs b) (hQ : ∀ c a w, ¬ Q (.panic c) a w) :
  ∀ (fuel : Nat) (listed : Array Bool) (a : Act) (w : World) (v : Value),
    (∀ j oj, ops[j]? = some oj -> j ≠ i -> listed.getD j true = false -> (∀ e ∈ oj.after, Region.binds .any e = true -> e.on ≠ i) -> oi.apart ops oj = true) ->
    i ∈ Region.ready .any ops listed -> a.eval x = v ->
    wpAnyIn F n P .any ops Q fuel (listed.setIfInBounds i true) (a.put oi.dst v) w -> wpAnyIn F n P .any ops Q (fuel + 1) listed a w := by
 intro fuel
 induction fuel with
 | zero =>
   intro listed a w v _ hr hv H
   refine ⟨fun h => (by rw [h] at hr; cases hr), fun j hj => ?_⟩
   by_cases hji : j = i
   ·subst hji; exact wpOpIn_mv hi hx hg hF (by rw [hv]; exact H)
   ·have := ready_mono hj hji
    rw [H.1] at this
    cases this
 | succ fuel ih =>
   intro listed a w v hfree hr hv H
   refine ⟨fun h => (by rw [h] at hr; cases hr), fun j hj => ?_⟩
   by_cases hji : j = i
   ·subst hji; exact wpOpIn_mv hi hx hg hF (by rw [hv]; exact H)
   ·have h1 := H.2 j (ready_mono hj hji)
    obtain ⟨hjun, oj, hoj, hall⟩ := Go.mem_ready.1 hj
    have hnot : ∀ e ∈ oj.after, Region.binds .any e = true -> e.on ≠ i := fun e he hb heq => by
     have h1 := hall e he hb
     have h0 := (Go.mem_ready.1 hr).1
     rw [heq] at h1
     rcases Nat.lt_or_ge i listed.size with h' | h'
     ·simp [h'] at h0 h1; rw [h0] at h1; cases h1
     ·simp [Array.getElem?_eq_none h'] at h1
    have h2 := opIn_mv (v := v) hoj hx (hfree j oj hoj hji hjun hnot) (fun cs b => hsel j oj cs b hoj) hQ hv h1
    have hfree' : ∀ k ok, ops[k]? = some ok -> k ≠ i -> (listed.setIfInBounds j true).getD k true = false ->
      (∀ e ∈ ok.after, Region.binds .any e = true -> e.on ≠ i) -> oi.apart ops ok = true := fun k ok hk hki hun hno => by
     refine hfree k ok hk hki ?_ hno
     by_cases hjk : j = k
     ·subst hjk; exact hjun
     ·rw [getD_set_ne true hjk] at hun; exact hun
    refine wpOpIn_mono (fun a' w' h3 => ih (listed.setIfInBounds j true) a' w' v hfree' (ready_mono hr (Ne.symm hji)) h3.1 ?_) h2
    rw [Array.setIfInBounds_comm _ _ hji]
    exact h3.2
def mvRun : List Oper -> Act -> Act
 | [], a => a
 | o :: l, a => (match mvX o with | some x => mvRun l (a.put o.dst (a.eval x)) | none => mvRun l a)
def mvLst : List Oper -> Nat -> Array Bool -> Array Bool
 | [], _, D => D
 | o :: l, n, D => (match mvX o with | some _ => mvLst l (n + 1) (D.setIfInBounds n true) | none => mvLst l (n + 1) D)
theorem lenO_eq : ∀ l : List Oper, lenO l = l.length
 | [] => rfl
 | _ :: l => by simp [lenO, lenO_eq l]
theorem mvLst_spec : ∀ (l : List Oper) (m : Nat) (D : Array Bool), m + l.length = D.size -> (mvLst l m D).size = D.size /\ ∀ i, Lst (mvLst l m D) i ↔ Lst D i \/ ∃ j o x, i = m + j /\ l[j]? = some o /\ mvX o = some x
 | [], m, D, _ => ⟨rfl, fun i => ⟨.inl, fun h => by
   rcases h with h | ⟨j, o, x, _, h, _⟩
   ·exact h
   ·simp at h⟩⟩
 | o :: l, m, D, hs => by
   simp only [List.length_cons] at hs
   simp only [mvLst]
   split
   ·rename_i x hx
    obtain ⟨h1, h2⟩ := mvLst_spec l (m + 1) (D.setIfInBounds m true) (by simp; omega)
    refine ⟨by rw [h1]; simp, fun i => ?_⟩
    rw [h2, show Lst (D.setIfInBounds m true) i ↔ Lst D i \/ i = m from by unfold Lst; rw [lst_set (by omega)]; simp]
    constructor
    ·rintro ((h | h) | ⟨j, o', x', h3, h4, h5⟩)
     ·exact .inl h
     ·exact .inr ⟨0, o, x, by omega, by simp, hx⟩
     ·exact .inr ⟨j + 1, o', x', by omega, by simpa using h4, h5⟩
    ·rintro (h | ⟨j, o', x', h3, h4, h5⟩)
     ·exact .inl (.inl h)
     ·cases j with
      | zero => exact .inl (.inr (by omega))
      | succ j => exact .inr ⟨j, o', x', by omega, by simpa using h4, h5⟩
   ·rename_i hx
    obtain ⟨h1, h2⟩ := mvLst_spec l (m + 1) D (by omega)
    refine ⟨h1, fun i => ?_⟩
    rw [h2]
    constructor
    ·rintro (h | ⟨j, o', x', h3, h4, h5⟩)
     ·exact .inl h
     ·exact .inr ⟨j + 1, o', x', by omega, by simpa using h4, h5⟩
    ·rintro (h | ⟨j, o', x', h3, h4, h5⟩)
     ·exact .inl h
     ·cases j with
      | zero => simp at h4; subst h4; rw [hx] at h5; cases h5
      | succ j => exact .inr ⟨j, o', x', by omega, by simpa using h4, h5⟩
theorem mv_all (hF : ∀ f, F.fn f) (hsel : ∀ (j : Nat) (o : Oper) cs b, all[j]? = some o -> o.op ≠ .select cs b) (hQ : ∀ c a w, ¬ Q (.panic c) a w)
  (hap : ∀ (i : Nat) (oi : Oper) (x : Operand), all[i]? = some oi -> mvX oi = some x -> ∀ (j : Nat) (oj : Oper), all[j]? = some oj -> j ≠ i -> (∀ e ∈ oj.after, Region.binds .any e = true -> e.on ≠ i) -> oi.apart all.toArray oj = true) {fuel : Nat} :
  ∀ (l : List Oper) (m : Nat) (D : Array Bool) (a : Act) (w : World), (∀ j, l[j]? = all[m + j]?) -> D.size = all.length -> (∀ i, m <= i -> ¬ Lst D i) ->
    wpAnyIn F n P .any all.toArray Q fuel (mvLst l m D) (mvRun l a) w -> wpAnyIn F n P .any all.toArray Q (fuel + (mvOps l).length) D a w
 | [], m, D, a, w, _, _, _, h => h
 | o :: l, m, D, a, w, hl, hsz, hD, h => by
   have h0 : all[m]? = some o := by simpa using (hl 0).symm
   have hlt := (List.getElem?_eq_some_iff.1 h0).1
   have hl' : ∀ j, l[j]? = all[m + 1 + j]? := fun j => by
    have := hl (j + 1)
    rw [List.getElem?_cons_succ] at this
    rw [this]; congr 1; omega
   simp only [mvLst, mvRun, mvOps] at h ⊢
   cases hx : mvX o with
   | none =>
     rw [hx] at h
     exact mv_all hF hsel hQ hap l (m + 1) D a w hl' hsz (fun i hi => hD i (by omega)) h
   | some x =>
     rw [hx] at h
     simp only at h ⊢
     obtain ⟨e1, e2, e3⟩ := mvX_spec hx
     rw [List.length_cons, <- Nat.add_assoc]
     refine mv_first (i := m) (oi := o) (by simpa using h0) e1 e2 hF (fun j o' cs b hj => hsel j o' cs b (by simpa using hj)) hQ _ D a w _ (fun j oj hj hne _ hno => hap m o x h0 hx j oj (by simpa using hj) hne hno) ?_ rfl
      (mv_all hF hsel hQ hap l (m + 1) _ _ w hl' (by simp [hsz]) (fun i hi hl => ?_) h)
     ·refine mem_ready h0 ?_ fun e he _ => ?_
      ·rw [getD_tf (by omega)]
       have := hD m (Nat.le_refl _)
       unfold Lst at this
       simpa using this
      ·rw [e3] at he; cases he
     ·unfold Lst at hl
      rw [lst_set (by omega)] at hl
      simp only [Bool.or_eq_true, decide_eq_true_eq] at hl
      rcases hl with h | h
      ·exact hD i (by omega) h
      ·omega
theorem restO_get {k : Nat} : ∀ (l : List Oper) (i : Nat) (o : Oper), l[i]? = some o -> mvX o = none -> (restO all k l)[nmv l i]? = some (renO all k o)
 | [], i, o, h, _ => by simp at h
 | p :: l, 0, o, h, hx => by
   simp at h; subst h
   simp only [restO, hx, nmv, List.getElem?_cons_zero]
 | p :: l, i + 1, o, h, hx => by
   simp only [List.getElem?_cons_succ] at h
   have ih := restO_get (k := k) l i o h hx
   cases hp : mvX p with
   | some y => simp only [restO, nmv, hp]; exact ih
   | none => simp only [restO, nmv, hp, List.getElem?_cons_succ]; exact ih
theorem restO_inv {k : Nat} : ∀ (l : List Oper) (q : Nat), q < (restO all k l).length -> ∃ i o, l[i]? = some o /\ mvX o = none /\ nmv l i = q
 | [], q, h => by simp [restO] at h
 | p :: l, q, h => by
   cases hp : mvX p with
   | some y =>
     simp only [restO, hp] at h
     obtain ⟨i, o, h1, h2, h3⟩ := restO_inv (k := k) l q h
     exact ⟨i + 1, o, by simpa using h1, h2, by simp only [nmv, hp]; exact h3⟩
   | none =>
     simp only [restO, hp, List.length_cons] at h
     cases q with
     | zero => exact ⟨0, p, by simp, hp, by simp [nmv]⟩
     | succ q =>
       obtain ⟨i, o, h1, h2, h3⟩ := restO_inv (k := k) l q (by omega)
       exact ⟨i + 1, o, by simpa using h1, h2, by simp only [nmv, hp, h3]⟩
theorem nmv_lt : ∀ (l : List Oper) (i j : Nat) (o : Oper), l[i]? = some o -> mvX o = none -> i < j -> j <= l.length -> nmv l i < nmv l j
 | [], i, j, o, h, _, _, _ => by simp at h
 | p :: l, i, 0, o, h, _, hij, _ => by omega
 | p :: l, 0, j + 1, o, h, hx, hij, hj => by
   simp at h; subst h
   simp only [nmv, hx]; omega
 | p :: l, i + 1, j + 1, o, h, hx, hij, hj => by
   simp only [List.getElem?_cons_succ] at h
   have ih := nmv_lt l i j o h hx (by omega) (by simp at hj; omega)
   cases hp : mvX p with
   | some y => simp only [nmv, hp]; exact ih
   | none => simp only [nmv, hp]; omega
theorem nmv_inj {l : List Oper} {i j : Nat} {o p : Oper} (hi : l[i]? = some o) (ho : mvX o = none) (hj : l[j]? = some p) (hp : mvX p = none) (h : nmv l i = nmv l j) : i = j := by
 have hli := (List.getElem?_eq_some_iff.1 hi).1
 have hlj := (List.getElem?_eq_some_iff.1 hj).1
 rcases Nat.lt_trichotomy i j with h1 | h1 | h1
 ·have := nmv_lt l i j o hi ho h1 (by omega); omega
 ·exact h1
 ·have := nmv_lt l j i p hj hp h1 (by omega); omega
theorem mvOps_mem : ∀ {l : List Oper} {o : Oper}, o ∈ mvOps l -> ∃ x, mvX o = some x
 | [], o, h => by simp [mvOps] at h
 | p :: l, o, h => by
   simp only [mvOps] at h
   split at h
   ·rename_i y hy
    rcases List.mem_cons.1 h with h | h
    ·exact ⟨y, h ▸ hy⟩
    ·exact mvOps_mem h
   ·exact mvOps_mem h
theorem len_mv (k : Nat) : ∀ (l : List Oper), (mvOps l).length + (restO all k l).length = l.length
 | [] => rfl
 | p :: l => by
   have ih := len_mv k l
   simp only [mvOps, restO]
   split <;> simp <;> omega
theorem frontE_mem : ∀ {k : Nat} {l : List Edge} {e : Edge}, e ∈ frontE k l -> e.on < k \/ e ∈ l
 | 0, l, e, h => .inr h
 | k + 1, l, e, h => by
   simp only [frontE, List.mem_cons] at h
   rcases h with rfl | h
   ·exact .inl (Nat.lt_succ_self k)
   ·rcases frontE_mem h with h | h
    ·exact .inl (by omega)
    ·exact .inr h
theorem renE_mem {k : Nat} : ∀ {l : List Edge} {e : Edge}, e ∈ renE all k l -> ∃ e' ∈ l, e.on = k + nmv all e'.on /\ e.ground = e'.ground /\ mvAt all e'.on = false
 | [], e, h => by simp [renE] at h
 | p :: l, e, h => by
   simp only [renE] at h
   split at h
   ·obtain ⟨e', h1, h2⟩ := renE_mem h
    exact ⟨e', by simp [h1], h2⟩
   ·rename_i hm
    rcases List.mem_cons.1 h with rfl | h
    ·exact ⟨p, by simp, rfl, rfl, hm⟩
    ·obtain ⟨e', h1, h2⟩ := renE_mem h
     exact ⟨e', by simp [h1], h2⟩
theorem hoist_len : (hoist all).length = all.length := by unfold hoist; rw [List.length_append, len_mv]
theorem hoist_get {i : Nat} {o : Oper} (h : all[i]? = some o) (hx : mvX o = none) : (hoist all)[(mvOps all).length + nmv all i]? = some (renO all (mvOps all).length o) := by
 unfold hoist
 rw [List.getElem?_append_right (by omega), Nat.add_sub_cancel_left, lenO_eq]
 exact restO_get all i o h hx
theorem hoist_inv {q : Nat} (hq : (mvOps all).length <= q) (hl : q < all.length) : ∃ i o, all[i]? = some o /\ mvX o = none /\ (mvOps all).length + nmv all i = q := by
 have h1 := len_mv (all := all) (mvOps all).length all
 obtain ⟨i, o, h2, h3, h4⟩ := restO_inv (all := all) (k := (mvOps all).length) all (q - (mvOps all).length) (by omega)
 exact ⟨i, o, h2, h3, by omega⟩
theorem mvAt_get {i : Nat} {o : Oper} (h : all[i]? = some o) : mvAt all i = (mvX o).isSome := by unfold mvAt; rw [h]
structure Ren (all : List Oper) (D D' : Array Bool) : Prop where
 s : D.size = all.length
 s' : D'.size = all.length
 mv : ∀ i o x, all[i]? = some o -> mvX o = some x -> Lst D i
 mv' : ∀ i, i < (mvOps all).length -> Lst D' i
 ot : ∀ i o, all[i]? = some o -> mvX o = none -> (Lst D' ((mvOps all).length + nmv all i) ↔ Lst D i)
theorem Ren.ready {D D' : Array Bool} (r : Ren all D D') (hbk : Back all) {i : Nat} (h : i ∈ Region.ready .any all.toArray D) : ∃ o, all[i]? = some o /\ mvX o = none /\ (mvOps all).length + nmv all i ∈ Region.ready .any (hoist all).toArray D' := by
 obtain ⟨o, ho, hn, hp⟩ := ready_mem h
 have hlt := (List.getElem?_eq_some_iff.1 ho).1
 rw [getD_tf (by rw [r.s]; exact hlt)] at hn
 cases hx : mvX o with
 | some x =>
   have := r.mv i o x ho hx
   unfold Lst at this
   rw [hn] at this; cases this
 | none =>
   refine ⟨o, ho, hx, ?_⟩
   have hg := hoist_get ho hx
   have hlt' : (mvOps all).length + nmv all i < all.length := by have := (List.getElem?_eq_some_iff.1 hg).1; rwa [hoist_len] at this
   refine mem_ready hg ?_ fun e he hb => ?_
   ·rw [getD_tf (by rw [r.s']; exact hlt')]
    have : ¬ Lst D' ((mvOps all).length + nmv all i) := fun h => by
     have := (r.ot i o ho hx).1 h
     unfold Lst at this
     rw [hn] at this; cases this
    unfold Lst at this
    simpa using this
   ·have he' : e ∈ frontE (mvOps all).length (renE all (mvOps all).length o.after.toList) := he
    rcases frontE_mem he' with h1 | h1
    ·exact r.mv' _ h1
    ·obtain ⟨e', h2, h3, h4, h5⟩ := renE_mem h1
     have hb' : Region.binds .any e' = true := by
      unfold Region.binds at hb ⊢
      rw [<- h4]; exact hb
     have hl := hp e' h2 hb'
     rw [h3]
     have hlt2 : e'.on < all.length := by have := hbk i o ho e' h2 hb'; omega
     have ho2 : all[e'.on]? = some (all[e'.on]'hlt2) := List.getElem?_eq_getElem _
     have hx2 : mvX (all[e'.on]'hlt2) = none := by
      rw [mvAt_get ho2] at h5
      cases hx3 : mvX (all[e'.on]'hlt2) with
      | none => rfl
      | some y => rw [hx3] at h5; simp at h5
     exact (r.ot _ _ ho2 hx2).2 hl
theorem hoist_any (hbk : Back all) (hgd : ∀ (i : Nat) (o : Oper) (g : Nat) (b : Bool), all[i]? = some o -> o.guard = some (g, b) -> mvAt all g = false /\ g < all.length) : ∀ (fuel : Nat) (D D' : Array Bool) (a : Act) (w : World), Ren all D D' ->
  wpAnyIn F n P .any (hoist all).toArray Q fuel D' a w -> wpAnyIn F n P .any all.toArray Q fuel D a w := by
 intro fuel
 induction fuel with
 | zero =>
   intro D D' a w r h
   refine ⟨?_, h.2⟩
   cases hr : Region.ready .any all.toArray D with
   | nil => rfl
   | cons i l =>
     obtain ⟨o, _, _, h2⟩ := r.ready hbk (i := i) (by rw [hr]; simp)
     rw [h.1] at h2; cases h2
 | succ fuel ih =>
   intro D D' a w r h
   refine ⟨fun hr => h.1 ?_, fun i hi => ?_⟩
   ·have hall := all_listed hbk r.s hr
    cases hr' : Region.ready .any (hoist all).toArray D' with
    | nil => rfl
    | cons q l =>
      exfalso
      obtain ⟨o', ho', hn', _⟩ := ready_mem (show q ∈ Region.ready .any (hoist all).toArray D' by rw [hr']; simp)
      have hlt := (List.getElem?_eq_some_iff.1 ho').1
      rw [hoist_len] at hlt
      rw [getD_tf (by rw [r.s']; exact hlt)] at hn'
      have hln : Lst D' q := by
       rcases Nat.lt_or_ge q (mvOps all).length with hq | hq
       ·exact r.mv' q hq
       ·obtain ⟨i, o, h1, h2, rfl⟩ := hoist_inv hq hlt
        exact (r.ot i o h1 h2).2 (hall i (List.getElem?_eq_some_iff.1 h1).1)
      unfold Lst at hln
      rw [hn'] at hln; cases hln
   ·obtain ⟨o, ho, hx, hrd⟩ := r.ready hbk hi
    have hg := hoist_get ho hx
    have hlt := (List.getElem?_eq_some_iff.1 ho).1
    have hlt' : (mvOps all).length + nmv all i < all.length := by have := (List.getElem?_eq_some_iff.1 hg).1; rwa [hoist_len] at this
    have h1 := h.2 _ hrd
    have hao : all.toArray[i]? = some o := by simpa using ho
    have hao' : (hoist all).toArray[(mvOps all).length + nmv all i]? = some (renO all (mvOps all).length o) := by simpa using hg
    have r' : Ren all (D.setIfInBounds i true) (D'.setIfInBounds ((mvOps all).length + nmv all i) true) := by
     have e1 : ∀ k, Lst (D.setIfInBounds i true) k ↔ Lst D k \/ k = i := fun k => by unfold Lst; rw [lst_set (by rw [r.s]; exact hlt)]; simp
     have e2 : ∀ k, Lst (D'.setIfInBounds ((mvOps all).length + nmv all i) true) k ↔ Lst D' k \/ k = (mvOps all).length + nmv all i := fun k => by unfold Lst; rw [lst_set (by rw [r.s']; exact hlt')]; simp
     refine ⟨by simp [r.s], by simp [r.s'], fun j o' x hj hx' => (e1 j).2 (.inl (r.mv j o' x hj hx')), fun j hj => (e2 j).2 (.inl (r.mv' j hj)), fun j o' hj hx' => ?_⟩
     rw [e1, e2, r.ot j o' hj hx']
     constructor
     ·rintro (h | h)
      ·exact .inl h
      ·exact .inr (nmv_inj hj hx' ho hx (by omega))
     ·rintro (h | h)
      ·exact .inl h
      ·subst h; exact .inr rfl
    have hwt : Region.wanted (renO all (mvOps all).length o) (yielded (hoist all).toArray a.tmps) = Region.wanted o (yielded all.toArray a.tmps) := by
     unfold Region.wanted
     cases hgu : o.guard with
     | none => simp only [renO, hgu]
     | some gw =>
       obtain ⟨g, b⟩ := gw
       obtain ⟨h2, h3⟩ := hgd i o g b ho hgu
       have ho2 : all[g]? = some (all[g]'h3) := List.getElem?_eq_getElem _
       have hx2 : mvX (all[g]'h3) = none := by
        rw [mvAt_get ho2] at h2
        cases hx3 : mvX (all[g]'h3) with
        | none => rfl
        | some y => rw [hx3] at h2; simp at h2
       have hg2 := hoist_get ho2 hx2
       have hy : yielded (hoist all).toArray a.tmps ((mvOps all).length + nmv all g) = yielded all.toArray a.tmps g := by
        unfold yielded
        simp only [List.getElem?_toArray, hg2, ho2, Option.bind_some]
        rfl
       simp only [renO, hgu, hy]
    unfold wpOpIn at h1 ⊢
    simp only [hao'] at h1
    simp only [hao]
    rw [hwt] at h1
    split
    ·rename_i hw
     rw [if_pos hw] at h1
     exact Oper.wpIn_mono (fun a' w' h2 => ih _ _ a' w' r' h2) h1
    ·rename_i hw
     rw [if_neg hw] at h1
     exact ⟨h1.1, ih _ _ _ _ r' h1.2⟩
end
end Abs
end Go.Proofs.Ytdfdjlijghjdaaa

namespace Go.Proofs.Ytdfdjlijghjdaaa
namespace Abs
open Go Go.RowKit
section
variable {P : Program} {S : Sums} {C C' : Cx} {w w' : World} {H hp : Heap} {T T1 T' : List Cnd} {all : List Oper}
theorem Cext.same (h : w'.heap = w.heap) : Cext C w C w' := ⟨fun _ _ h => h, fun _ h => h, fun _ _ => by rw [h]⟩
theorem HR.same (h : w'.heap = w.heap) (hH : HR C hp w) : HR C hp w' :=
 ⟨fun i p hi => (hH.live i p hi).mono (.same h) (fun _ _ _ _ => by rw [h]) (fun _ _ hb => ⟨hb, by rw [h]⟩), hH.inj, fun i b c n hi => (by rw [h]; exact hH.fresh i b c n hi), fun b hb => (by rw [h]; exact hH.ilt b hb), fun b x hb => ⟨by rw [h]; exact (hH.sub b x hb).1, (hH.sub b x hb).2.1, (hH.sub b x hb).2.2.1, (hH.sub b x hb).2.2.2.keep (by rw [h])⟩⟩
theorem Tr.draw (lo : Nat) (C : Cx) (w : World) (n : Nat) : Tr lo C w C { w with drawn := n } :=
 ⟨rfl, rfl, rfl, Nat.le_refl _, fun _ _ _ _ => rfl, fun _ h => h, fun _ h => .inl h, fun _ _ => rfl, fun i _b c n h h' => .inl ⟨i, c, n, h, h'⟩, fun _ x h => .inl ⟨x, h⟩⟩
theorem region_draw (hS : SumsOK P S) {ro : Option Nat} {rm : Nat} (hm : P.follows .mixedOrders = true) {id : Nat} {ops : Array Oper} (hu : uniqOK ops.toList = true) (htmp : tmpOK ops.toList = true) (hback : Back ops.toList) {R : AV -> Heap -> Prop} {K : List AV -> Heap -> VC} {Q : Exit -> Act -> World -> Prop} {fr : List AV} {act : Act}
  (hlo : S.lo <= hp.length) (hH : HR C hp w) (hF : FR [] C w fr act.tmps) (h : (runOps P S true ops.toList none 0 ops.toList [] fr hp K).sat R) {ds : Act -> Prop} (hput : PutOK ops.toList ds) (hds : ds act) (hgoal : Goal P S R K Q C w ds) : (Code.region id ops true).wpIn (fen ro) rm P Q act w := by
 refine Go.wpIn_mono (Q := fun e a w => (∀ c, e ≠ .panic c) /\ Q e a w) ?_ fun e a w h => h.2
 apply wpIn_region_any hm
 obtain ⟨L, T', hs, he⟩ := seg_run hS hu (s := 0) (T0 := []) (fr0 := fr) (hp0 := hp) ops.toList [] [] ⟨by simp, .refl _, fun q hq => by simp at hq⟩ (by simp) (fun k x hx => by simp at hx) h
 have hsz : (Array.replicate ops.size false).size = ops.toList.length := by simp
 have hno : ∀ i, ¬ Lst (Array.replicate ops.size false) i := fun i h => by
  unfold Lst at h
  rw [Array.getD_eq_getD_getElem?, Array.getElem?_replicate] at h
  split at h <;> simp at h
 obtain ⟨r, hr⟩ := hps_app hp L L.length
 have hH1 : HR C hp { w with drawn := w.drawn + 1 } := HR.same (w := w) rfl hH
 have hF1 : FR [] C { w with drawn := w.drawn + 1 } fr act.tmps := FR.mono (w := w) (w' := { w with drawn := w.drawn + 1 }) (.same rfl) hF
 have hunl : ∀ n, unl (fun i => (Array.replicate ops.size false).getD i false) n <= n := fun n => by
  induction n with
  | zero => exact Nat.le_refl _
  | succ n ih => simp only [unl]; split <;> omega
 have := wpAnyI_any _ _ _ _ <| (anyorder (Q := fun e a w => (∀ c, e ≠ .panic c) /\ Q e a w) hS hu htmp hback hput (ro := ro) (rm := rm) (fun c a w h => h.1 c rfl) ops.size (fun _ _ => True) (fun _ _ _ _ _ _ => trivial)).1 (Array.replicate ops.size false) 0 [] fr hp L T' C { w with drawn := w.drawn + 1 } act hs he
  ⟨hsz, fun i hi => by omega, fun i _ => hno i, fun i o _ hl => (hno i hl).elim, ⟨by rw [hr]; exact hH1.ext r, fun q _ _ t _ => by
   obtain ⟨r', hr'⟩ := hps_app hp L q
   cases hc : C.ρ ((hps hp L q).length + t) with
   | none => rfl
   | some p => have := hH1.lt hc; rw [hr'] at this; simp at this; omega,
   fun q _ hl => (hno _ hl).elim, fun t _ => (hF1.get t).sub hs.sub, hF1.len⟩⟩ hlo (by have := hunl ops.toList.length; simpa using this) hds (Goal.any fun fr' hp' C' w' act' h1 h2 h3 h4 h5 h6 => ⟨fun c h => by (cases h), (hgoal.step (.draw _ _ _ _)) fr' hp' C' w' act' h1 h2 h3 h4 h5 h6⟩)
 simpa using this
theorem finB_spec {all : List Oper} (h : finB all = true) : barAt true all (all.length - 1) = true := by
 unfold finB at h
 split at h
 ·cases h
 ·rename_i o l
  rw [show (o :: l).length - 1 = lenO l by rw [lenO_eq]; simp]
  exact h
theorem region_sw (hS : SumsOK P S) {ro : Option Nat} {rm : Nat} (hm : P.follows .mixedOrders = true) {id : Nat} {ops : Array Oper} {z : Sw} (hz : SwReg ops.toList z) {R : AV -> Heap -> Prop} {K : List AV -> Heap -> VC} {Q : Exit -> Act -> World -> Prop} {fr : List AV} {act : Act}
  (hlo : S.lo <= hp.length) (hd0 : z.d < fr.length) (hH : HR C hp w) (hF : FR [] C w fr act.tmps) (h : (runSw P S z (finB ops.toList) 0 (swOps ops.toList z) (setL fr z.d .top) hp K).sat R) {ds : Act -> Prop} (hput : PutOK ops.toList ds) (hds : ds act) (hgoal : Goal P S R K Q C w ds) : (Code.region id ops true).wpIn (fen ro) rm P Q act w := by
 apply wpIn_region_any hm
 obtain ⟨L, hs, hend⟩ := sw_seg hS hz (fr0 := setL fr z.d .top) (hp0 := hp) (fun h => finB_spec h) (swOps ops.toList z) [] ⟨by simp, fun h => by simp at h, fun h => by simp at h, fun q hq => by simp at hq⟩ (by simp) h
 have hsz : (Array.replicate ops.size false).size = ops.toList.length := by simp
 have hno : ∀ i, ¬ Lst (Array.replicate ops.size false) i := fun i h => by
  unfold Lst at h
  rw [Array.getD_eq_getD_getElem?, Array.getElem?_replicate] at h
  split at h <;> simp at h
 obtain ⟨r, hr⟩ := hps_app hp L L.length
 have hH1 : HR C hp { w with drawn := w.drawn + 1 } := HR.same (w := w) rfl hH
 have hF1 : FR [] C { w with drawn := w.drawn + 1 } fr act.tmps := FR.mono (w := w) (w' := { w with drawn := w.drawn + 1 }) (.same rfl) hF
 have hunl : ∀ n, unl (fun i => (Array.replicate ops.size false).getD i false) n <= n := fun n => by
  induction n with
  | zero => exact Nat.le_refl _
  | succ n ih => simp only [unl]; split <;> omega
 have := sw_any hS hz hput (ro := ro) (rm := rm) (Cs := C) (ws := { w with drawn := w.drawn + 1 }) hs hend hlo (by rw [len_setL]; exact hd0) (by rw [getL_set, if_pos ⟨rfl, hd0⟩]) (hgoal.step (.draw _ _ _ _)) ops.size (Array.replicate ops.size false) C { w with drawn := w.drawn + 1 } act
  ⟨hsz, fun i o _ hl => (hno i hl).elim, ⟨by rw [hr]; exact hH1.ext r, fun q _ _ t _ => by
   obtain ⟨r', hr'⟩ := hps_app hp L q
   cases hc : C.ρ ((hps hp L q).length + t) with
   | none => rfl
   | some p => have := hH1.lt hc; rw [hr'] at this; simp at this; omega,
   fun q _ hl => (hno _ hl).elim, fun t _ => by
    rw [getL_set]
    split
    ·exact .plain (.top _) trivial
    ·exact hF1.get t, by rw [len_setL]; exact hF1.len⟩, .refl _ _ _, fun hl => (hno _ hl).elim, fun _ => hno _⟩ (by have := hunl ops.toList.length; simpa using this) hds
 simpa using this
noncomputable def mvFr : List Oper -> List AV -> List AV
 | [], fr => fr
 | o :: l, fr => (match mvX o with | some x => mvFr l (setO fr o.dst (noGd (ev fr x))) | none => mvFr l fr)
theorem runMv_eq : ∀ (l : List Oper) (fr : List AV) (k : List AV -> VC), runMv l fr k = k (mvFr l fr)
 | [], _, _ => rfl
 | o :: l, fr, k => by
   cases hx : mvX o with
   | some x =>
     simp only [runMv, mvFr, hx, forceD_eq, setK_eq]
     exact runMv_eq l _ k
   | none =>
     simp only [runMv, mvFr, hx]
     exact runMv_eq l fr k
theorem mvFr_ok : ∀ (l : List Oper) (fr : List AV) (act : Act), FR [] C w fr act.tmps -> FR [] C w (mvFr l fr) (mvRun l act).tmps
 | [], _, _, h => h
 | o :: l, fr, act, h => by
   cases hx : mvX o with
   | some x =>
     simp only [mvFr, mvRun, hx]
     exact mvFr_ok l _ _ (h.put (.plain (rel_noGd (evG_rel x fun t _ => h.get t).1) (notGd_noGd _)) _)
   | none =>
     simp only [mvFr, mvRun, hx]
     exact mvFr_ok l fr act h
theorem mvRun_ok {ds : Act -> Prop} : ∀ (l : List Oper) (act : Act), (∀ o ∈ l, ∀ (a : Act) (v : Value), ds a -> ds (a.put o.dst v)) -> ds act -> ds (mvRun l act)
 | [], _, _, h => h
 | o :: l, act, hp, h => by
   simp only [mvRun]
   split
   ·exact mvRun_ok l _ (fun o ho => hp o (by simp [ho])) (hp o (by simp) _ _ h)
   ·exact mvRun_ok l act (fun o ho => hp o (by simp [ho])) h
theorem restO_mem {k : Nat} {all : List Oper} : ∀ {l : List Oper} {o : Oper}, o ∈ restO all k l -> ∃ o' ∈ l, o.dst = o'.dst
 | [], o, h => by simp [restO] at h
 | p :: l, o, h => by
   simp only [restO] at h
   split at h
   ·obtain ⟨o', h1, h2⟩ := restO_mem h
    exact ⟨o', by simp [h1], h2⟩
   ·rcases List.mem_cons.1 h with rfl | h
    ·exact ⟨p, by simp, rfl⟩
    ·obtain ⟨o', h1, h2⟩ := restO_mem h
     exact ⟨o', by simp [h1], h2⟩
theorem mvOps_sub : ∀ {l : List Oper} {o : Oper}, o ∈ mvOps l -> o ∈ l
 | [], o, h => by simp [mvOps] at h
 | p :: l, o, h => by
   simp only [mvOps] at h
   split at h
   ·rcases List.mem_cons.1 h with rfl | h
    ·simp
    ·exact List.mem_cons_of_mem _ (mvOps_sub h)
   ·exact List.mem_cons_of_mem _ (mvOps_sub h)
theorem hoist_mem {all : List Oper} {o : Oper} (h : o ∈ hoist all) : ∃ o' ∈ all, o.dst = o'.dst := by
 unfold hoist at h
 rcases List.mem_append.1 h with h | h
 ·exact ⟨o, mvOps_sub h, rfl⟩
 ·exact restO_mem h
theorem region_hoist (hS : SumsOK P S) {ro : Option Nat} {rm : Nat} (hm : P.follows .mixedOrders = true) {id : Nat} {ops : Array Oper} (hok : hoOK ops.toList = true) {R : AV -> Heap -> Prop} {K : List AV -> Heap -> VC} {Q : Exit -> Act -> World -> Prop} {fr : List AV} {act : Act}
  (hlo : S.lo <= hp.length) (hH : HR C hp w) (hF : FR [] C w fr act.tmps) (hbk : Back ops.toList) (h : (runMv ops.toList fr fun fr' => runOps P S true (hoist ops.toList) none (lenO (mvOps ops.toList)) (restO ops.toList (lenO (mvOps ops.toList)) ops.toList) [] fr' hp K).sat R) {ds : Act -> Prop} (hput : PutOK ops.toList ds) (hds : ds act) (hgoal : Goal P S R K Q C w ds) :
  (Code.region id ops true).wpIn (fen ro) rm P Q act w := by
 refine Go.wpIn_mono (Q := fun e a w => (∀ c, e ≠ .panic c) /\ Q e a w) ?_ fun e a w h => h.2
 apply wpIn_region_any hm
 unfold hoOK at hok
 simp only [Bool.and_eq_true, regOK] at hok
 obtain ⟨⟨⟨hu, ht, hb⟩, hall⟩, hap⟩ := hok
 have hall : ∀ o ∈ ops.toList, (∀ cs b, o.op ≠ .select cs b) /\ ∀ g b, o.guard = some (g, b) -> mvAt ops.toList g = false /\ g < ops.toList.length := fun o ho => by
  have h1 := List.all_eq_true.1 hall o ho
  simp only [Bool.and_eq_true, Bool.not_eq_true'] at h1
  refine ⟨fun cs b hc => ?_, fun g b hg => ?_⟩
  ·rw [hc] at h1; simp [isSel] at h1
  ·have h2 := h1.2
   rw [hg] at h2
   simpa [Nat.blt_eq] using h2
 rw [runMv_eq] at h
 have hkl : lenO (mvOps ops.toList) = (mvOps ops.toList).length := lenO_eq _
 have hlen : (mvOps ops.toList).length <= ops.toList.length := by have := len_mv (all := ops.toList) 0 ops.toList; omega
 have hH1 : HR C hp { w with drawn := w.drawn + 1 } := HR.same (w := w) rfl hH
 have hF1 : FR [] C { w with drawn := w.drawn + 1 } fr act.tmps := FR.mono (w := w) (w' := { w with drawn := w.drawn + 1 }) (.same rfl) hF
 have hF2 := mvFr_ok ops.toList fr act hF1
 have hsz : (Array.replicate ops.size false).size = ops.toList.length := by simp
 have hno : ∀ i, ¬ Lst (Array.replicate ops.size false) i := fun i h => by
  unfold Lst at h
  rw [Array.getD_eq_getD_getElem?, Array.getElem?_replicate] at h
  split at h <;> simp at h
 have key := mv_all (P := P) (F := fen ro) (n := rm) (Q := fun e a w => (∀ c, e ≠ .panic c) /\ Q e a w) (all := ops.toList) (fun f => trivial) (fun j o cs b hj => (hall o (List.mem_of_getElem? hj)).1 cs b) (fun c a w h => h.1 c rfl) (fun i oi x hi hx j oj hj hne hno => by
   have h1 := allLt_spec hap i (List.getElem?_eq_some_iff.1 hi).1
   simp only [hi, hx] at h1
   have h2 := allLt_spec h1 j (List.getElem?_eq_some_iff.1 hj).1
   simp only [hj, Bool.or_eq_true, List.any_eq_true, Bool.and_eq_true] at h2
   rcases h2 with (h2 | ⟨e, h2, h3, h4⟩) | h2
   ·exact absurd (Nat.eq_of_beq_eq_true h2) hne
   ·exact absurd (Nat.eq_of_beq_eq_true h4) (hno e (by simpa using h2) h3)
   ·exact h2) (fuel := ops.toList.length - (mvOps ops.toList).length) ops.toList 0 (Array.replicate ops.size false) act { w with drawn := w.drawn + 1 } (fun j => by simp) hsz (fun i _ => hno i) ?_
 ·rw [Nat.sub_add_cancel hlen] at key
  simpa using key
 obtain ⟨hz1, hz2⟩ := mvLst_spec ops.toList 0 (Array.replicate ops.size false) (by simp)
 obtain ⟨D', hD1, hD2⟩ : ∃ D' : Array Bool, D'.size = ops.toList.length /\ ∀ i, Lst D' i ↔ i < (mvOps ops.toList).length := by
  refine ⟨(List.replicate (mvOps ops.toList).length true ++ List.replicate (ops.toList.length - (mvOps ops.toList).length) false).toArray, by
   rw [List.size_toArray, List.length_append, List.length_replicate, List.length_replicate]; omega, fun i => ?_⟩
  unfold Lst
  rw [Array.getD_eq_getD_getElem?]
  simp only [List.getElem?_toArray]
  rcases Nat.lt_or_ge i (mvOps ops.toList).length with hi | hi
  ·rw [List.getElem?_append_left (by simpa using hi), List.getElem?_replicate, if_pos hi]; simp [hi]
  ·rw [List.getElem?_append_right (by simpa using hi), List.getElem?_replicate]
   split <;> simp <;> omega
 have hmvget : ∀ i, i < (mvOps ops.toList).length -> ∃ o x, (hoist ops.toList)[i]? = some o /\ mvX o = some x := fun i hi => by
  have h1 : (hoist ops.toList)[i]? = some ((mvOps ops.toList)[i]'hi) := by
   unfold hoist
   rw [List.getElem?_append_left hi, List.getElem?_eq_getElem hi]
  obtain ⟨x, hx⟩ := mvOps_mem (List.getElem_mem hi)
  exact ⟨_, x, h1, hx⟩
 refine hoist_any hbk (fun i o g b hi hg => (hall o (List.mem_of_getElem? hi)).2 g b hg) _ _ D' _ _ ⟨hz1.trans hsz, hD1, fun i o x hi hx => (hz2 i).2 (.inr ⟨i, o, x, by omega, hi, hx⟩), fun i hi => (hD2 i).2 hi, fun i o hi hx => ?_⟩ ?_
 ·rw [hD2, hz2]
  constructor
  ·intro h; omega
  ·rintro (h | ⟨j, o', x, h1, h2, h3⟩)
   ·exact absurd h (hno i)
   ·obtain rfl : i = j := by omega
    rw [hi] at h2; injection h2 with h2; subst h2
    rw [hx] at h3; cases h3
 rw [hkl] at h
 have hdrop : (hoist ops.toList).drop ((mvOps ops.toList).length + ([] : List Info).length) = restO ops.toList (mvOps ops.toList).length ops.toList := by
  unfold hoist
  rw [hkl]
  simp
 obtain ⟨L, T', hs, he⟩ := seg_run hS hu (s := (mvOps ops.toList).length) (T0 := []) (fr0 := mvFr ops.toList fr) (hp0 := hp) _ [] [] ⟨by rw [hoist_len]; simpa using hlen, .refl _, fun q hq => by simp at hq⟩ hdrop (fun k x hx => by simp at hx) h
 obtain ⟨r, hr⟩ := hps_app hp L L.length
 have hput' : PutOK (hoist ops.toList) ds := fun o ho a v hda => by
  obtain ⟨o', h1, h2⟩ := hoist_mem ho
  rw [h2]; exact hput o' h1 a v hda
 have hcount : unl (fun i => D'.getD i false) (hoist ops.toList).length <= ops.toList.length - (mvOps ops.toList).length := by
  rw [hoist_len]
  have : ∀ m, unl (fun i => D'.getD i false) m <= m - (mvOps ops.toList).length := fun m => by
   induction m with
   | zero => exact Nat.zero_le _
   | succ m ih =>
     simp only [unl]
     rcases Nat.lt_or_ge m (mvOps ops.toList).length with hm | hm
     ·have := (hD2 m).2 hm
      unfold Lst at this
      simp only [this, if_true]; omega
     ·split <;> omega
  exact this _
 refine wpAnyI_any _ _ _ _ <| (anyorder (Q := fun e a w => (∀ c, e ≠ .panic c) /\ Q e a w) hS hu ht (back_spec hb) hput' (ro := ro) (rm := rm) (fun c a w h => h.1 c rfl) _ (fun _ _ => True) (fun _ _ _ _ _ _ => trivial)).1 D' _ [] _ hp L T' C { w with drawn := w.drawn + 1 } _ hs he
  ⟨hD1.trans hoist_len.symm, fun i hi => (hD2 i).2 hi, fun i hi hl => ?_, fun i o ho hl e he' hb' => ?_, ⟨by rw [hr]; exact hH1.ext r, fun q _ _ t _ => by
   obtain ⟨r', hr'⟩ := hps_app hp L q
   cases hc : C.ρ ((hps hp L q).length + t) with
   | none => rfl
   | some p => have := hH1.lt hc; rw [hr'] at this; simp at this; omega,
   fun q _ hl => ?_, fun t _ => (hF2.get t).sub hs.sub, hF2.len⟩⟩ hlo hcount (mvRun_ok ops.toList act (fun o ho a v hda => hput o ho a v hda) hds) ?_
 ·have := (hD2 i).1 hl; omega
 ·have hlt := (hD2 i).1 hl
  obtain ⟨o', x, h1, h2⟩ := hmvget i hlt
  rw [ho] at h1; injection h1 with h1; subst h1
  rw [(mvX_spec h2).2.2] at he'; cases he'
 ·have := (hD2 _).1 hl; omega
 ·refine Goal.any fun fr' hp' C' w' act' h1 h2 h3 h4 h5 h6 => ?_
  exact ⟨fun c h => by (cases h), (hgoal.step (.draw _ _ _ _)) fr' hp' C' w' act' h1 h2 h3 h4 h5 h6⟩
def Cx.cut (C : Cx) (lo : Nat) (tgt : Heap) : Cx :=
 ⟨fun i => if i < lo \/ aliveB tgt i = true then C.ρ i else none, fun b => C.I b \/ ∃ i c n, goneB lo tgt i = true /\ C.ρ i = some (.at b c n), C.O⟩
theorem cut_alive {lo i : Nat} (h : aliveB hp i = true) : (C.cut lo hp).ρ i = C.ρ i := by simp [Cx.cut, h]
def Imp (C : Cx) (lo : Nat) (tgt : Heap) (w : World) (a b : AV) : Prop := ∀ v, Rel C w a v -> RelG [] (C.cut lo tgt) w b v
def ImpL (C : Cx) (lo : Nat) (tgt : Heap) (w : World) (l m : List AV) : Prop := l.length = m.length /\ ∀ vs, RelL C w l vs -> RelL (C.cut lo tgt) w m vs
theorem cut_I (lo : Nat) (hp : Heap) : ∀ b, C.I b -> (C.cut lo hp).I b := fun _ h => .inl h
theorem rel_nrm {a : AV} {v : Value} (h : Rel C w a v) : Rel C w (nrm a) v := by
 cases h <;> unfold nrm <;> first | exact .si _ _ | exact .sb _ | constructor <;> assumption | (exact .top _) | (exact .gd _ _ _) | skip
 rename_i n sz el A vs hI hc hr hl hn
 cases n with
 | zero =>
   obtain rfl := hI.1.1 rfl
   exact .v _
 | succ n => exact .pa _ sz el A vs hI hc hr hl hn
theorem nrm_rel {a : AV} {v : Value} (h : Rel C w (nrm a) v) : Rel C w a v := by
 cases a <;> first | exact h | (unfold nrm at h; cases h; first | exact .li _ _ | exact .lb _) | skip
 rename_i n sz el
 cases n with
 | zero =>
   have h : Rel C w (.v (.pointer none)) v := h
   cases h
   exact .pa 0 sz el none (fun _ => []) ⟨⟨fun _ => rfl, fun _ => rfl⟩, fun _ e => by cases e⟩ (fun _ e => by cases e) (fun k hk => by omega) (fun k hk => by omega) (fun k hk => by omega)
 | succ n => exact h
theorem relL_nrm : ∀ {l : List AV} {vs : List Value}, RelL C w l vs -> RelL C w (nrmL l) vs
 | _, _, .nil => .nil
 | _, _, .cons a l v vs h h' => .cons _ _ _ _ (rel_nrm h) (relL_nrm h')
theorem nrmL_rel : ∀ {l : List AV} {vs : List Value}, RelL C w (nrmL l) vs -> RelL C w l vs
 | [], _, h => h
 | a :: l, _, h => by
   cases h with | cons _ _ _ _ h h' => exact .cons _ _ _ _ (nrm_rel h) (nrmL_rel h')
theorem okC_nrm (a : AV) : okC (nrm a) = okC a := by
 cases a <;> first | rfl | skip
 rename_i n _ _
 cases n <;> rfl
theorem okL_nrm : ∀ l : List AV, okL (nrmL l) = okL l
 | [] => rfl
 | a :: l => by simp [nrmL, okL, okC_nrm, okL_nrm l]
theorem relL_nrmEq {l m : List AV} (h : nrmL l = nrmL m) {vs : List Value} (hr : RelL C w l vs) : RelL C w m vs := nrmL_rel (h ▸ relL_nrm hr)
theorem okL_nrmEq {l m : List AV} (h : nrmL l = nrmL m) (hr : okL l = true) : okL m = true := by rw [<- okL_nrm, <- h, okL_nrm]; exact hr
theorem slc_imp {_lo : Nat} {n n' : LN} {sz : Nat} {el el' : Nat -> List AV} (h1 : n'.val = n.val) (h2 : ∀ j, j < n.val -> nrmL (el' j) = nrmL (el j)) {v : Value} (h' : Rel C w (.slc n' sz el') v) : Rel C w (.slc n sz el) v := by
 cases h' with
 | slc _ _ _ A cap vs hcap hA hr hl hn =>
   rw [h1]
   exact .slc n sz el A cap vs (by omega) (fun h => by
    obtain ⟨ad, h3, h4, h5⟩ := hA (by omega)
    exact ⟨ad, h3, h4, fun k hk => h5 k (by omega)⟩) (fun k hk => relL_nrmEq (h2 k hk) (hr k (by omega))) (fun k hk => hl k (by omega)) (fun k hk => okL_nrmEq (h2 k hk) (hn k (by omega)))
theorem row_imp {lo i : Nat} {src : Heap} {e : TypeId} {n : LN} {sz : Nat} {el : Nat -> List AV} (hH : HR C src w) (hb : getB src i = .row e sz n el) (hg : goneB lo hp i = true) {v : Value} (hv : Rel C w (.row i) v) : Rel (C.cut lo hp) w (.slc n sz el) v := by
 cases hv with
 | row _ b c m hρ =>
   have hl := hH.live _ _ hρ
   rw [hb] at hl
   obtain ⟨hm, hcap, hs0, cs, vs, hh, hsz, hcell⟩ := hl
   rw [<- hm]
   refine .slc n sz el _ c vs (by omega) (fun _ => ⟨_, rfl, .inr ⟨i, c, m, hg, hρ⟩, fun k hk q hq => ?_⟩) (fun k hk => ?_) (fun k hk => (hcell k (by omega)).2.2.1) (fun k hk => (hcell k (by omega)).2.1)
   ·rw [add_lit]
    have := (hcell k (by omega)).2.2.2 q hq
    rw [<- this]; simp [World.cell?, hh]
   ·exact RelL.still (C := C) (C' := C.cut lo hp) (cut_I lo hp) (fun _ _ => rfl) (hcell k (by omega)).1 (own_ok (hcell k (by omega)).2.1)
 | rown _ hρ =>
   have hl := hH.live _ _ hρ
   rw [hb] at hl
   obtain ⟨h0, _⟩ : n.val = 0 /\ _ := hl
   have := Rel.slc (C := C.cut lo hp) (w := w) n sz el none 0 (fun _ => []) (by omega) (fun h => by omega) (fun k hk => by omega) (fun k hk => by omega) (fun k hk => by omega)
   rwa [h0] at this
mutual
theorem leA_sat {R : AV -> Heap -> Prop} {lo : Nat} {src : Heap} : ∀ {b a : AV} {k : VC}, (leA lo src hp a b k).sat R -> k.sat R /\ ∀ (C : Cx) (w : World), HR C src w -> Imp C lo hp w a b
 | .top, a, k, h => by unfold leA at h; exact ⟨h, fun C w _ v _ => .plain (.top v) trivial⟩
 | .si q y, a, k, h => by
   unfold leA at h
   split at h
   ·rename_i q' hk
    split at h
    ·rename_i hq
     have hq : q = q' := by simpa using hq
     subst hq
     refine ⟨h.2, fun C w _ v hv => .plain ?_ trivial⟩
     rw [kindOf_rel hv hk, show intOf a = y from h.1]; exact .si _ _
    ·exact h.elim
   ·exact h.elim
 | .li q y, a, k, h => by
   unfold leA at h
   split at h
   ·rename_i q' x
    split at h
    ·rename_i hq
     have hq : q = q' /\ x = y := by simpa using hq
     obtain ⟨rfl, rfl⟩ := hq
     exact ⟨h, fun C w _ v hv => .plain (hv.change (cut_I lo hp) rfl) trivial⟩
    ·exact h.elim
   ·exact h.elim
 | .sb y, a, k, h => by
   unfold leA at h
   split at h
   ·rename_i x
    exact ⟨h.2, fun C w _ v hv => .plain (by cases hv; rw [show x = y from h.1]; exact .sb _) trivial⟩
   ·rename_i x
    exact ⟨h.2, fun C w _ v hv => .plain (by cases hv; rw [show x = y from h.1]; exact .sb _) trivial⟩
   ·exact h.elim
 | .lb y, a, k, h => by
   unfold leA at h
   split at h
   ·rename_i x
    split at h
    ·rename_i hx
     have : x = y := by simpa using hx
     subst this
     exact ⟨h, fun C w _ v hv => .plain (hv.change (cut_I lo hp) rfl) trivial⟩
    ·exact h.elim
   ·exact h.elim
 | .own i o, a, k, h => by
   unfold leA at h
   split at h
   ·split at h
    ·rename_i hc
     simp only [Bool.and_eq_true, decide_eq_true_eq] at hc
     obtain ⟨⟨rfl, rfl⟩, ha⟩ := hc
     refine ⟨h, fun C w _ v hv => .plain ?_ trivial⟩
     cases hv with | own _ _ b c n hρ => exact .own _ _ b c n (by rw [cut_alive ha]; exact hρ)
    ·exact h.elim
   ·exact h.elim
 | .elt i s q o, a, k, h => by
   unfold leA at h
   split at h
   ·split at h
    ·rename_i hc
     simp only [Bool.and_eq_true, decide_eq_true_eq] at hc
     obtain ⟨⟨rfl, rfl, rfl⟩, ha⟩ := hc
     have h1 := h.1
     simp only [Cd.ok] at h1
     refine ⟨h.2, fun C w _ v hv => .plain ?_ trivial⟩
     rw [<- h1]
     cases hv with | elt _ _ _ _ b c n hρ hk => exact .elt _ _ _ _ b c n (by rw [cut_alive ha]; exact hρ) hk
    ·exact h.elim
   ·exact h.elim
 | .row i, a, k, h => by
   unfold leA at h
   split at h
   ·split at h
    ·rename_i hc
     simp only [Bool.and_eq_true, decide_eq_true_eq] at hc
     obtain ⟨rfl, ha⟩ := hc
     refine ⟨h, fun C w _ v hv => .plain ?_ trivial⟩
     cases hv with
     | row _ b c n hρ => exact .row _ b c n (by rw [cut_alive ha]; exact hρ)
     | rown _ hρ => exact .rown _ (by rw [cut_alive ha]; exact hρ)
    ·exact h.elim
   ·exact h.elim
 | .lsl i n s, a, k, h => by
   unfold leA at h
   split at h
   ·split at h
    ·rename_i hc
     simp only [Bool.and_eq_true, decide_eq_true_eq] at hc
     obtain ⟨⟨rfl, rfl, rfl⟩, ha⟩ := hc
     refine ⟨h, fun C w _ v hv => .plain ?_ trivial⟩
     cases hv with | lsl _ _ _ b c m hρ => exact .lsl _ _ _ b c m (by rw [cut_alive ha]; exact hρ)
    ·exact h.elim
   ·exact h.elim
 | .slc n sz el, a, k, h => by
   unfold leA at h
   split at h
   ·split at h
    ·rename_i hc
     have hc := of_decide_eq_true hc
     subst hc
     exact ⟨h.2.2, fun C w _ v hv => .plain (slc_imp (_lo := lo) h.1 h.2.1 (hv.change (cut_I lo hp) rfl)) trivial⟩
    ·exact h.elim
   ·rename_i i
    split at h
    ·rename_i e sz' n' el' hb
     split at h
     ·rename_i hc
      simp only [Bool.and_eq_true, decide_eq_true_eq] at hc
      obtain ⟨rfl, hg⟩ := hc
      exact ⟨h.2.2, fun C w hH v hv => .plain (slc_imp (_lo := lo) h.1 h.2.1 (row_imp hH hb hg hv)) trivial⟩
     ·exact h.elim
    ·exact h.elim
   ·rename_i cap
    refine ⟨h.2, fun C w _ v hv => .plain ?_ trivial⟩
    have h0 : n.val = 0 := h.1
    cases hv
    have := Rel.slc (C := C.cut lo hp) (w := w) n sz el none cap (fun _ => []) (by rw [h0]; exact Nat.zero_le _) (fun h => by omega) (fun k hk => by omega) (fun k hk => by omega) (fun k hk => by omega)
    rw [h0] at this
    exact this
   ·exact h.elim
 | .agg m, a, k, h => by
   unfold leA at h
   split at h
   ·obtain ⟨h1, h2⟩ := leL_sat h
    refine ⟨h1, fun C w hH v hv => .plain ?_ trivial⟩
    cases hv with | agg _ vs hv => exact .agg _ vs ((h2 C w hH).2 vs hv)
   ·exact h.elim
 | .tup m, a, k, h => by
   unfold leA at h
   split at h
   ·obtain ⟨h1, h2⟩ := leL_sat h
    refine ⟨h1, fun C w hH v hv => .plain ?_ trivial⟩
    cases hv with | tup _ vs hv => exact .tup _ vs ((h2 C w hH).2 vs hv)
   ·exact h.elim
 | .xp l, a, k, h => by
   unfold leA at h
   split at h
   ·exact h.elim
   ·rename_i ho
    split at h
    ·rename_i m
     obtain ⟨h1, h2⟩ := leL_sat h
     refine ⟨h1, fun C w hH v hv => .plain ?_ trivial⟩
     have hle := (h2 C w hH).1
     cases hv with
     | xp _ ad vs hr hI hc hn =>
       refine .xp l ad vs ((h2 C w hH).2 vs hr) (fun hl => .inl (hI ?_)) (fun j hj => hc j (by omega)) ho
       rintro rfl
       exact hl (List.eq_nil_of_length_eq_zero (by simpa using hle.symm))
    ·rename_i i o
     split at h
     ·rename_i t m hb
      split at h
      ·rename_i hg
       obtain ⟨h1, h2⟩ := leL_sat h
       refine ⟨h1, fun C w hH v hv => .plain ?_ trivial⟩
       obtain ⟨hle, h3⟩ := h2 C w hH
       cases hv with
       | own _ _ b c n hρ =>
         have hl := hH.live _ _ hρ
         rw [hb] at hl
         obtain ⟨vs, hr, hh⟩ := hl
         rw [dropL_eq] at h3 hle
         refine .xp l _ (vs.drop o) (h3 _ (hr.drop o)) (fun _ => .inr ⟨i, c, n, hg, hρ⟩) (fun j hj => ?_) ho
         rw [cell_add hh]; simp [List.getElem?_drop]
      ·exact h.elim
     ·exact h.elim
    ·exact h.elim
 | .v x, a, k, h => by
   unfold leA at h
   refine ⟨h.2, fun C w _ v hv => .plain ?_ trivial⟩
   rw [show a = .v x from h.1] at hv
   exact hv.change (cut_I lo hp) rfl
 | .fn f l m, a, k, h => by
   unfold leA at h
   split at h
   ·rename_i g l' m'
    split at h
    ·rename_i ho
     refine ⟨h.2, fun C w _ v hv => .plain ?_ trivial⟩
     simp only [Bool.or_eq_false_iff] at ho
     rw [show AV.fn g l' m' = .fn f l m from h.1] at hv
     exact hv.change (cut_I lo hp) (by simp [ownIn, ho.1.1.1, ho.1.1.2])
    ·split at h
     ·rename_i hg
      have hg : g = f := by
       unfold fnEq at hg
       split at hg
       ·rw [Nat.eq_of_beq_eq_true hg]
       ·cases hg
      subst hg
      obtain ⟨h1, h2⟩ := leL_sat h
      obtain ⟨h3, h4⟩ := leL_sat h1
      refine ⟨h3, fun C w hH v hv => .plain ?_ trivial⟩
      cases hv with | fn _ _ _ vs ws q1 q2 => exact .fn _ _ _ vs ws ((h2 C w hH).2 vs q1) ((h4 C w hH).2 ws q2)
     ·exact h.elim
   ·exact h.elim
 | .gd _ _, a, k, h => by unfold leA at h; exact h.elim
 | .mp i, a, k, h => by
   unfold leA at h
   split at h
   ·split at h
    ·rename_i j hc
     simp only [Bool.and_eq_true, decide_eq_true_eq] at hc
     obtain ⟨rfl, ha⟩ := hc
     refine ⟨h, fun C w _ v hv => .plain ?_ trivial⟩
     cases hv with | mp _ b c n hρ => exact .mp _ b c n (by rw [cut_alive ha]; exact hρ)
    ·exact h.elim
   ·exact h.elim
 | .pa n sz el, a, k, h => by
   unfold leA at h
   split at h
   ·rename_i n' sz' el'
    split at h
    ·rename_i hc
     have hc : sz = sz' := by simpa using hc
     subst hc
     have h0 : n' = n := h.1
     subst h0
     have h2 : ∀ j, j < n' -> nrmL (el' j) = nrmL (el j) := h.2.1
     refine ⟨h.2.2, fun C w _ v hv => .plain ?_ trivial⟩
     have hv := hv.change (cut_I lo hp) rfl
     cases hv with
     | pa _ _ _ ad vs hI hc hr hl hn => exact .pa n' sz el ad vs hI hc (fun k hk => relL_nrmEq (h2 k hk) (hr k hk)) hl (fun k hk => okL_nrmEq (h2 k hk) (hn k hk))
    ·exact h.elim
   ·exact h.elim
theorem leL_sat {R : AV -> Heap -> Prop} {lo : Nat} {src : Heap} : ∀ {m l : List AV} {k : VC}, (leL lo src hp l m k).sat R -> k.sat R /\ ∀ (C : Cx) (w : World), HR C src w -> ImpL C lo hp w l m
 | [], l, k, h => by
   unfold leL at h
   split at h
   ·exact ⟨h, fun C w _ => ⟨rfl, fun vs hv => by cases hv; exact .nil⟩⟩
   ·exact h.elim
 | b :: m, l, k, h => by
   unfold leL at h
   split at h
   ·obtain ⟨h1, h2⟩ := leA_sat h
    obtain ⟨h3, h4⟩ := leL_sat h1
    exact ⟨h3, fun C w hH => ⟨by simp [(h4 C w hH).1], fun vs hv => by
     cases hv with | cons _ _ v vs h5 h6 => exact .cons _ _ _ _ (h2 C w hH v h5).1 ((h4 C w hH).2 vs h6)⟩⟩
   ·exact h.elim
end
theorem leL_frame {R : AV -> Heap -> Prop} {lo : Nat} {src : Heap} : ∀ {m l : List AV} {k : VC}, (leL lo src hp l m k).sat R -> ∀ (C : Cx) (w : World), HR C src w -> ∀ (t : Nat) (v : Value), Rel C w (getL l t) v -> RelG [] (C.cut lo hp) w (getL m t) v
 | [], l, k, h, C, w, hH, t, v, hv => by
   unfold leL at h
   split at h
   ·refine .plain ?_ trivial
    cases hv with | tup _ vs hv => cases hv; exact .tup _ _ .nil
   ·exact h.elim
 | b :: m, l, k, h, C, w, hH, t, v, hv => by
   unfold leL at h
   split at h
   ·obtain ⟨h1, h2⟩ := leA_sat h
    cases t with
    | zero => exact h2 C w hH v hv
    | succ t => exact leL_frame h1 C w hH t v hv
   ·exact h.elim
theorem leB_sat {R : AV -> Heap -> Prop} {lo n : Nat} {src : Heap} {a b : Blk} {k : VC} (h : (leB lo n src hp a b k).sat R) :
  k.sat R /\ ((b = .dead /\ (lo <= n \/ a = .dead)) \/ ∀ (C : Cx) (w : World) (p : Pl), HR C src w -> BRel C w p a -> BRel (C.cut lo hp) w p b) := by
 unfold leB at h
 split at h
 ·split at h
  ·rename_i hl; exact ⟨h, .inl ⟨rfl, .inl (Nat.le_of_ble_eq_true hl)⟩⟩
  ·split at h
   ·exact ⟨h, .inl ⟨rfl, .inr rfl⟩⟩
   ·exact h.elim
 ·rename_i t m
  split at h
  ·rename_i t' l
   split at h
   ·rename_i ht
    have ht : t = t' := by simpa using ht
    subst ht
    obtain ⟨h1, h2⟩ := leL_sat h
    refine ⟨h1, .inr fun C w p hH hb => ?_⟩
    match p, hb with
    | .at q c m, ⟨vs, hr, hh⟩ => exact ⟨vs, (h2 C w hH).2 vs hr, hh⟩
    | .nil, hb => exact hb.elim
   ·exact h.elim
  ·exact h.elim
 ·rename_i e sz n' el
  split at h
  ·rename_i e' sz' n2 el'
   split at h
   ·rename_i hc
    have hc : e = e' /\ sz = sz' := by simpa using hc
    obtain ⟨rfl, rfl⟩ := hc
    refine ⟨h.2.2, .inr fun C w p hH hb => ?_⟩
    match p, hb with
    | .at q c m, ⟨h1, h2, h3, cs, vs, hh, hcs, hcell⟩ =>
      have hn : n2.val = n'.val := h.1
      have hel : ∀ j, j < n'.val -> nrmL (el' j) = nrmL (el j) := h.2.1
      refine ⟨by rw [<- hn]; exact h1, h2, h3, cs, vs, hh, hcs, fun k hk => ?_⟩
      have he := hel k (by rw [<- hn, h1]; exact hk)
      exact ⟨relL_nrmEq he ((hcell k hk).1.change (cut_I lo hp) (own_ok (hcell k hk).2.1)), okL_nrmEq he (hcell k hk).2.1, (hcell k hk).2.2⟩
    | .nil, ⟨h1, h2⟩ => exact ⟨by rw [<- show n2.val = n'.val from h.1]; exact h1, h2⟩
   ·exact h.elim
  ·exact h.elim
 ·rename_i t wd n' f
  split at h
  ·rename_i t' wd' n2 f'
   split at h
   ·rename_i hc
    have hc : t = t' /\ wd = wd' := by simpa using hc
    obtain ⟨rfl, rfl⟩ := hc
    refine ⟨h.2.2, .inr fun C w p hH hb => ?_⟩
    match p, hb with
    | .at q c m, ⟨h1, h2, h3, cs, hh, hcs, hcell⟩ =>
      have hn : n2.val = n'.val := h.1
      have hel : ∀ k, k < n'.val -> ∀ j, j < wd -> nrm (f' k j) = nrm (f k j) := h.2.1
      refine ⟨by rw [<- hn]; exact h1, h2, h3, cs, hh, hcs, fun k hk j hj => ?_⟩
      obtain ⟨ho, v, hv, hr⟩ := hcell k hk j hj
      have he := hel k (by rw [<- hn, h1]; exact hk) j hj
      refine ⟨by rw [<- okC_nrm, <- he, okC_nrm]; exact ho, v, hv, nrm_rel (he ▸ rel_nrm (hr.change (cut_I lo hp) (own_okC ho)))⟩
    | .nil, hb => exact hb.elim
   ·exact h.elim
  ·exact h.elim
 ·rename_i e e1 sz n' fz ln el ho
  split at h
  ·rename_i e' e1' sz' n2 fz' ln' el' ho'
   have key : ∀ (q : Option Nat), n2.val = n'.val -> RowsEq (n'.val, q, (fz', ln', el'), (fz, ln, el)) -> (∀ k, ¬ holeB ho k -> q ≠ some k /\ ¬ holeB ho' k) ->
     (∀ k g, ho = some (k, some g) -> ho' = some (k, some g) /\ aliveB hp g = true) -> ∀ (C : Cx) (w : World) (p : Pl), HR C src w -> BRel C w p (.rows e e1 sz n2 fz' ln' el' ho') -> BRel (C.cut lo hp) w p (.rows e e1 sz n' fz ln el ho) := by
    intro q hn hR hq hg C w p hH hb
    match p, hb with
    | .at q c m, ⟨h1, h2, h3, cs, hh, hcs, hcell⟩ =>
      refine ⟨by rw [<- hn]; exact h1, h2, h3, cs, hh, hcs, fun k hk => ?_⟩
      obtain ⟨v, hv, hr, hs⟩ := hcell k hk
      refine ⟨v, hv, fun g hgk => ?_, fun hno => ?_⟩
      ·obtain ⟨g1, g2⟩ := hg k g hgk
       cases hr g g1 with
       | row _ b c n hρ => exact .row _ b c n (by rw [cut_alive g2]; exact hρ)
       | rown _ hρ => exact .rown _ (by rw [cut_alive g2]; exact hρ)
      ·obtain ⟨n1, n2'⟩ := hq k hno
       obtain ⟨r1, r2, r3⟩ := hR k (by rw [<- hn, h1]; exact hk) n1
       have r3 : ∀ j, j < ln k -> nrmL (el' k j) = nrmL (el k j) := r3
       have r1 : fz' k = fz k := r1
       have r2 : ln' k = ln k := r2
       refine ⟨fun hf => ?_, fun hf => ?_⟩
       ·exact slc_imp (_lo := lo) (show (LN.sym (ln' k)).val = (LN.sym (ln k)).val from r2) r3 (((hs n2').1 (r1.trans hf)).change (cut_I lo hp) rfl)
       ·rcases (hs n2').2 (r1.trans hf) with ⟨z1, z2⟩ | ⟨b', c', cs', vs, z1, z2, z3, z4, z5, z6, z7⟩
        ·exact .inl ⟨by rw [<- r2]; exact z1, z2⟩
        ·rw [r2] at z1 z3 z7
         exact .inr ⟨b', c', cs', vs, z1, z2, z3, z4, z5, z6, fun j hj => ⟨relL_nrmEq (r3 j hj) ((z7 j hj).1.change (cut_I lo hp) (own_ok (z7 j hj).2.1)), okL_nrmEq (r3 j hj) (z7 j hj).2.1, (z7 j hj).2.2⟩⟩
    | .nil, hb => exact hb.elim
   split at h
   ·rename_i hc
    have hc : e = e' /\ e1 = e1' /\ sz = sz' := by simpa using hc
    obtain ⟨rfl, rfl, rfl⟩ := hc
    exact ⟨h.2.2, .inr (key none h.1 h.2.1 (fun k _ => ⟨by simp, fun ⟨x, hx⟩ => by cases hx⟩) (fun k g hg => by cases hg))⟩
   ·rename_i q oh q' oh' hc
    have hc : e = e' /\ e1 = e1' /\ sz = sz' := by simpa using hc
    obtain ⟨rfl, rfl, rfl⟩ := hc
    have hole : ∀ (q : Nat) (x y : Option Nat), ∀ k, ¬ holeB (some (q, x)) k -> some q ≠ some k /\ ¬ holeB (some (q, y)) k := fun q x y k hk => by
     have hne : q ≠ k := fun e => hk ⟨x, by rw [e]⟩
     exact ⟨fun e => hne (by injection e), fun ⟨z, hz⟩ => hne (by injection hz with hz; injection hz)⟩
    split at h
    ·obtain ⟨h1, h2, h3, h4⟩ := h
     have h2 : q' = q := h2
     subst h2
     exact ⟨h4, .inr (key (some q') h1 h3 (hole _ _ _) (fun k g hg => by injection hg with hg; injection hg with _ hg; cases hg))⟩
    ·rename_i g g'
     split at h
     ·rename_i hgg
      simp only [Bool.and_eq_true] at hgg
      obtain ⟨h1, h2, h3, h4⟩ := h
      have h2 : q' = q := h2
      subst h2
      obtain rfl := Nat.eq_of_beq_eq_true hgg.1
      exact ⟨h4, .inr (key (some q') h1 h3 (hole _ _ _) (fun k g hg => by injection hg with hg; injection hg with e1 e2; injection e2 with e2; subst e1 e2; exact ⟨rfl, hgg.2⟩))⟩
     ·exact h.elim
    ·exact h.elim
   ·exact h.elim
  ·exact h.elim
 ·rename_i n' sz el
  split at h
  ·rename_i n2 sz' el'
   split at h
   ·rename_i hc
    have hc : sz = sz' := by simpa using hc
    subst hc
    refine ⟨h.2.2, .inr fun C w p hH hb => ?_⟩
    match p, hb with
    | .at q c m, ⟨es, ck, vs, hh, hs, hcell⟩ =>
      have hn : n2.val = n'.val := h.1
      have hel : ∀ j, j < n'.val -> nrmL (el' j) = nrmL (el j) := h.2.1
      refine ⟨es, ck, vs, hh, by rw [<- hn]; exact hs, fun k hk => ?_⟩
      have he := hel k hk
      have hk2 : k < n2.val := by rw [hn]; exact hk
      exact ⟨relL_nrmEq he ((hcell k hk2).1.change (cut_I lo hp) (own_ok (hcell k hk2).2.1)), okL_nrmEq he (hcell k hk2).2.1, (hcell k hk2).2.2⟩
    | .nil, hb => exact hb.elim
   ·exact h.elim
  ·exact h.elim
theorem leH_len {R : AV -> Heap -> Prop} {lo : Nat} {src : Heap} : ∀ {l m : Heap} {n : Nat} {k : VC}, (leH lo src hp n l m k).sat R -> lo <= n + m.length \/ l.length <= m.length
 | [], [], n, k, h => .inr (Nat.le_refl _)
 | [], _ :: _, n, k, h => h.elim
 | a :: l, [], n, k, h => by
   simp only [leH] at h
   split at h
   ·rename_i hl; exact .inl (by simpa using Nat.le_of_ble_eq_true hl)
   ·exact h.elim
 | a :: l, b :: m, n, k, h => by
   simp only [leH] at h
   rcases leH_len (leB_sat h).1 with h3 | h3
   ·exact .inl (by simp; omega)
   ·exact .inr (by simp; omega)
theorem leH_get {R : AV -> Heap -> Prop} {lo : Nat} {src : Heap} : ∀ {l m : Heap} {n : Nat} {k : VC}, (leH lo src hp n l m k).sat R -> ∀ i, (getB m i = .dead /\ (lo <= n + i \/ getB l i = .dead)) \/ ∀ (C : Cx) (w : World) (p : Pl), HR C src w -> BRel C w p (getB l i) -> BRel (C.cut lo hp) w p (getB m i)
 | [], [], n, k, h, i => .inl ⟨rfl, .inr rfl⟩
 | [], _ :: _, n, k, h, i => h.elim
 | a :: l, [], n, k, h, i => by
   simp only [leH] at h
   split at h
   ·rename_i hl; exact .inl ⟨rfl, .inl (by have := Nat.le_of_ble_eq_true hl; omega)⟩
   ·exact h.elim
 | a :: l, b :: m, n, k, h, i => by
   simp only [leH] at h
   obtain ⟨h1, h2⟩ := leB_sat h
   cases i with
   | zero => exact h2
   | succ i =>
     have := leH_get h1 i
     rcases this with ⟨h3, h4⟩ | h3
     ·exact .inl ⟨h3, h4.imp (fun h => by omega) id⟩
     ·exact .inr h3
theorem leS_sat {R : AV -> Heap -> Prop} {lo : Nat} {fr : List AV} {s : AS} (h : (leS lo fr hp s).sat R) (hH : HR C hp w) (hlo : lo <= hp.length) :
  HR (C.cut lo s.hp) s.hp w /\ (∀ tm, FR [] C w fr tm -> FR [] (C.cut lo s.hp) w s.fr tm) /\ lo <= s.hp.length /\ Tr lo C w (C.cut lo s.hp) w := by
 unfold leS at h
 obtain ⟨h1, h2⟩ := leL_sat h
 have hcut : ∀ i p, (C.cut lo s.hp).ρ i = some p -> C.ρ i = some p /\ goneB lo s.hp i = false := fun i p hp' => by
  simp only [Cx.cut] at hp'
  split at hp'
  ·rename_i hc
   refine ⟨hp', ?_⟩
   unfold goneB
   rcases hc with hc | hc
   ·have : Nat.ble lo i = false := by
     rcases hb : Nat.ble lo i with _ | _
     ·rfl
     ·have := Nat.le_of_ble_eq_true hb; omega
    rw [this]; rfl
   ·rw [hc]; simp
  ·cases hp'
 refine ⟨⟨fun i p hi => ?_, fun i j b c n b' c' n' h h' hne => hH.inj _ _ _ _ _ _ _ _ (hcut _ _ h).1 (hcut _ _ h').1 hne, fun i b c n h => ⟨(hH.fresh _ _ _ _ (hcut _ _ h).1).1, fun hI => ?_⟩, fun b hb => ?_, fun b x hb => ?_⟩,
  fun tm hF => ⟨by rw [<- (h2 C w hH).1]; exact hF.len, fun t => leL_frame h C w hH t _ (hF.get t).1⟩, ?_, ?_⟩
 ·have hl := hH.live i p (hcut _ _ hi).1
  rcases leH_get h1 i with ⟨h3, h4⟩ | h3
  ·exfalso
   rcases h4 with h4 | h4
   ·simp only [Cx.cut] at hi
    rw [if_neg] at hi
    ·cases hi
    ·rintro (h5 | h5)
     ·omega
     ·unfold aliveB at h5; rw [h3] at h5; cases h5
   ·rw [h4] at hl; cases p <;> exact hl
  ·exact h3 C w p hH hl
 ·rcases hI with hI | ⟨j, c', n', hg, hj⟩
  ·exact (hH.fresh _ _ _ _ (hcut _ _ h).1).2 hI
  ·by_cases hij : i = j
   ·subst hij; rw [(hcut _ _ h).2] at hg; cases hg
   ·exact hH.inj _ _ _ _ _ _ _ _ (hcut _ _ h).1 hj hij rfl
 ·rcases hb with hb | ⟨j, c', n', hg, hj⟩
  ·exact hH.ilt b hb
  ·exact (hH.fresh _ _ _ _ hj).1
 ·obtain ⟨s1, s2, s3, s4⟩ := hH.sub b x hb
  refine ⟨s1, fun hI => ?_, fun i b' c n h => s3 i b' c n (hcut _ _ h).1, s4⟩
  rcases hI with hI | ⟨j, c', n', hg, hj⟩
  ·exact s2 hI
  ·exact s3 _ _ _ _ hj rfl
 ·rcases leH_len h1 with h3 | h3
  ·simpa using h3
  ·omega
 ·refine ⟨rfl, rfl, rfl, Nat.le_refl _, fun _ _ _ _ => rfl, fun _ h => .inl h, fun b hb => ?_, fun i hi => by simp [Cx.cut, hi], fun i b c n hi h => .inl ⟨i, c, n, hi, (hcut _ _ h).1⟩, fun b x hb => .inl ⟨x, hb⟩⟩
  rcases hb with hb | ⟨j, c', n', hg, hj⟩
  ·exact .inl hb
  ·refine .inr (.inr ⟨j, c', n', ?_, hj⟩)
   unfold goneB at hg
   simp only [Bool.and_eq_true] at hg
   exact Nat.le_of_ble_eq_true hg.1
end
end Abs
end Go.Proofs.Ytdfdjlijghjdaaa

namespace Go.Proofs.Ytdfdjlijghjdaaa
namespace Abs
open Go Go.RowKit
section
variable {P : Program} {S : Sums} {C C' C1 C2 : Cx} {w w' w1 w2 : World} {H hp : Heap}
def keepO : Obj -> Bool
 | .cells _ _ _ => true
 | .map _ _ => true
 | _ => false
structure CB (w w' : World) : Prop where
 size : w.heap.size <= w'.heap.size
 same : ∀ (k : Nat) (o : Obj), w.heap[k]? = some o -> keepO o = true -> w'.heap[k]? = some o
theorem CB.refl (w : World) : CB w w := ⟨Nat.le_refl _, fun _ _ h _ => h⟩
theorem CB.trans (h : CB w w1) (k : CB w1 w2) : CB w w2 := ⟨Nat.le_trans h.size k.size, fun i o hi ho => k.same i o (h.same i o hi ho) ho⟩
theorem Quiet.cb (h : Quiet w w') : CB w w' := ⟨h.size, fun k _ hk _ => (h.keep k (Array.getElem?_eq_some_iff.1 hk).1).trans hk⟩
theorem Quiet.refl (w : World) : Quiet w w := ⟨rfl, rfl, rfl, Nat.le_refl _, fun _ _ => rfl⟩
theorem Quiet.trans (h : Quiet w w1) (k : Quiet w1 w2) : Quiet w w2 := ⟨k.os.trans h.os, k.tape.trans h.tape, k.output.trans h.output, Nat.le_trans h.size k.size, fun i hi => (k.keep i (Nat.lt_of_lt_of_le hi h.size)).trans (h.keep i hi)⟩
theorem Quiet.alloc (w : World) (o : Obj) : Quiet w (w.alloc o) := ⟨rfl, rfl, rfl, by simp, fun k hk => Below.heap_alloc w o k hk⟩
theorem CB.putObj {l : Nat} {o : Obj} (o' : Obj) (hl : w.heap[l]? = some o) (ho : keepO o = false) : CB w (w.putObj l o') :=
 ⟨by simp, fun k ok hk hc => by
  have hne : k ≠ l := fun e => by subst e; rw [hl] at hk; injection hk with hk; subst hk; rw [ho] at hc; cases hc
  exact (World.putObj_heap_other hne).trans hk⟩
theorem CB.cell (h : CB w w') {a : Addr} {v : Value} (hc : w.cell? a = some v) : w'.cell? a = some v := by
 obtain ⟨o, ho, hoc⟩ := cells_of_cell hc
 exact (cell_of_blk ((h.same _ o ho (by cases o <;> first | rfl | (cases hoc))).trans ho.symm)).trans hc
theorem Rel.cb (hx : CB w w') {a : AV} {v : Value} (h : Rel C w a v) : Rel C w' a v := by
 refine Rel.rec (C := C) (w := w) (motive_1 := fun a v _ => Rel C w' a v) (motive_2 := fun l vs _ => RelL C w' l vs)
  ?_ ?_ ?_ ?_ ?_ ?_ ?_ ?_ ?_ ?_ ?_ ?_ ?_ ?_ ?_ ?_ ?_ ?_ ?_ ?_ ?_ h
 ·exact fun v => .top v
 ·exact fun k a v => .gd k a v
 ·exact fun k n => .li k n
 ·exact fun k n => .si k n
 ·exact fun b => .lb b
 ·exact fun b => .sb b
 ·exact fun x => .v x
 ·exact fun l vs _ h => .agg l vs h
 ·exact fun l vs _ h => .tup l vs h
 ·exact fun i off b c n h => .own i off b c n h
 ·exact fun i sz k off b c n h hk => .elt i sz k off b c n h hk
 ·exact fun i b c n h => .row i b c n h
 ·exact fun i n sz b c m h => .lsl i n sz b c m h
 ·exact fun i h => .rown i h
 ·intro n sz el A cap vs hcap hA _ hl hn ih
  refine .slc n sz el A cap vs hcap (fun h0 => ?_) ih hl hn
  obtain ⟨ad, rfl, hI, hc⟩ := hA h0
  refine ⟨ad, rfl, hI, fun k hk j hj => ?_⟩
  have h1 := hc k hk j hj
  have h2 : j < (vs k).length := by rw [hl k hk]; exact hj
  rw [List.getElem?_eq_getElem h2] at h1 ⊢
  exact hx.cell h1
 ·intro l ad vs hr0 hI hc hn ih
  refine .xp l ad vs ih hI (fun j hj => ?_) hn
  have h1 := hc j hj
  have h2 : j < vs.length := by rw [<- hr0.len]; exact hj
  rw [List.getElem?_eq_getElem h2] at h1 ⊢
  exact hx.cell h1
 ·exact fun f l m vs ws _ _ h h' => .fn f l m vs ws h h'
 ·intro n sz el ad vs hI hc _ hl hn ih
  refine .pa n sz el ad vs hI (fun a e k hk j hj => ?_) ih hl hn
  have h1 := hc a e k hk j hj
  have h2 : j < (vs k).length := by rw [hl k hk]; exact hj
  rw [List.getElem?_eq_getElem h2] at h1 ⊢
  exact hx.cell h1
 ·exact fun i b c n h => .mp i b c n h
 ·exact .nil
 ·exact fun a l v vs _ _ h h' => .cons a l v vs h h'
theorem RelL.cb (hx : CB w w') : ∀ {l : List AV} {vs : List Value}, RelL C w l vs -> RelL C w' l vs
 | _, _, .nil => .nil
 | _, _, .cons a l v vs h h' => .cons a l v vs (Rel.cb hx h) (RelL.cb hx h')
theorem BRel.cb (hx : CB w w') {p : Pl} {b : Blk} (h : BRel C w p b) : BRel C w' p b := by
 match p, b, h with
 | .at q c m, .cells t l, h =>
   obtain ⟨vs, hr, hh⟩ := h
   exact ⟨vs, hr.cb hx, hx.same _ _ hh rfl⟩
 | .at q c m, .row e sz k el, h =>
   obtain ⟨h1, h2, h3, cs, vs, hh, hs, hc⟩ := h
   exact ⟨h1, h2, h3, cs, vs, hx.same _ _ hh rfl, hs, fun k hk => ⟨(hc k hk).1.cb hx, (hc k hk).2⟩⟩
 | .nil, .row _ _ _ _, h => exact h
 | .at q c m, .tab k sz el, h =>
   obtain ⟨es, ck, vs, hh, hs, hc⟩ := h
   exact ⟨es, ck, vs, hx.same _ _ hh rfl, hs, fun k hk => ⟨(hc k hk).1.cb hx, (hc k hk).2⟩⟩
 | .at q c m, .mat t wd k f, h =>
   obtain ⟨h1, h2, h3, cs, hh, hs, hc⟩ := h
   exact ⟨h1, h2, h3, cs, hx.same _ _ hh rfl, hs, fun k hk j hj => by
    obtain ⟨ho, v, hv, hr⟩ := hc k hk j hj
    exact ⟨ho, v, hv, hr.cb hx⟩⟩
 | .at q c m, .rows e e' sz k fz ln el ho, h =>
   obtain ⟨h1, h2, h3, cs, hh, hs, hc⟩ := h
   refine ⟨h1, h2, h3, cs, hx.same _ _ hh rfl, hs, fun k hk => ?_⟩
   obtain ⟨v, hv, hr, hn⟩ := hc k hk
   refine ⟨v, hv, fun g hg => (hr g hg).cb hx, fun hno => ⟨fun hf => ((hn hno).1 hf).cb hx, fun hf => ?_⟩⟩
   rcases (hn hno).2 hf with h | ⟨b', c', cs', vs, z1, z2, z3, z4, z5, z6, z7⟩
   ·exact .inl h
   ·exact .inr ⟨b', c', cs', vs, z1, z2, z3, z4, hx.same _ _ z5 rfl, z6, fun j hj => ⟨(z7 j hj).1.cb hx, (z7 j hj).2⟩⟩
theorem CellB.cb (hx : CB w w') {b : Nat} (h : CellB w b) : CellB w' b := by
 obtain ⟨cs, t, fz, h1⟩ := h
 exact ⟨cs, t, fz, hx.same _ _ h1 rfl⟩
theorem HR.cb (hx : CB w w') (h : HR C hp w) : HR C hp w' :=
 ⟨fun i p hi => (h.live i p hi).cb hx, h.inj, fun i b c n hi => ⟨Nat.lt_of_lt_of_le (h.fresh i b c n hi).1 hx.size, (h.fresh i b c n hi).2⟩, fun b hb => Nat.lt_of_lt_of_le (h.ilt b hb) hx.size, fun b x hb => ⟨Nat.lt_of_lt_of_le (h.sub b x hb).1 hx.size, (h.sub b x hb).2.1, (h.sub b x hb).2.2.1, (h.sub b x hb).2.2.2.cb hx⟩⟩
theorem FR.cb (hx : CB w w') {fr : List AV} {tm : Array Value} (h : FR [] C w fr tm) : FR [] C w' fr tm :=
 ⟨h.len, fun t => ⟨(h.get t).1.cb hx, fun k b e => by obtain ⟨x, h1, _⟩ := (h.get t).2 k b e; simp at h1⟩⟩
theorem HR.others (h : HR C hp w) {k : Nat} {o : Obj} (hk : w.heap[k]? = some o) (ho : keepO o = false) {i c n : Nat} : C.ρ i ≠ some (.at k c n) := fun hi => by
 have hl := h.live _ _ hi
 cases hb : getB hp i with
 | dead => rw [hb] at hl; exact hl
 | cells t l =>
   rw [hb] at hl
   obtain ⟨vs, _, hh⟩ := hl
   rw [hk] at hh; injection hh with hh; subst hh; cases ho
 | row e sz m el =>
   rw [hb] at hl
   obtain ⟨_, _, _, cs, vs, hh, _⟩ := hl
   rw [hk] at hh; injection hh with hh; subst hh; cases ho
 | mat t wd m f =>
   rw [hb] at hl
   obtain ⟨_, _, _, cs, hh, _⟩ := hl
   rw [hk] at hh; injection hh with hh; subst hh; cases ho
 | rows e e' sz m fz ln el hol =>
   rw [hb] at hl
   obtain ⟨_, _, _, cs, hh, _⟩ := hl
   rw [hk] at hh; injection hh with hh; subst hh; cases ho
 | tab m sz el =>
   rw [hb] at hl
   obtain ⟨es, ck, vs, hh, _⟩ := hl
   rw [hk] at hh; injection hh with hh; subst hh; cases ho
theorem HR.noSub (h : HR C hp w) {k : Nat} {o : Obj} (hk : w.heap[k]? = some o) (ho : keepO o = false) : C.O k = none := by
 cases hc : C.O k with
 | none => rfl
 | some x =>
   obtain ⟨_, _, _, cs, t, fz, h1⟩ := h.sub k x hc
   rw [hk] at h1; injection h1 with h1; subst h1; cases ho
theorem HR.immO (h : HR C hp w) {k : Nat} (hk : C.I k) : C.O k = none := by
 cases hc : C.O k with
 | none => rfl
 | some x => exact ((h.sub k x hc).2.1 hk).elim
theorem Tr.others {lo : Nat} (t : Tr lo C w C' w') (h : HR C hp w) {k : Nat} {o : Obj} (hk : w.heap[k]? = some o) (ho : keepO o = false) : w'.heap[k]? = some o :=
 (t.keep k (Array.getElem?_eq_some_iff.1 hk).1 (fun i b c n hi e => by subst e; exact h.others hk ho hi) (h.noSub hk ho)).trans hk
theorem Tr.imms {lo : Nat} (t : Tr lo C w C' w') (h : HR C hp w) {b : Nat} (hb : C.I b) : w'.heap[b]? = w.heap[b]? :=
 t.keep b (h.ilt b hb) (fun i q c n hi e => by subst e; exact (h.fresh i _ c n hi).2 hb) (h.immO hb)
theorem Tr.later {lo : Nat} (t : Tr lo C w C1 w1) (ho : w2.os = w1.os) (ht : w2.tape = w1.tape) (hu : w2.output = w1.output) (hs : w1.heap.size <= w2.heap.size) (hk : ∀ k, k < w.heap.size -> w2.heap[k]? = w1.heap[k]?) : Tr lo C w C1 w2 :=
 ⟨ho.trans t.os, ht.trans t.tape, hu.trans t.output, Nat.le_trans t.size hs, fun k hlt hn ho => (hk k hlt).trans (t.keep k hlt hn ho), t.imm, t.imm', t.rho, t.own, t.sub⟩
theorem Tr.quiet {lo : Nat} (t : Tr lo C w C1 w1) (q : Quiet w1 w2) : Tr lo C w C1 w2 :=
 t.later q.os q.tape q.output q.size fun k hk => q.keep k (Nat.lt_of_lt_of_le hk t.size)
theorem Tr.putObj {lo l : Nat} (t : Tr lo C w C1 w1) (hl : w.heap.size <= l) (o : Obj) : Tr lo C w C1 (w1.putObj l o) :=
 t.later rfl rfl rfl (by simp) fun _ _ => World.putObj_heap_other (by omega)
def RO (ro : Option Nat) (w : World) : Prop := ∀ l, ro = some l -> ∃ r, w.heap[l]? = some (.loop r)
theorem RO.tr {ro : Option Nat} {lo : Nat} (h : RO ro w) (t : Tr lo C w C' w') (hH : HR C hp w) : RO ro w' := fun l hl => by
 obtain ⟨r, hr⟩ := h l hl
 exact ⟨r, t.others hH hr rfl⟩
def mkOf (b : Nat) : Deferred := { target := .collected b, args := #[] }
structure MarksOK (n : Nat) (w : World) (ms : List Nat) : Prop where
 nd : ms.Nodup
 at_ : ∀ b ∈ ms, n <= b /\ w.heap[b]? = some (.deferred (some []))
structure Kept (W : Nat) (a : Act) (w : World) (a' : Act) (w' : World) : Prop where
 sz : a'.tmps.size = a.tmps.size
 tm : ∀ t, Nat.testBit W t = false -> a'.tmps.getD t undef = a.tmps.getD t undef
 dfs : ∃ ms : List Nat, a'.defers = ms.map mkOf ++ a.defers /\ MarksOK w.heap.size w' ms
theorem Kept.refl (W : Nat) (a : Act) (w : World) (w' : World) : Kept W a w a w' := ⟨rfl, fun _ _ => rfl, [], rfl, List.nodup_nil, fun b hb => by simp at hb⟩
theorem Kept.trans {W : Nat} {a a1 a2 : Act} (h : Kept W a w a1 w1) (k : Kept W a1 w1 a2 w2) (hs : w.heap.size <= w1.heap.size) (ho : ∀ (i : Nat) (o : Obj), w1.heap[i]? = some o -> keepO o = false -> w2.heap[i]? = some o) : Kept W a w a2 w2 := by
 obtain ⟨m1, e1, n1⟩ := h.dfs
 obtain ⟨m2, e2, n2⟩ := k.dfs
 refine ⟨k.sz.trans h.sz, fun t ht => (k.tm t ht).trans (h.tm t ht), m2 ++ m1, by rw [e2, e1]; simp, ?_, fun b hb => ?_⟩
 ·refine List.nodup_append.2 ⟨n2.nd, n1.nd, fun x hx y hy e => ?_⟩
  subst e
  have h1 := (n2.at_ x hx).1
  have h2 := (Array.getElem?_eq_some_iff.1 (n1.at_ x hy).2).1
  omega
 ·rcases List.mem_append.1 hb with hb | hb
  ·exact ⟨Nat.le_trans hs (n2.at_ b hb).1, (n2.at_ b hb).2⟩
  ·exact ⟨(n1.at_ b hb).1, ho _ _ (n1.at_ b hb).2 rfl⟩
theorem Kept.sub {W W' : Nat} {a a' : Act} (h : Kept W a w a' w') (hs : ∀ t, Nat.testBit W' t = false -> Nat.testBit W t = false) : Kept W' a w a' w' := ⟨h.sz, fun t ht => h.tm t (hs t ht), h.dfs⟩
theorem msk_or {a b t : Nat} (h : Nat.testBit (Nat.lor a b) t = false) : Nat.testBit a t = false /\ Nat.testBit b t = false := by
 have : Nat.testBit (a ||| b) t = false := h
 rw [Nat.testBit_or] at this
 simpa using this
theorem msk_bit (d : Nat) : Nat.testBit (Nat.shiftLeft 1 d) d = true := by
 show Nat.testBit (1 <<< d) d = true
 simp [Nat.testBit_shiftLeft]
theorem msk_l {a b t : Nat} (h : Nat.testBit a t = true) : Nat.testBit (Nat.lor a b) t = true := by
 show Nat.testBit (a ||| b) t = true
 rw [Nat.testBit_or, h]; rfl
theorem msk_r {a b t : Nat} (h : Nat.testBit b t = true) : Nat.testBit (Nat.lor a b) t = true := by
 show Nat.testBit (a ||| b) t = true
 rw [Nat.testBit_or, h, Bool.or_true]
theorem mskO_mem {o : Oper} {d : Nat} (hd : o.dst = some d) : ∀ {ops : List Oper}, o ∈ ops -> Nat.testBit (mskO ops) d = true := by
 intro ops
 induction ops with
 | nil => intro h; cases h
 | cons x l ih =>
   intro hm
   have e : mskO (x :: l) = (match x.dst with | some d => Nat.lor (Nat.shiftLeft 1 d) (mskO l) | none => mskO l) := rfl
   rw [e]
   rcases List.mem_cons.1 hm with rfl | hm
   ·rw [hd]; exact msk_l (msk_bit d)
   ·cases hx : x.dst with
    | none => exact ih hm
    | some d' => exact msk_r (ih hm)
theorem mskP_mem {d : Nat} : ∀ {ps : List Nat}, d ∈ ps -> Nat.testBit (mskP ps) d = true := by
 intro ps
 induction ps with
 | nil => intro h; cases h
 | cons x l ih =>
   intro hm
   have e : mskP (x :: l) = Nat.lor (Nat.shiftLeft 1 x) (mskP l) := rfl
   rw [e]
   rcases List.mem_cons.1 hm with rfl | hm
   ·exact msk_l (msk_bit d)
   ·exact msk_r (ih hm)
def RegKept (W : Nat) (a : Act) (a' : Act) : Prop := a'.tmps.size = a.tmps.size /\ (∀ t, Nat.testBit W t = false -> a'.tmps.getD t undef = a.tmps.getD t undef) /\ a'.defers = a.defers
theorem regKept_put (ops : List Oper) (a : Act) : PutOK ops (RegKept (mskO ops) a) := fun o ho a' v ⟨h0, h1, h2⟩ => by
 refine ⟨?_, fun t ht => ?_, by rw [put_defers, h2]⟩
 ·cases o.dst <;> simpa [Act.put] using h0
 ·rw [put_get, if_neg]
  ·exact h1 t ht
  ·rintro ⟨hd, _⟩
   rw [mskO_mem hd ho] at ht; cases ht
theorem RegKept.kept {W : Nat} {a a' : Act} (h : RegKept W a a') (w w' : World) : Kept W a w a' w' := ⟨h.1, h.2.1, [], by simpa using h.2.2, List.nodup_nil, fun b hb => by simp at hb⟩
theorem topM_eq (m : Nat) : ∀ (l : List AV) (n : Nat) (k : List AV -> VC), ∃ l', topM m l n k = k l' /\ l'.length = l.length /\ ∀ t, getL l' t = (if Nat.testBit m (n + t) = true /\ t < l.length then .top else getL l t)
 | [], n, k => ⟨[], rfl, rfl, fun t => by simp⟩
 | a :: l, n, k => by
   unfold topM
   split
   ·rename_i hb
    obtain ⟨l', h1, h2, h3⟩ := topM_eq m l (n + 1) fun l' => k (.top :: l')
    refine ⟨.top :: l', h1, by simp [h2], fun t => ?_⟩
    cases t with
    | zero => simp [hb, getL_zero]
    | succ t => rw [getL_succ, h3 t, getL_succ, show n + 1 + t = n + (t + 1) by omega]; simp
   ·rename_i hb
    obtain ⟨l', h1, h2, h3⟩ := topM_eq m l (n + 1) fun l' => k (a :: l')
    refine ⟨a :: l', h1, by simp [h2], fun t => ?_⟩
    cases t with
    | zero => simp [hb, getL_zero]
    | succ t => rw [getL_succ, h3 t, getL_succ, show n + 1 + t = n + (t + 1) by omega]; simp
theorem setPs_sat {R : AV -> Heap -> Prop} : ∀ {ps : List Nat} {as : List AV} {vs : List Value} {fr : List AV} {tm : Array Value} {k : List AV -> VC}, (setPs ps as fr k).sat R -> RelL C w as vs -> FR [] C w fr tm ->
  ps.length = vs.length /\ ∃ fr', (k fr').sat R /\ FR [] C w fr' ((ps.zip vs).foldl (fun t (p, v) => t.setIfInBounds p v) tm)
 | [], [], vs, fr, tm, k, h, hr, hF => by cases hr; exact ⟨rfl, fr, h, hF⟩
 | p :: ps, a :: as, vs, fr, tm, k, h, hr, hF => by
   cases hr with
   | cons _ _ v vs h1 h2 =>
     simp only [setPs, forceD_eq, setF_eq] at h
     have hF' : FR [] C w (setL fr p (noGd a)) (tm.setIfInBounds p v) := FR.put (act := ⟨tm, []⟩) hF (.plain (rel_noGd h1) (notGd_noGd _)) (some p)
     obtain ⟨h3, fr', h4, h5⟩ := setPs_sat h h2 hF'
     exact ⟨by simp [h3], fr', h4, h5⟩
 | [], _ :: _, _, _, _, _, h, _, _ => h.elim
 | _ :: _, [], _, _, _, _, h, _, _ => h.elim
theorem fold_get : ∀ (l : List (Nat × Value)) (tm : Array Value) (t : Nat), t ∉ l.map Prod.fst -> (l.foldl (fun t (p, v) => t.setIfInBounds p v) tm).getD t undef = tm.getD t undef
 | [], _, _, _ => rfl
 | (p, v) :: l, tm, t, h => by
   simp only [List.map_cons, List.mem_cons, not_or] at h
   rw [List.foldl_cons, fold_get l _ t h.2]
   simp only [Array.getD_eq_getD_getElem?, Array.getElem?_setIfInBounds]
   rw [if_neg (fun e => h.1 e.symm)]
theorem fold_size : ∀ (l : List (Nat × Value)) (tm : Array Value), (l.foldl (fun t (p, v) => t.setIfInBounds p v) tm).size = tm.size
 | [], _ => rfl
 | (p, v) :: l, tm => by rw [List.foldl_cons, fold_size l]; simp
end
end Abs
end Go.Proofs.Ytdfdjlijghjdaaa

namespace Go.Proofs.Ytdfdjlijghjdaaa
namespace Abs
open Go Go.RowKit
theorem asMove_eq {op : Op} {s : Nat} (h : asMove op = some s) : op = .move (.tmp s) := by
 unfold asMove at h
 split at h
 ·injection h with h; subst h; rfl
 ·cases h
theorem asNil_eq {op : Op} {t : TypeId} {a : Nat} (h : asNil op = some (t, a)) : ∃ yt, op = .binOp .eql t (.tmp a) (.const (.slice none 0 0)) yt := by
 unfold asNil at h
 split at h
 ·injection h with h; injection h with h1 h2; subst h1 h2; exact ⟨_, rfl⟩
 ·cases h
theorem isSlc_eq {x : AV} {n : LN} (h : isSlc x = some n) : ∃ sz el, x = .slc n sz el := by
 unfold isSlc at h
 split at h
 ·injection h with h; subst h; exact ⟨_, _, rfl⟩
 ·cases h
theorem region_nil {P : Program} {C : Cx} {w : World} {ro : Option Nat} {rm : Nat} {id : Nat} {ops : Array Oper} {fr : List AV} {act : Act} {Q : Exit -> Act -> World -> Prop} {s a b : Nat} {n : LN}
  (hc : nilCmp P ops.toList fr = some (s, a, b, n)) (hF : FR [] C w fr act.tmps)
  (hgoal : ∀ bb : Bool, (bb = true -> n.val = 0) -> ∀ act' : Act, RegKept (mskO ops.toList) act act' -> FR [] C w (setL (setL fr a (getL fr s)) b (.lb bb)) act'.tmps -> Q .normal act' w) :
  (Code.region id ops false).wpIn (fen ro) rm P Q act w := by
 have hput := regKept_put ops.toList act
 have hds : RegKept (mskO ops.toList) act act := ⟨rfl, fun _ _ => rfl, rfl⟩
 unfold nilCmp at hc
 split at hc
 case h_2 => cases hc
 rename_i o1 o2 hops
 split at hc
 case h_2 => cases hc
 rename_i t a' hn
 split at hc
 case h_2 => cases hc
 rename_i s' hm
 split at hc
 case h_2 => cases hc
 rename_i x y hd1 hg1 hd2 hg2
 split at hc
 case h_2 => cases hc
 rename_i m hb hs
 injection hc with hc; injection hc with e1 hc; injection hc with e2 hc; injection hc with e3 e4
 subst e1 e2 e3 e4
 simp only [Bool.and_eq_true] at hb
 obtain ⟨⟨hb1, hb2⟩, hb3⟩ := hb
 obtain rfl := Nat.eq_of_beq_eq_true hb1
 obtain ⟨sz, el, hs⟩ := isSlc_eq hs
 have hlt : x < act.tmps.size := by rw [<- hF.len]; simpa [Nat.blt_eq] using hb3
 obtain ⟨e, ht⟩ : ∃ e, P.underlying t = some (.slice e) := by
  unfold isSliceT at hb2
  split at hb2
  ·rename_i e h; exact ⟨e, h⟩
  ·cases hb2
 have hv := (hF.get s').1
 rw [hs] at hv
 obtain ⟨A, cap, hval, h0⟩ : ∃ A cap, act.tmps.getD s' undef = .slice A m.val cap /\ (A.isNone = true -> m.val = 0) := by
  generalize act.tmps.getD s' undef = v at hv
  cases hv with
  | slc _ _ _ A cap vs hcap hA _ _ _ =>
    refine ⟨A, cap, rfl, fun hn => ?_⟩
    rcases Nat.eq_zero_or_pos m.val with h | h
    ·exact h
    ·obtain ⟨ad, rfl, _⟩ := hA h
     cases hn
 obtain rfl : ops = #[o1, o2] := by
  cases ops; simp only at hops; rw [hops]
 have hm1 := asMove_eq hm
 obtain ⟨yt, hm2⟩ := asNil_eq hn
 apply wpIn_region
 have hw1 : ∀ f, Region.wanted o1 f = true := fun f => by unfold Region.wanted; rw [hg1]
 have hw2 : ∀ f, Region.wanted o2 f = true := fun f => by unfold Region.wanted; rw [hg2]
 have hF1 : FR [] C w (setL fr x (getL fr s')) (act.put (some x) (act.tmps.getD s' undef)).tmps := hF.put (a := getL fr s') (.plain (hF.get s').1 (by rw [hs]; trivial)) (some x)
 show wpOpsIn (fen ro) rm P #[o1, o2] Q [0, 1] act w
 simp only [wpOpsIn, List.getElem?_toArray, List.getElem?_cons_zero, List.getElem?_cons_succ, hw1, hw2, if_true]
 refine Ran.wpIn (run_of_post (m := pure (act.tmps.getD s' undef)) ?_ ⟨_, _, Sem.run_pure .., ?_⟩)
 ·obtain ⟨dst, op, type, pos, after, guard⟩ := o1
  simp only at hm1
  subst hm1
  rfl
 rw [hd1]
 generalize hact : act.put (some x) (act.tmps.getD s' undef) = act1 at hF1
 have hget : act1.tmps.getD x undef = .slice A m.val cap := by
  rw [<- hact, <- hval]
  simp [Act.put, hlt]
 have hds1 : RegKept (mskO [o1, o2]) act act1 := by rw [<- hact, <- hd1]; exact hput o1 (by simp) _ _ hds
 refine Ran.wpIn (run_of_post (m := do eqGuard .eql t (.tmp x) (.const (.slice none 0 0)) (act1.tmps.getD x undef) (.slice none 0 0); binOp .eql t (act1.tmps.getD x undef) (.slice none 0 0)) ?_ ⟨.bool A.isNone, w, ?_, ?_⟩)
 ·obtain ⟨dst, op, type, pos, after, guard⟩ := o2
  simp only at hm2
  subst hm2
  rfl
 ·rw [hget]
  have := Lib.run_eql_slice_nil (P := P) w t e A m.val cap 0 0 ht
  simpa [eqGuard] using this
 ·refine hgoal A.isNone h0 _ (hput o2 (by simp) _ _ hds1) ?_
  rw [hd2]
  exact hF1.put (a := .lb A.isNone) (.plain (.lb _) trivial) (some y)
end Abs
end Go.Proofs.Ytdfdjlijghjdaaa

namespace Go.Proofs.Ytdfdjlijghjdaaa
namespace Abs
open Go Go.RowKit
section
variable {P : Program} {S : Sums} {C : Cx} {w : World} {hp : Heap}
theorem allK_tail {k : IntKind} {a : AV} {l : List AV} (h : allK k (a :: l) = true) : kindOf a = some k /\ allK k l = true := by
 simp only [allK] at h
 split at h
 ·rename_i k' hk
  simp only [Bool.and_eq_true, decide_eq_true_eq] at h
  exact ⟨by rw [hk, h.1], h.2⟩
 ·cases h
theorem allK_split {k : IntKind} {l : List AV} {a b : Nat} (h : allK k (l.take (a + b)) = true) : allK k (l.take a) = true /\ allK k ((l.drop a).take b) = true := by
 induction a generalizing l with
 | zero => simp [allK]; simpa using h
 | succ a ih =>
   cases l with
   | nil => simp [allK]
   | cons x l =>
     rw [show a + 1 + b = (a + b) + 1 by omega, List.take_succ_cons] at h
     obtain ⟨h1, h2⟩ := allK_tail h
     obtain ⟨h3, h4⟩ := ih h2
     refine ⟨?_, by simpa using h4⟩
     rw [List.take_succ_cons]
     simp only [allK, h1]
     simp [h3]
theorem cpy1_rel {k : IntKind} {n j : Nat} : ∀ {e l : List AV} {xs us : List Value}, allK k e = true -> allK k l = true -> e.length = l.length -> (j < n -> RelL C w e xs) -> RelL C w l us -> RelL C w (cpy1 k n j e l) (if j < n then xs else us) /\ (cpy1 k n j e l).length = l.length
 | [], [], xs, us, _, _, _, h1, h2 => by
   cases h2
   refine ⟨?_, rfl⟩
   split
   ·rename_i hj
    cases h1 hj; exact .nil
   ·exact .nil
 | a :: e, b :: l, xs, us, hk1, hk2, hl, h1, h2 => by
   obtain ⟨ka, hk1⟩ := allK_tail hk1
   obtain ⟨kb, hk2⟩ := allK_tail hk2
   cases h2 with
   | cons _ _ u us hu hus =>
     have hr : ∀ y ys, j < n -> xs = y :: ys -> RelL C w e ys -> RelL C w (cpy1 k n j e l) ys := fun y ys hj _ hys => by
      have := (cpy1_rel (n := n) (j := j) (xs := ys) hk1 hk2 (by simpa using hl) (fun _ => hys) hus).1
      rwa [if_pos hj] at this
     refine ⟨?_, ?_⟩
     ·split
      ·rename_i hj
       have h1 := h1 hj
       cases h1 with
       | cons _ _ y ys hy hys =>
         refine .cons _ _ _ _ ?_ (hr y ys hj rfl hys)
         rw [kindOf_rel hy ka]
         unfold cpI; rw [if_pos hj]; exact .si _ _
      ·rename_i hj
       have := (cpy1_rel (n := n) (j := j) (xs := []) hk1 hk2 (by simpa using hl) (fun h => absurd h hj) hus).1
       rw [if_neg hj] at this
       refine .cons _ _ _ _ ?_ this
       rw [kindOf_rel hu kb]
       unfold cpI; rw [if_neg hj]; exact .si _ _
     ·have hl' : e.length = l.length := by simpa using hl
      clear hr
      have key : ∀ (e l : List AV), e.length = l.length -> (cpy1 k n j e l).length = l.length := by
       intro e
       induction e with
       | nil => intro l h; cases l <;> simp [cpy1] at h ⊢
       | cons a e ih => intro l h; cases l with
         | nil => simp at h
         | cons b l => simp [cpy1, ih l (by simpa using h)]
      simp [cpy1, key e l hl']
 | [], _ :: _, _, _, _, _, hl, _, _ => by simp at hl
 | _ :: _, [], _, _, _, _, hl, _, _ => by simp at hl
def cpyU (n sz : Nat) (vs : Nat -> List Value) : Nat -> Nat -> List Value -> List Value
 | 0, _, _ => []
 | m + 1, j, us => (if j < n then vs j else us.take sz) ++ cpyU n sz vs m (j + 1) (us.drop sz)
theorem cpyN_rel {k : IntKind} {n sz : Nat} {el : Nat -> List AV} {vs : Nat -> List Value} (hr : ∀ j, j < n -> RelL C w (el j) (vs j)) : ∀ (m j : Nat) (l : List AV) (us : List Value), cpOK k sz el m j = true -> m * sz <= l.length -> allK k (l.take (m * sz)) = true -> RelL C w l us ->
  RelL C w (cpyN k n sz el m j l) (cpyU n sz vs m j us) /\ (cpyN k n sz el m j l).length = m * sz
 | 0, j, l, us, _, _, _, _ => ⟨.nil, by simp [cpyN]⟩
 | m + 1, j, l, us, hc, hl, hk, h => by
   simp only [cpOK, Bool.and_eq_true] at hc
   obtain ⟨⟨hc1, hc2⟩, hc3⟩ := hc
   have hc2 := Nat.eq_of_beq_eq_true hc2
   rw [Nat.add_mul, Nat.one_mul] at hl hk
   rw [show m * sz + sz = sz + m * sz by omega] at hk
   obtain ⟨k1, k2⟩ := allK_split hk
   have hlt : (l.take sz).length = sz := by rw [List.length_take]; omega
   obtain ⟨h1, h2⟩ := cpy1_rel (n := n) (j := j) (xs := vs j) hc1 k1 (by rw [hlt, hc2]) (hr j) (h.take sz)
   obtain ⟨h3, h4⟩ := cpyN_rel hr m (j + 1) (l.drop sz) (us.drop sz) hc3 (by rw [List.length_drop]; omega) k2 (h.drop sz)
   unfold cpyN cpyU
   rw [appL_eq, takeL_eq, dropL_eq]
   exact ⟨h1.append h3, by rw [List.length_append, h2, h4, hlt, Nat.add_mul]; omega⟩
theorem cpyU_eq {n sz : Nat} {vs : Nat -> List Value} (hl : ∀ j, j < n -> (vs j).length = sz) : ∀ (m j : Nat) (us : List Value), us.length = m * sz ->
  cpyU n sz vs m j us = ((List.range' j (min m (n - j))).flatMap vs) ++ us.drop (min m (n - j) * sz)
 | 0, j, us, h => by
   have : us = [] := List.eq_nil_of_length_eq_zero (by simpa using h)
   subst this
   simp [cpyU]
 | m + 1, j, us, h => by
   unfold cpyU
   by_cases hj : j < n
   ·rw [if_pos hj, cpyU_eq hl m (j + 1) (us.drop sz) (by rw [List.length_drop, h, Nat.add_mul]; omega)]
    rw [show min (m + 1) (n - j) = min m (n - (j + 1)) + 1 by omega, List.range'_succ, List.flatMap_cons, List.drop_drop, List.append_assoc]
    congr 3
    rw [Nat.add_mul]; omega
   ·rw [if_neg hj, cpyU_eq hl m (j + 1) (us.drop sz) (by rw [List.length_drop, h, Nat.add_mul]; omega)]
    rw [show min (m + 1) (n - j) = 0 by omega, show min m (n - (j + 1)) = 0 by omega]
    simp
theorem cpyU_take {n sz : Nat} {vs : Nat -> List Value} (hl : ∀ j, j < n -> (vs j).length = sz) (m j : Nat) (us : List Value) (h : m * sz <= us.length) :
  cpyU n sz vs m j us = ((List.range' j (min m (n - j))).flatMap vs) ++ (us.take (m * sz)).drop (min m (n - j) * sz) := by
 have : cpyU n sz vs m j us = cpyU n sz vs m j (us.take (m * sz)) := by
  clear hl
  induction m generalizing j us with
  | zero => rfl
  | succ m ih =>
    unfold cpyU
    rw [Nat.add_mul, Nat.one_mul] at h ⊢
    rw [List.take_take, show min sz (m * sz + sz) = sz by omega]
    congr 1
    rw [ih (j + 1) (us.drop sz) (by rw [List.length_drop]; omega), List.drop_take, show m * sz + sz - sz = m * sz by omega]
 rw [this]
 exact cpyU_eq hl m j _ (by rw [List.length_take]; omega)
theorem run_copyN {dT sT ty elem : TypeId} {b o dLen dCap sz : Nat} {src : Value} {cs : Array Value} {tb : TypeId} {sLen : Nat} {fl : List Value} (hu : P.underlying dT = some (.slice elem)) {i : TypeInfo} (hi : P.info? elem = some i) (hsz : i.size = sz)
  (hlen : ∃ A cap, src = .slice A sLen cap /\ (0 < min sLen dLen -> ∃ ad, A = some ad /\ ∀ j v, fl[j]? = some v -> w.cell? (ad.add j) = some v)) (hfl : fl.length = min sLen dLen * sz)
  (hh : w.heap[b]? = some (.cells cs tb (0, 0))) (hfit : o + fl.length <= cs.size) (h1 : ∀ v ∈ fl, v.oneCell' = true) :
  ∃ w', (Builtin.copy_ #[dT, sT] ty #[.slice (some ⟨b, o, none⟩) dLen dCap, src]).run P w = .ok (goInt ((Nat.min sLen dLen : Nat) : Int)) w' /\ w'.heap[b]? = some (.cells ⟨cs.toList.take o ++ (fl ++ cs.toList.drop (o + fl.length))⟩ tb (0, 0)) /\
    (∀ k, k ≠ b -> w'.heap[k]? = w.heap[k]?) /\ w'.os = w.os /\ w'.tape = w.tape /\ w'.output = w.output /\ w'.heap.size = w.heap.size := by
 obtain ⟨A, cap, rfl, hA⟩ := hlen
 obtain ⟨w', hst, r2, r3, r4, r5, r6, r7⟩ := run_storeCells (P := P) (b := b) (t := tb) fl w cs o 0 hh (by simpa using hfit) h1
 refine ⟨w', ?_, by simpa using r2, r3, r4, r5, r6, r7⟩
 have hmin : Nat.min sLen dLen = min sLen dLen := rfl
 have hfc : (Builtin.firstCells i.size (Nat.min sLen dLen) (.slice A sLen cap)).run P w = .ok fl.toArray w := by
  rw [hmin]
  rcases Nat.eq_zero_or_pos (min sLen dLen) with h0 | h0
  ·have hnil : fl = [] := List.eq_nil_of_length_eq_zero (by rw [hfl, h0]; simp)
   subst hnil
   rw [h0]
   cases A with
   | none => simp [Builtin.firstCells]
   | some a =>
     have := run_loadCells_list (P := P) w a [] (by simp)
     simpa [Builtin.firstCells] using this
  ·obtain ⟨ad, rfl, hc⟩ := hA h0
   have := run_loadCells_list (P := P) w ad fl hc
   rw [hfl] at this
   simpa [Builtin.firstCells, hsz] using this
 simp [Builtin.copy_, run_underlying hu, Builtin.lenOf, sizeOf, typeInfo, hi, hfc, hst]
theorem cpyO_spec {ops : List Oper} {t1 : TypeId} {x : Operand} {f : Nat} {t2 T : TypeId} {s d1 d2 d3 d4 : Nat} (h : cpyO ops = some (t1, x, f, t2, T, s, d1, d2, d3, d4)) :
  ∃ o1 o2 o3 o4 c T', ops = [o1, o2, o3, o4] /\ o1.op = .fieldAddr t1 x f /\ o2.op = .slice t2 (.tmp d1) none none none /\ o3.op = .move (.tmp s) /\ o4.op = .call c /\ c.callee = .builtin .copy /\ c.args.toList = [.tmp d2, .tmp d3] /\ c.argTypes.toList = [T, T'] /\
    o1.dst = some d1 /\ o2.dst = some d2 /\ o3.dst = some d3 /\ o4.dst = some d4 /\ o1.guard = none /\ o2.guard = none /\ o3.guard = none /\ o4.guard = none /\ d2 ≠ d3 /\ s ≠ d1 /\ s ≠ d2 := by
 unfold cpyO at h
 split at h
 case h_2 => cases h
 rename_i o1 o2 o3 o4
 split at h
 case h_2 => cases h
 rename_i t1 x f t2 a s c h1 h2 h3 h4
 split at h
 case h_2 => cases h
 rename_i b e T T' h5 h6 h7
 split at h
 case h_2 => cases h
 rename_i d1 d2 d3 d4 e1 e2 e3 e4
 split at h
 case h_2 => cases h
 rename_i g1 g2 g3 g4
 split at h
 case h_2 => cases h
 rename_i hb
 injection h with h
 simp only [Prod.mk.injEq] at h
 obtain ⟨rfl, rfl, rfl, rfl, rfl, rfl, rfl, rfl, rfl, rfl⟩ := h
 simp only [Bool.and_eq_true, Bool.not_eq_true'] at hb
 obtain ⟨⟨⟨⟨⟨b1, b2⟩, b3⟩, b4⟩, b5⟩, b6⟩ := hb
 obtain rfl := Nat.eq_of_beq_eq_true b1
 obtain rfl := Nat.eq_of_beq_eq_true b2
 obtain rfl := Nat.eq_of_beq_eq_true b3
 have ne : ∀ {a b : Nat}, Nat.beq a b = false -> a ≠ b := fun {a b} h e => by subst e; simp at h
 exact ⟨o1, o2, o3, o4, c, T', rfl, h1, h2, h3, h4, h5, h6, h7, e1, e2, e3, e4, g1, g2, g3, g4, ne b4, ne b5, ne b6⟩
theorem region_cpy {ro : Option Nat} {rm lo : Nat} {id : Nat} {ops : Array Oper} {fr : List AV} {act : Act} {Q : Exit -> Act -> World -> Prop} {z : Cpy}
  (hc : cpyP P ops.toList fr hp = some z) (hH : HR C hp w) (hF : FR [] C w fr act.tmps)
  (hgoal : ∀ (act' : Act) (w' : World), RegKept (mskO ops.toList) act act' -> HR C (cpyH z hp) w' -> FR [] C w' (setL (setL (setL (setL fr z.d1 (.own z.i z.off)) z.d2 .top) z.d3 (getL fr z.s)) z.d4 .top) act'.tmps -> Tr lo C w C w' -> Q .normal act' w') :
  (Code.region id ops false).wpIn (fen ro) rm P Q act w := by
 have hput := regKept_put ops.toList act
 have hds : RegKept (mskO ops.toList) act act := ⟨rfl, fun _ _ => rfl, rfl⟩
 unfold cpyP at hc
 split at hc
 case h_1 => cases hc
 rename_i t1 x f t2 T s d1 d2 d3 d4 hO
 obtain ⟨o1, o2, o3, o4, c, T', hops, p1, p2, p3, p4, p5, p6, p7, e1, e2, e3, e4, g1, g2, g3, g4, n1, n2, n3⟩ := cpyO_spec hO
 split at hc
 case h_2 => cases hc
 rename_i i off N e e' n sz el hfa hu2 huT hsrc
 split at hc
 case h_2 => cases hc
 rename_i t l hb
 split at hc
 case h_2 => cases hc
 rename_i k hk
 split at hc
 case h_2 => cases hc
 rename_i hall
 injection hc with hc
 subst hc
 simp only [Bool.and_eq_true, decide_eq_true_eq] at hall
 obtain ⟨⟨⟨⟨⟨⟨⟨⟨rfl, b2⟩, b3⟩, b4⟩, b5⟩, b6⟩, b7⟩, b8⟩, b9⟩ := hall
 obtain rfl := Nat.eq_of_beq_eq_true b2
 have b3 : 0 < sizeT P e := by simpa [Nat.blt_eq] using b3
 have b4 := Nat.le_of_ble_eq_true b4
 have b7 : d1 < act.tmps.size := by rw [<- hF.len]; simpa [Nat.blt_eq] using b7
 have b8 : d2 < act.tmps.size := by rw [<- hF.len]; simpa [Nat.blt_eq] using b8
 have b9 : d3 < act.tmps.size := by rw [<- hF.len]; simpa [Nat.blt_eq] using b9
 obtain ⟨ie, hie⟩ : ∃ ie, P.info? e = some ie := by
  cases hz : sizeT P e with
  | zero => omega
  | succ n => exact sizeT_info hz
 have hisz : ie.size = sizeT P e := by simp [sizeT, hie]
 obtain rfl : ops = #[o1, o2, o3, o4] := by cases ops; simp only at hops; rw [hops]
 apply wpIn_region
 have hw1 : ∀ f, Region.wanted o1 f = true := fun f => by unfold Region.wanted; rw [g1]
 have hw2 : ∀ f, Region.wanted o2 f = true := fun f => by unfold Region.wanted; rw [g2]
 have hw3 : ∀ f, Region.wanted o3 f = true := fun f => by unfold Region.wanted; rw [g3]
 have hw4 : ∀ f, Region.wanted o4 f = true := fun f => by unfold Region.wanted; rw [g4]
 show wpOpsIn (fen ro) rm P #[o1, o2, o3, o4] Q [0, 1, 2, 3] act w
 simp only [wpOpsIn, List.getElem?_toArray, List.getElem?_cons_zero, List.getElem?_cons_succ, hw1, hw2, hw3, hw4, if_true]
 have hx : Rel C w (ev fr x) (act.eval x) := (evG_rel x fun t _ => hF.get t).1
 obtain ⟨_, v1, hr1, hv1⟩ := vd_fieldAddr (P := P) (S := ⟨[], [], 0, [], [], []⟩) (hp := hp) (t := t1) (f := f) hx _ [] (by rw [hfa]; exact .val _)
 cases hv1 with
 | own _ _ b cp q hρ =>
 have hl := hH.live _ _ hρ
 rw [hb] at hl
 obtain ⟨us, hus, hh⟩ := hl
 have hilt : i < hp.length := by
  rcases Nat.lt_or_ge i hp.length with h | h
  ·exact h
  ·rw [getB_dead h] at hb; cases hb
 refine Ran.wpIn (run_of_post (m := Instr.fieldAt t1 (act.eval x) f) ?_ ⟨_, _, hr1, ?_⟩)
 ·obtain ⟨dst, op, type, pos, after, guard⟩ := o1
  simp only at p1
  subst p1
  rfl
 rw [e1]
 have hF1 : FR [] C w (setL fr d1 (.own i off)) (act.put (some d1) (.pointer (some ⟨b, off, none⟩))).tmps := hF.put (a := .own i off) (.plain (.own _ _ _ _ _ hρ) trivial) (some d1)
 have k1 : RegKept (mskO [o1, o2, o3, o4]) act (act.put (some d1) (.pointer (some ⟨b, off, none⟩))) := by rw [<- e1]; exact hput o1 (by simp) _ _ hds
 have hs1 : (act.put (some d1) (.pointer (some ⟨b, off, none⟩))).tmps.getD s undef = act.tmps.getD s undef := by rw [put_get, if_neg (fun h => n2 (by have := h.1; simp at this; exact this.symm))]
 have hd1 : (act.put (some d1) (.pointer (some ⟨b, off, none⟩))).tmps.getD d1 undef = .pointer (some ⟨b, off, none⟩) := by rw [put_get, if_pos ⟨rfl, b7⟩]
 have z1 : (act.put (some d1) (.pointer (some ⟨b, off, none⟩))).tmps.size = act.tmps.size := k1.1
 generalize act.put (some d1) (.pointer (some ⟨b, off, none⟩)) = act1 at *
 refine Ran.wpIn (run_of_post (m := Instr.sliceAt t2 (act1.tmps.getD d1 undef) none none none) ?_ ⟨.slice (some ⟨b, off, none⟩) N N, w, ?_, ?_⟩)
 ·obtain ⟨dst, op, type, pos, after, guard⟩ := o2
  simp only at p2
  subst p2
  rfl
 ·rw [hd1]
  simp [Instr.sliceAt, run_underlying hu2, Instr.sureAddr, Instr.sliceBounds, sizeOf, typeInfo, hie, add_lit]
 rw [e2]
 have hF2 : FR [] C w (setL (setL fr d1 (.own i off)) d2 .top) (act1.put (some d2) (.slice (some ⟨b, off, none⟩) N N)).tmps := hF1.put (a := .top) (.plain (.top _) trivial) (some d2)
 have k2 : RegKept (mskO [o1, o2, o3, o4]) act (act1.put (some d2) (.slice (some ⟨b, off, none⟩) N N)) := by rw [<- e2]; exact hput o2 (by simp) _ _ k1
 have hs2 : (act1.put (some d2) (.slice (some ⟨b, off, none⟩) N N)).tmps.getD s undef = act.tmps.getD s undef := by rw [put_get, if_neg (fun h => n3 (by have := h.1; simp at this; exact this.symm)), hs1]
 have hd2 : (act1.put (some d2) (.slice (some ⟨b, off, none⟩) N N)).tmps.getD d2 undef = .slice (some ⟨b, off, none⟩) N N := by rw [put_get, if_pos ⟨rfl, by rw [z1]; exact b8⟩]
 have z2 : (act1.put (some d2) (.slice (some ⟨b, off, none⟩) N N)).tmps.size = act.tmps.size := k2.1
 generalize act1.put (some d2) (.slice (some ⟨b, off, none⟩) N N) = act2 at *
 have hsv := (hF.get s).1
 rw [hsrc] at hsv
 refine Ran.wpIn (run_of_post (m := pure (act2.tmps.getD s undef)) ?_ ⟨act.tmps.getD s undef, w, by rw [hs2]; simp, ?_⟩)
 ·obtain ⟨dst, op, type, pos, after, guard⟩ := o3
  simp only at p3
  subst p3
  rfl
 rw [e3]
 have hF3 : FR [] C w (setL (setL (setL fr d1 (.own i off)) d2 .top) d3 (getL fr s)) (act2.put (some d3) (act.tmps.getD s undef)).tmps := hF2.put (a := getL fr s) (.plain (hF.get s).1 (by rw [hsrc]; trivial)) (some d3)
 have k3 : RegKept (mskO [o1, o2, o3, o4]) act (act2.put (some d3) (act.tmps.getD s undef)) := by rw [<- e3]; exact hput o3 (by simp) _ _ k2
 have hd3 : (act2.put (some d3) (act.tmps.getD s undef)).tmps.getD d3 undef = act.tmps.getD s undef := by rw [put_get, if_pos ⟨rfl, by rw [z2]; exact b9⟩]
 have hd2' : (act2.put (some d3) (act.tmps.getD s undef)).tmps.getD d2 undef = .slice (some ⟨b, off, none⟩) N N := by rw [put_get, if_neg (fun h => n1 (by have := h.1; simp at this; exact this.symm)), hd2]
 generalize act2.put (some d3) (act.tmps.getD s undef) = act3 at *
 generalize act.tmps.getD s undef = src at *
 cases hsv with
 | slc _ _ _ A cap vs hcap hA hr hlv hok =>
 have hfl : (flat vs (min n.val N)).length = min n.val N * sizeT P e := flat_len fun k hk => hlv k (by omega)
 have hlen := hus.len
 have hdl : (us.drop off).length = us.length - off := List.length_drop
 have htl : min n.val N * sizeT P e <= N * sizeT P e := Nat.mul_le_mul_right _ (by omega)
 obtain ⟨w', hrun, q1, q2, q3, q4, q5, q6⟩ := run_copyN (P := P) (w := w) (dT := T) (sT := T') (ty := o4.type) (o := off) (dLen := N) (dCap := N) (src := .slice A n.val cap) (sLen := n.val) (fl := flat vs (min n.val N)) huT hie hisz
  ⟨A, cap, rfl, fun h0 => by
   obtain ⟨ad, rfl, hI, hcell⟩ := hA (by omega)
   refine ⟨ad, rfl, fun j v hj => ?_⟩
   have hjl : j < min n.val N * sizeT P e := by rw [<- hfl]; exact (List.getElem?_eq_some_iff.1 hj).1
   obtain ⟨k', r, hk', hr', rfl⟩ := div_split b3 hjl
   rw [flat_get (fun k hk => hlv k (by omega)) hk' hr'] at hj
   rw [hcell k' (by omega) r hr', hj]⟩ hfl hh (by rw [hfl]; simp; omega) (flat_mem fun k' hk' u hu => okL_one (hr k' (by omega)) (hok k' (by omega)) u hu)
 have hB : RelL C w (pasteL l off (cpyN k n.val (sizeT P e) el N 0 (dropL l off))) (us.take off ++ (flat vs (min n.val N) ++ us.drop (off + (flat vs (min n.val N)).length))) := by
  have hd : RelL C w (l.drop off) (us.drop off) := hus.drop off
  have b5' : allK k ((l.drop off).take (N * sizeT P e)) = true := by rw [takeL_eq, dropL_eq] at b5; exact b5
  have hN : RelL C w ((l.drop off).take (N * sizeT P e)) ((us.drop off).take (N * sizeT P e)) := hd.take _
  obtain ⟨hR, hRl⟩ := cpyN_rel hr N 0 (l.drop off) (us.drop off) b6 (by rw [List.length_drop]; omega) b5' hd
  rw [pasteL_eq, dropL_eq, hRl]
  have hU : cpyU n.val (sizeT P e) vs N 0 (us.drop off) ++ us.drop (off + N * sizeT P e) = flat vs (min n.val N) ++ us.drop (off + (flat vs (min n.val N)).length) := by
   have key := cpyU_take hlv N 0 (us.drop off) (by rw [List.length_drop]; omega)
   rw [key, hfl, Nat.sub_zero, Nat.min_comm N n.val, List.append_assoc]
   congr 1
   ·unfold flat; rw [List.range_eq_range']
   ·have e1 : ∀ q, us.drop (off + q) = (us.drop off).drop q := fun q => by rw [List.drop_drop]
    rw [e1, e1]
    clear e1
    generalize us.drop off = xs at *
    have hx : min n.val N * sizeT P e <= N * sizeT P e := htl
    generalize min n.val N * sizeT P e = a at *
    generalize N * sizeT P e = b at *
    rw [show List.drop b xs = List.drop (b - a) (List.drop a xs) by rw [List.drop_drop]; congr 1; omega]
    rw [List.drop_take]
    exact List.take_append_drop _ _
  rw [<- hU]
  exact (hus.take off).append (hR.append (hus.drop _))
 obtain ⟨h1, h2, h3⟩ := hH.upd (w' := w') (B := .cells t (pasteL l off (cpyN k n.val (sizeT P e) el N 0 (dropL l off)))) hρ q2 q6 q3 q4 q5 (fun hx => ⟨_, hB.mono hx, q1⟩) hilt lo
 ·refine Ran.wpIn (run_of_post (m := Builtin.copy_ #[T, T'] o4.type #[.slice (some ⟨b, off, none⟩) N N, .slice A n.val cap]) ?_ ⟨_, _, hrun, ?_⟩)
  ·obtain ⟨dst, op, type, pos, after, guard⟩ := o4
   simp only at p4
   subst p4
   obtain ⟨callee, args, tys⟩ := c
   simp only at p5 p6 p7
   subst p5
   have ea : args = #[.tmp d2, .tmp d3] := by cases args; simp only at p6; rw [p6]
   have et : tys = #[T, T'] := by cases tys; simp only at p7; rw [p7]
   subst ea et
   have ev2 : act3.eval (.tmp d2) = .slice (some ⟨b, off, none⟩) N N := hd2'
   have ev3 : act3.eval (.tmp d3) = .slice A n.val cap := hd3
   simp [execOp, resolve, invoke, builtin, ev2, ev3]
  ·rw [e4]
   refine hgoal _ w' ?_ h1 ?_ h3
   ·rw [<- e4]; exact hput o4 (by simp) _ _ k3
   ·have hF3' := hF3.mono h2
    exact hF3'.put (a := .top) (.plain (.top _) trivial) (some d4)
end
end Abs
end Go.Proofs.Ytdfdjlijghjdaaa
