/- A part of the proof: no statement of its own. -/
import Derived.Test.YtlabbaglbcmofaaGreatQG06d713b7
import Derived.WalkSpells
import Derived.Deep.LoopGhost
set_option linter.unusedSimpArgs false
set_option linter.unusedVariables false
namespace Go.Proofs.YtlabbaglbcmofaaGreat
namespace Abs
open Go Go.RowKit
theorem dstTo_get : ∀ (l : List Oper) (n : Nat) (d : Option Nat) (q : Nat), (dstTo l n d)[q]? = if q = n then (l[q]?).map (fun o => { o with dst := d }) else l[q]?
 | [], n, d, q => by simp [dstTo]
 | o :: l, 0, d, 0 => by simp [dstTo]
 | o :: l, 0, d, q + 1 => by simp [dstTo]
 | o :: l, n + 1, d, 0 => by simp [dstTo]
 | o :: l, n + 1, d, q + 1 => by
   simp only [dstTo, List.getElem?_cons_succ]
   rw [dstTo_get l n d q]
   simp
theorem dstTo_len : ∀ (l : List Oper) (n : Nat) (d : Option Nat), (dstTo l n d).length = l.length
 | [], _, _ => rfl
 | _ :: _, 0, _ => rfl
 | _ :: l, n + 1, d => by simp [dstTo, dstTo_len l n d]
theorem allocAt_spec {d : Nat} {t : TypeId} : ∀ {l : List Oper} {n a : Nat}, allocAt d t n l = some a -> n <= a /\ ∃ o, l[a - n]? = some o /\ o.dst = some d /\ o.op = .alloc t
 | [], _, _, h => by cases h
 | o :: l, n, a, h => by
   simp only [allocAt] at h
   split at h
   ·rename_i h1 h2
    injection h with h; subst h
    refine ⟨Nat.le_refl _, o, by simp, ?_, ?_⟩
    ·unfold isDst at h1
     split at h1
     ·rename_i e he; rw [he, Nat.eq_of_beq_eq_true h1]
     ·cases h1
    ·unfold isAl at h2
     split at h2
     ·rename_i t' he; rw [he, Nat.eq_of_beq_eq_true h2]
     ·cases h2
   ·obtain ⟨h1, o', h2, h3⟩ := allocAt_spec h
    refine ⟨by omega, o', ?_, h3⟩
    rw [show a - n = (a - (n + 1)) + 1 by omega, List.getElem?_cons_succ]
    exact h2
theorem isSt_spec {op : Op} {t : TypeId} {d : Nat} {x : Operand} (h : isSt op = some (t, d, x)) : op = .store t (.tmp d) x := by
 unfold isSt at h
 split at h
 ·injection h with h; injection h with h1 h2; injection h2 with h2 h3; subst h1 h2 h3; rfl
 ·cases h
theorem swGo_spec {all : List Oper} {z : Sw} : ∀ {l : List Oper} {n : Nat}, swGo all n l = some z -> (∀ q, l[q]? = all[n + q]?) -> (∃ o, all[z.a]? = some o /\ o.dst = some z.d /\ o.op = .alloc z.t) /\ ∃ o, all[z.s]? = some o /\ o.op = .store z.t (.tmp z.d) z.x
 | [], _, h, _ => by cases h
 | o :: l, n, h, hl => by
   have hl' : ∀ q, l[q]? = all[n + 1 + q]? := fun q => by
    have := hl (q + 1)
    rw [List.getElem?_cons_succ] at this
    rw [this]; congr 1; omega
   simp only [swGo] at h
   split at h
   ·rename_i t d x ho
    split at h
    ·exact swGo_spec h hl'
    ·split at h
     ·rename_i a ha
      injection h with h; subst h
      obtain ⟨_, o', h2, h3, h4⟩ := allocAt_spec ha
      refine ⟨⟨o', by simpa using h2, h3, h4⟩, o, ?_, isSt_spec ho⟩
      have := hl 0
      simpa using this.symm
     ·exact swGo_spec h hl'
   ·exact swGo_spec h hl'
section
variable {P : Program} {S : Sums} {C C' : Cx} {w w' : World} {H hp : Heap} {all : List Oper} {z : Sw}
structure SwReg (all : List Oper) (z : Sw) : Prop where
 oa : ∃ o : Oper, all[z.a]? = some o /\ o.dst = some z.d /\ o.op = .alloc z.t
 os : ∃ o : Oper, all[z.s]? = some o /\ o.dst = none /\ o.op = .store z.t (.tmp z.d) z.x
 ord : ordM (masks all []) z.a z.s = true
 ng : ∀ (q : Nat) (o : Oper), all[q]? = some o -> o.guard = none
 uq : uniqOK (swOps all z) = true
 tm : tmpOK (swOps all z) = true
 bk : Back (swOps all z)
theorem SwReg.of (hz : swGo all 0 all = some z) (h : swOK all = true) : SwReg all z := by
 obtain ⟨h1, o, h2, h3⟩ := swGo_spec hz (fun q => by simp)
 unfold swOK at h
 rw [hz] at h
 simp only [h2, Bool.and_eq_true, regOK] at h
 obtain ⟨⟨⟨⟨h4, h5, h6⟩, h7⟩, h8⟩, h9⟩ := h
 refine ⟨h1, ⟨o, h2, by simpa using h9, h3⟩, h8, fun q o' hq => ?_, h4, h5, back_spec h6⟩
 have := List.all_eq_true.1 h7 o' (List.mem_of_getElem? hq)
 simpa using this
theorem SwReg.ne (hz : SwReg all z) : z.a ≠ z.s := fun e => by
 obtain ⟨o, h1, _, h2⟩ := hz.oa
 obtain ⟨o', h3, _, h4⟩ := hz.os
 rw [e, h3] at h1; injection h1 with h1; subst h1
 rw [h4] at h2; cases h2
theorem swOps_len : (swOps all z).length = all.length := by unfold swOps; rw [dstTo_len, dstTo_len]
theorem swOps_get (hz : SwReg all z) (q : Nat) : (swOps all z)[q]? = if q = z.a then (all[q]?).map (fun o => { o with dst := none }) else if q = z.s then (all[q]?).map (fun o => { o with dst := some z.d }) else all[q]? := by
 unfold swOps
 have hne := hz.ne
 rw [dstTo_get, dstTo_get]
 by_cases h1 : q = z.s
 ·subst h1
  rw [if_pos rfl, if_neg (Ne.symm hne), if_neg (Ne.symm hne), if_pos rfl]
 ·rw [if_neg h1]
  by_cases h2 : q = z.a
  ·rw [if_pos h2, if_pos h2]
  ·rw [if_neg h2, if_neg h2, if_neg h1]
theorem swOps_at (hz : SwReg all z) {q : Nat} {o : Oper} (ho : all[q]? = some o) : ∃ d, (swOps all z)[q]? = some { o with dst := d } /\ dstOf (swOps all z) q = d /\ (q ≠ z.a -> q ≠ z.s -> d = o.dst) /\ (q = z.a -> d = none) /\ (q = z.s -> d = some z.d) := by
 have h := swOps_get hz q
 rw [ho] at h
 by_cases h1 : q = z.a
 ·rw [if_pos h1] at h
  exact ⟨none, h, dstOf_get h, fun h => absurd h1 h, fun _ => rfl, fun h2 => absurd (h1.symm.trans h2) hz.ne⟩
 ·rw [if_neg h1] at h
  by_cases h2 : q = z.s
  ·rw [if_pos h2] at h
   exact ⟨some z.d, h, dstOf_get h, fun _ h => absurd h2 h, fun h => absurd h h1, fun _ => rfl⟩
  ·rw [if_neg h2] at h
   exact ⟨o.dst, h, dstOf_get h, fun _ _ => rfl, fun h => absurd h h1, fun h => absurd h h2⟩
theorem swOps_back (hz : SwReg all z) {q : Nat} {o : Oper} (ho : (swOps all z)[q]? = some o) : ∃ o', all[q]? = some o' /\ o.after = o'.after := by
 have hlt : q < all.length := by rw [<- swOps_len (z := z)]; exact (List.getElem?_eq_some_iff.1 ho).1
 have hq : all[q]? = some (all[q]'hlt) := List.getElem?_eq_getElem _
 obtain ⟨d, h1, _⟩ := swOps_at hz hq
 rw [h1] at ho; injection ho with ho
 exact ⟨_, hq, by rw [<- ho]⟩
theorem closed_sw (hz : SwReg all z) {D : Nat -> Prop} (h : Closed all D) : Closed (swOps all z) D := fun i o ho hi e he hb => by
 obtain ⟨o', h1, h2⟩ := swOps_back hz ho
 exact h i o' h1 hi e (h2 ▸ he) hb
structure SwSeg (P : Program) (all : List Oper) (z : Sw) (fr0 : List AV) (hp0 : Heap) (L : List Info) : Prop where
 len : L.length <= all.length
 la : z.a < L.length -> (L.getD z.a default).new = [] /\ (zeroL P z.t).isSome = true
 ls : z.s < L.length -> ∃ l, l = cellsA (evM ((tmpsO [z.x]).map fun t => (t, unGd [] (getL (frs (swOps all z) 0 fr0 L z.s) t))) z.x) /\ l.length = sizeT P z.t /\ 0 < sizeT P z.t /\ oneL l = true /\
  (L.getD z.s default).val = .own (hps hp0 L z.s).length 0 /\ (L.getD z.s default).new = [.cells z.t l]
 step : ∀ q, q < L.length -> q ≠ z.a -> q ≠ z.s -> ∃ o, all[q]? = some o /\ StepOK P all [] [] o (frs (swOps all z) 0 fr0 L q) (hps hp0 L q) (L.getD q default)
def SwEnd (P : Program) (S : Sums) (all : List Oper) (z : Sw) (R : AV -> Heap -> Prop) (K : List AV -> Heap -> VC) (fr0 : List AV) (hp0 : Heap) (L : List Info) : Prop :=
 (L.length = all.length /\ (K (cleanL (frs (swOps all z) 0 fr0 L L.length)) (hps hp0 L L.length)).sat R) \/
 (L.length + 1 = all.length /\ z.a ≠ L.length /\ z.s ≠ L.length /\ barAt true all L.length = true /\ ∃ o, all[L.length]? = some o /\ turnOp o.op = true /\ ∃ ρ, Sees (frs (swOps all z) 0 fr0 L L.length) ρ /\
  ∃ fr' hp' a, BO S (frs (swOps all z) 0 fr0 L L.length) (hps hp0 L L.length) (aop P S ρ (hps hp0 L L.length) o.op) fr' hp' a /\ (K (cleanL (setO fr' o.dst (noGd a))) hp').sat R)
theorem sw_seg (hS : SumsOK P S) (hz : SwReg all z) {R : AV -> Heap -> Prop} {K : List AV -> Heap -> VC} {fr0 : List AV} {hp0 : Heap} {fb : Bool} (hfb : fb = true -> barAt true all (all.length - 1) = true) : ∀ (rest : List Oper) (L : List Info), SwSeg P all z fr0 hp0 L -> (swOps all z).drop L.length = rest ->
  (runSw P S z fb L.length rest (frs (swOps all z) 0 fr0 L L.length) (hps hp0 L L.length) K).sat R ->
  ∃ L', SwSeg P all z fr0 hp0 L' /\ SwEnd P S all z R K fr0 hp0 L' := by
 intro rest
 induction rest with
 | nil =>
   intro L hs hd h
   refine ⟨L, hs, .inl ⟨?_, by simpa only [runSw, cleanF_eq] using h⟩⟩
   have := List.drop_eq_nil_iff.1 hd
   have := hs.len
   rw [swOps_len] at *
   omega
 | cons o rest ih =>
   intro L hs hd h
   have hlt : L.length < all.length := by
    rw [<- swOps_len (z := z)]
    rcases Nat.lt_or_ge L.length (swOps all z).length with h | h
    ·exact h
    ·rw [List.drop_eq_nil_of_le h] at hd; cases hd
   have ho : (swOps all z)[L.length]? = some o := by
    have := List.getElem?_drop (xs := swOps all z) (i := L.length) (j := 0)
    rw [hd] at this; simpa using this.symm
   have hd' : (swOps all z).drop (L.length + 1) = rest := by
    rw [<- List.drop_drop, hd]; rfl
   have hoa : all[L.length]? = some (all[L.length]'hlt) := List.getElem?_eq_getElem _
   obtain ⟨dd, hg, hdst, hd1, hd2, hd3⟩ := swOps_at hz hoa
   have eo : o = { all[L.length]'hlt with dst := dd } := by rw [ho] at hg; injection hg
   have next : ∀ i : Info, (z.a = L.length -> i.new = [] /\ (zeroL P z.t).isSome = true) ->
     (z.s = L.length -> ∃ l, l = cellsA (evM ((tmpsO [z.x]).map fun t => (t, unGd [] (getL (frs (swOps all z) 0 fr0 L L.length) t))) z.x) /\ l.length = sizeT P z.t /\ 0 < sizeT P z.t /\ oneL l = true /\ i.val = .own (hps hp0 L L.length).length 0 /\ i.new = [.cells z.t l]) ->
     (L.length ≠ z.a -> L.length ≠ z.s -> StepOK P all [] [] (all[L.length]'hlt) (frs (swOps all z) 0 fr0 L L.length) (hps hp0 L L.length) i) ->
     (runSw P S z fb (L.length + 1) rest (setO (frs (swOps all z) 0 fr0 L L.length) dd i.val) (hps hp0 L L.length ++ i.new) K).sat R ->
     ∃ L', SwSeg P all z fr0 hp0 L' /\ SwEnd P S all z R K fr0 hp0 L' := by
    intro i hna hns hst hh
    have e1 : frs (swOps all z) 0 fr0 (L ++ [i]) (L ++ [i]).length = setO (frs (swOps all z) 0 fr0 L L.length) dd i.val := by
     rw [List.length_append, List.length_singleton]
     simp only [frs]
     rw [frs_snoc (Nat.le_refl _), getD_snoc, Nat.zero_add, hdst]
    have e2 : hps hp0 (L ++ [i]) (L ++ [i]).length = hps hp0 L L.length ++ i.new := by
     rw [List.length_append, List.length_singleton]
     simp only [hps]
     rw [hps_snoc (Nat.le_refl _), getD_snoc]
    have e3 : (L ++ [i]).length = L.length + 1 := by simp
    refine ih (L ++ [i]) ⟨by rw [e3]; omega, fun ha => ?_, fun hs' => ?_, fun q hq hqa hqs => ?_⟩ (by rw [e3]; exact hd') (by rw [e1, e2, e3]; exact hh)
    ·rw [e3] at ha
     rcases Nat.lt_or_ge z.a L.length with h | h
     ·rw [getD_snoc_lt h]; exact hs.la h
     ·have : z.a = L.length := by omega
      rw [this, getD_snoc]; exact hna this
    ·rw [e3] at hs'
     rcases Nat.lt_or_ge z.s L.length with h | h
     ·rw [getD_snoc_lt h, frs_snoc (by omega), hps_snoc (by omega)]; exact hs.ls h
     ·have : z.s = L.length := by omega
      rw [this, getD_snoc, frs_snoc (Nat.le_refl _), hps_snoc (Nat.le_refl _)]; exact hns this
    ·rw [e3] at hq
     rcases Nat.lt_or_ge q L.length with hql | hql
     ·rw [getD_snoc_lt hql, frs_snoc (by omega), hps_snoc (by omega)]; exact hs.step q hql hqa hqs
     ·obtain rfl : q = L.length := by omega
      rw [getD_snoc, frs_snoc (Nat.le_refl _), hps_snoc (Nat.le_refl _)]
      exact ⟨_, hoa, hst hqa hqs⟩
   simp only [runSw] at h
   split at h
   ·rename_i ha
    have ha := Nat.eq_of_beq_eq_true ha
    split at h
    ·rename_i l hl
     refine next ⟨none, true, .top, []⟩ (fun _ => ⟨rfl, by rw [hl]; rfl⟩) (fun hs' => absurd (ha.symm.trans hs'.symm) hz.ne) (fun hn => absurd ha hn) ?_
     rw [hd2 ha]
     simpa [setO] using h
    ·exact h.elim
   ·rename_i ha hs'
    have hs' := Nat.eq_of_beq_eq_true hs'
    rw [forceM_eq, forceL_eq] at h
    split at h
    ·rename_i hc
     simp only [Bool.and_eq_true, decide_eq_true_eq] at hc
     rw [forceH_eq, setF_eq, appH_eq] at h
     refine next ⟨none, false, .own (hps hp0 L L.length).length 0, [.cells z.t _]⟩ (fun ha' => absurd (ha'.trans hs') hz.ne) (fun _ => ⟨_, rfl, hc.1.1, hc.1.2, hc.2, rfl, rfl⟩) (fun _ hn => absurd hs' hn) ?_
     rw [hd3 hs']
     exact h
    ·exact h.elim
   ·rename_i ha hs'
    have hqa : L.length ≠ z.a := fun e => by rw [e] at ha; simp at ha
    have hqs : L.length ≠ z.s := fun e => by rw [e] at hs'; simp at hs'
    have hdd := hd1 hqa hqs
    rw [hdd] at eo
    have eo : o = all[L.length]'hlt := eo
    rcases runOp_sat hS (T := []) (ctx := none) trivial h with ⟨b, new, h1, h2⟩ | ⟨hn, _, htu, ρ, hρ, fr', hp', a, h1, h2⟩
    ·refine next ⟨none, false, b, new⟩ (fun e => absurd e.symm hqa) (fun e => absurd e.symm hqs) (fun _ _ => ⟨.refl _, by unfold Wants; rw [hz.ng _ _ hoa]; rfl, fun _ => ⟨by rw [<- eo]; exact h1, trivial⟩, fun h => by cases h⟩) ?_
     rw [hdd, <- eo]
     exact h2
    ·cases rest with
     | cons _ _ => cases hn
     | nil =>
       have hl1 : L.length + 1 = all.length := by
        have := List.drop_eq_nil_iff.1 hd'
        rw [swOps_len] at this; omega
       simp only [runSw, cleanF_eq] at h2
       refine ⟨L, hs, .inr ⟨hl1, Ne.symm hqa, Ne.symm hqs, by have := hfb hn; rwa [show all.length - 1 = L.length by omega] at this, o, by rw [eo]; exact hoa, htu, ρ, hρ, fr', hp', a, h1, h2⟩⟩
structure SwObj (P : Program) (z : Sw) (n0 : Nat) (C : Cx) (w : World) (act : Act) (b : Nat) : Prop where
 val : act.tmps.getD z.d undef = .pointer (some ⟨b, 0, none⟩)
 new : n0 <= b
 lt : b < w.heap.size
 cell : ∃ zs : Array Value, w.heap[b]? = some (.cells zs z.t (0, 0)) /\ zs.size = sizeT P z.t
 ni : ¬ C.I b
 nr : ∀ i b' c n, C.ρ i = some (.at b' c n) -> b' ≠ b
structure SwInv (P : Program) (S : Sums) (all : List Oper) (z : Sw) (fr0 : List AV) (hp0 : Heap) (L : List Info) (Cs : Cx) (ws : World) (D : Array Bool) (C : Cx) (w : World) (act : Act) : Prop where
 size : D.size = all.length
 closed : Closed all (Lst D)
 core : Core (fun q => dstOf (swOps all z) q) (fun q => Lst D q) fr0 hp0 L [] C w act
 tr : Tr S.lo Cs ws C w
 ob : Lst D z.a -> ¬ Lst D z.s -> ∃ b, SwObj P z ws.heap.size C w act b
 last : L.length < all.length -> ¬ Lst D L.length
theorem Core.put {dd : Nat -> Option Nat} {dn dn' : Nat -> Prop} {fr0 : List AV} {hp0 : Heap} {L : List Info} {act : Act} (hi : Core dd dn fr0 hp0 L [] C w act) (hx : Cext C w C' w') (hr : HR C' (hps hp0 L L.length) w')
  (hfree : ∀ q, q < L.length -> ¬ dn' q -> ∀ t, t < (L.getD q default).new.length -> C'.ρ ((hps hp0 L q).length + t) = none) (hd : ∀ q, q < L.length -> dn' q -> dn q \/ ∃ t, dd q = some t /\ RelG [] C' w' (L.getD q default).val (act.tmps.getD t undef))
  (hdn : ∀ q, q < L.length -> dn q -> dn' q) : Core dd dn' fr0 hp0 L [] C' w' act := by
 refine ⟨hr, hfree, fun q hq hn t hdt hlt => ?_, fun t ht => (hi.v2 t (ht.imp (fun h q hq hn => h q hq (hdn q hq hn)) id)).mono hx, hi.tsz⟩
 rcases hd q hq hn with h | ⟨t', h1, h2⟩
 ·exact (hi.v1 q hq h t hdt hlt).mono hx
 ·rw [hdt] at h1; injection h1 with h1; subst h1; exact h2
theorem HR.alloc (h : HR C H w) (o : Obj) : HR C H (w.alloc o) /\ Cext C w C (w.alloc o) := by
 have hx : Cext C w C (w.alloc o) := ⟨fun _ _ h => h, fun _ h => h, fun b hb => heap_alloc w o b (h.ilt b hb)⟩
 exact ⟨⟨fun i p hi => (h.live i p hi).mono hx fun q c m hq => heap_alloc w o q (by subst hq; exact (h.fresh _ _ _ _ hi).1), h.inj, fun i b c n hi => ⟨Nat.lt_of_lt_of_le (h.fresh _ _ _ _ hi).1 (by simp), (h.fresh _ _ _ _ hi).2⟩,
  fun b hb => Nat.lt_of_lt_of_le (h.ilt b hb) (by simp)⟩, hx⟩
theorem Tr.alloc (lo : Nat) (hi : ∀ b, C.I b -> b < w.heap.size) (o : Obj) : Tr lo C w C (w.alloc o) :=
 ⟨rfl, rfl, rfl, by simp, fun k hk _ => heap_alloc w o k hk, fun _ h => h, fun _ h => .inl h, fun _ _ => rfl, fun i b c n h h' => .inl ⟨i, c, n, h, h'⟩⟩
theorem sw_store {lo j : Nat} {Cs : Cx} {ws : World} {act : Act} {b : Nat} (hH : HR C H w) (ht : Tr lo Cs ws C w) (hob : SwObj P z ws.heap.size C w act b) (hj : C.ρ j = none) (hlo : lo <= j) {x : AV} {v : Value} (hx : Rel C w x v)
  (hl : (cellsA x).length = sizeT P z.t) (hpos : 0 < sizeT P z.t) (ho : oneL (cellsA x) = true) (hg : getB H j = .cells z.t (cellsA x)) :
  ∃ w' C', (Instr.storeAt z.t (act.tmps.getD z.d undef) v).run P w = .ok () w' /\ HR C' H w' /\ Cext C w C' w' /\ Tr lo Cs ws C' w' /\ C' = C.put j (.at b 0 0) := by
 obtain ⟨zs, hz1, hz2⟩ := hob.cell
 have hjl : j < H.length := getB_lt (by rw [hg]; simp)
 have hx1 : Cext C w (C.put j (.at b 0 0)) w := ⟨fun i p hp => by
  by_cases hi : i = j
  ·subst hi; rw [hj] at hp; cases hp
  ·rw [Cx.put_ne hi]; exact hp, fun _ h => h, fun _ _ => rfl⟩
 have htop : ∀ l : List Value, RelL (C.put j (.at b 0 0)) w (l.map fun _ => AV.top) l := fun l => by
  induction l with
  | nil => exact .nil
  | cons a l ih => exact .cons _ _ _ _ (.top _) ih
 have hH1 : HR (C.put j (.at b 0 0)) (setB H j (.cells z.t (zs.toList.map fun _ => AV.top))) w := by
  refine ⟨fun i p hp => ?_, fun i i' b1 c m b2 c' m' hp hp' hne => ?_, fun i b1 c m hp => ?_, hH.ilt⟩
  ·by_cases hi : i = j
   ·subst hi; rw [Cx.put_eq] at hp; injection hp with hp; subst hp
    rw [getB_set, if_pos ⟨rfl, hjl⟩]
    exact ⟨zs.toList, htop _, by simpa using hz1⟩
   ·rw [Cx.put_ne hi] at hp
    rw [getB_set_ne hi]
    exact (hH.live i p hp).mono hx1 fun _ _ _ _ => rfl
  ·by_cases hi : i = j
   ·by_cases hi' : i' = j
    ·omega
    ·subst hi; rw [Cx.put_eq] at hp; rw [Cx.put_ne hi'] at hp'
     injection hp with hp; injection hp with hp _ _
     rw [<- hp]; exact Ne.symm (hob.nr _ _ _ _ hp')
   ·rw [Cx.put_ne hi] at hp
    by_cases hi' : i' = j
    ·subst hi'; rw [Cx.put_eq] at hp'
     injection hp' with hp'; injection hp' with hp' _ _
     rw [<- hp']; exact hob.nr _ _ _ _ hp
    ·rw [Cx.put_ne hi'] at hp'; exact hH.inj _ _ _ _ _ _ _ _ hp hp' hne
  ·by_cases hi : i = j
   ·subst hi; rw [Cx.put_eq] at hp; injection hp with hp; injection hp with hp _ _
    rw [<- hp]; exact ⟨hob.lt, hob.ni⟩
   ·rw [Cx.put_ne hi] at hp; exact hH.fresh _ _ _ _ hp
 have hlen : (zs.toList.map fun _ => AV.top).length = sizeT P z.t := by simp [hz2]
 have hst : storeA P (setB H j (.cells z.t (zs.toList.map fun _ => AV.top))) z.t (.own j 0) x = .upd j (.cells z.t (pasteL (zs.toList.map fun _ => AV.top) 0 (cellsA x))) := by
  unfold storeA
  have h1 : decide ((cellsA x).length = sizeT P z.t /\ 0 < sizeT P z.t) = true := by simp [hl, hpos]
  have h2 : getB (setB H j (.cells z.t (zs.toList.map fun _ => AV.top))) j = .cells z.t (zs.toList.map fun _ => AV.top) := by rw [getB_set, if_pos ⟨rfl, hjl⟩]
  simp only [h1, h2]
  have h3 : (decide (0 + (cellsA x).length <= (zs.toList.map fun _ => AV.top).length) && oneL (cellsA x)) = true := by
   rw [hlen, ho]; simp [hl]
  simp only [h3]
 obtain ⟨w', hrun, h1, h2, h3⟩ := store_upd hH1 (.own _ _ _ _ _ Cx.put_eq) (hx.mono hx1) hst lo
 have hpaste : pasteL (zs.toList.map fun _ => AV.top) 0 (cellsA x) = cellsA x := by
  rw [pasteL_eq, List.take_zero, List.nil_append, List.drop_eq_nil_of_le (by rw [hlen]; omega), List.append_nil]
 have hset : setB (setB H j (.cells z.t (zs.toList.map fun _ => AV.top))) j (.cells z.t (cellsA x)) = H := by
  rw [setB_eq, setB_eq, List.set_set, <- hg]
  rw [getB_eq, List.getD_eq_getElem?_getD, List.getElem?_eq_getElem hjl]
  simp
 rw [hpaste, hset] at h1
 have ht1 : Tr lo Cs ws (C.put j (.at b 0 0)) w := by
  refine ⟨ht.os, ht.tape, ht.output, ht.size, ht.keep, ht.imm, ht.imm', fun i hi => ?_, fun i b1 c n hi hp => ?_⟩
  ·rw [Cx.put_ne (by omega)]; exact ht.rho i hi
  ·by_cases hij : i = j
   ·subst hij; rw [Cx.put_eq] at hp; injection hp with hp; injection hp with hp _ _
    rw [<- hp]; exact .inr hob.new
   ·rw [Cx.put_ne hij] at hp; exact ht.own _ _ _ _ hi hp
 exact ⟨w', C.put j (.at b 0 0), by rw [hob.val]; exact hrun, h1, hx1.trans h2, ht1.trans h3, rfl⟩
theorem sw_any (hS : SumsOK P S) (hz : SwReg all z) {R : AV -> Heap -> Prop} {K : List AV -> Heap -> VC} {Q : Exit -> Act -> World -> Prop} {ds : Act -> Prop} (hput : PutOK all ds) {ro : Option Nat} {rm : Nat} {fr0 : List AV} {hp0 : Heap} {L : List Info} {Cs : Cx} {ws : World}
  (hseg : SwSeg P all z fr0 hp0 L) (hend : SwEnd P S all z R K fr0 hp0 L) (hlo : S.lo <= hp0.length) (hd0 : z.d < fr0.length) (htop : getL fr0 z.d = .top) (hgoal : Goal P S R K Q Cs ws ds) :
  ∀ (fuel : Nat) (D : Array Bool) (C : Cx) (w : World) (act : Act), SwInv P S all z fr0 hp0 L Cs ws D C w act -> unl (fun i => D.getD i false) all.length <= fuel -> ds act -> wpAnyIn (fen ro) rm P .any all.toArray Q fuel D act w := by
 have fin : ∀ {D : Array Bool} {C : Cx} {w : World} {act : Act}, SwInv P S all z fr0 hp0 L Cs ws D C w act -> ds act -> (∀ i, i < all.length -> Lst D i) -> Q .normal act w := by
  intro D C w act hi hds hall
  rcases hend with ⟨hlen, hK⟩ | ⟨hlen, _⟩
  rotate_left
  ·exact absurd (hall L.length (by omega)) (hi.last (by omega))
  have hF := hi.core.frame fun q hq => hall q (by omega)
  have e : frsG (fun q => dstOf (swOps all z) q) fr0 L L.length = frs (swOps all z) 0 fr0 L L.length := by
   rw [frs_eq]
   congr 1
   funext q
   rw [Nat.zero_add]
  rw [e] at hF
  obtain ⟨r, hr⟩ := hps_app hp0 L L.length
  exact hgoal _ _ C w act hK (by rw [hr]; simp; omega) hi.core.hr hF.clean hi.tr hds
 have hback : Back all := fun i o ho e he hb => by
  obtain ⟨d, h1, _⟩ := swOps_at hz ho
  exact hz.bk i _ h1 e he hb
 intro fuel
 induction fuel with
 | zero =>
   intro D C w act hi hfu hds
   have hall : ∀ i, i < all.length -> Lst D i := unl_zero (by omega)
   refine ⟨?_, fin hi hds hall⟩
   cases hr : Region.ready .any all.toArray D with
   | nil => rfl
   | cons i l =>
     obtain ⟨o, h1, h2, _⟩ := ready_mem (show i ∈ Region.ready .any all.toArray D by rw [hr]; simp)
     have hlt := (List.getElem?_eq_some_iff.1 h1).1
     rw [getD_tf (by rw [hi.size]; exact hlt)] at h2
     have := hall i hlt
     rw [show D.getD i false = true from this] at h2; cases h2
 | succ fuel ih =>
   intro D C w act hi hfu hds
   refine ⟨fun hr => fin hi hds (all_listed hback hi.size hr), fun q hir => ?_⟩
   obtain ⟨o, ho, hnl', hpre, hLst, hclosed, hfu1, hsz⟩ := ready_facts hi.size hi.closed hir
   have hlt := (List.getElem?_eq_some_iff.1 ho).1
   have hfu' := hfu1 fuel hfu
   have hao : all.toArray[q]? = some o := by simpa using ho
   obtain ⟨dq, hg', hdst, hd1, hd2, hd3⟩ := swOps_at hz ho
   have hwt : Region.wanted o (yielded all.toArray act.tmps) = true := by unfold Region.wanted; rw [hz.ng _ _ ho]
   unfold wpOpIn
   simp only [hao, hwt, if_true]
   have hcl := closed_sw hz hi.closed
   have hL1 : L.length = all.length \/ L.length + 1 = all.length := by
    rcases hend with ⟨h, _⟩ | ⟨h, _⟩
    ·exact .inl h
    ·exact .inr h
   rcases Nat.lt_or_ge q L.length with hq | hqL
   rotate_left
   ·-- the last one, which turns
    rcases hend with ⟨h, _⟩ | ⟨hlen, hna, hns, hbar, o', ho', htu, ρ, hρ, fr', hp', a, hbo, hK⟩
    ·omega
    obtain rfl : q = L.length := by omega
    rw [ho] at ho'; injection ho' with ho'; subst ho'
    have hall : ∀ p, p < L.length -> Lst D p := fun p hp => ord_closed hback hi.closed _ _ ho hpre ((bar_spec hbar (by omega)).1 hp)
    have hF := hi.core.frame fun p hp => hall p hp
    have e : frsG (fun q => dstOf (swOps all z) q) fr0 L L.length = frs (swOps all z) 0 fr0 L L.length := by
     rw [frs_eq]
     congr 1
     funext q
     rw [Nat.zero_add]
    rw [e] at hF
    obtain ⟨rb, hrb⟩ := hps_app hp0 L L.length
    have hlo1 : S.lo <= (hps hp0 L L.length).length := by rw [hrb]; simp; omega
    refine Ran.wpIn ((exec_big hS o htu hρ hi.core.hr hF hlo1 hbo).mono fun v w' ⟨C', h1, h2, h3, h4⟩ => ?_)
    have hF2 : FR [] C' w' (setO fr' o.dst (noGd a)) (act.put o.dst v).tmps := h3.put (.plain (rel_noGd h2) (notGd_noGd _)) _
    have hQ : Q .normal (act.put o.dst v) w' := hgoal _ _ C' w' _ hK (Nat.le_trans hlo1 hbo.len) h1 hF2.clean (hi.tr.trans h4) (hput o (List.mem_of_getElem? ho) act v hds)
    have hall' : ∀ i, i < all.length -> Lst (D.setIfInBounds L.length true) i := fun i hi' => (hLst i).2 (by
     rcases Nat.lt_or_ge i L.length with h | h
     ·exact .inl (hall i h)
     ·exact .inr (by omega))
    have hnr : ∀ i, i ∉ Region.ready .any all.toArray (D.setIfInBounds L.length true) := fun i hir' => by
     obtain ⟨o2, h1, h2, _⟩ := ready_mem hir'
     have hlt2 := (List.getElem?_eq_some_iff.1 h1).1
     rw [getD_tf (by rw [hsz]; exact hlt2)] at h2
     have := hall' i hlt2
     rw [show (D.setIfInBounds L.length true).getD i false = true from this] at h2; cases h2
    cases fuel with
    | zero =>
      refine ⟨?_, hQ⟩
      cases hr : Region.ready .any all.toArray (D.setIfInBounds L.length true) with
      | nil => rfl
      | cons i l => exact absurd (show i ∈ Region.ready .any all.toArray (D.setIfInBounds L.length true) by rw [hr]; simp) (hnr i)
    | succ fuel => exact ⟨fun _ => hQ, fun i hi' => absurd hi' (hnr i)⟩
   have hlast : L.length < all.length -> ¬ Lst (D.setIfInBounds q true) L.length := fun h hl => by
    rcases (hLst L.length).1 hl with h' | h'
    ·exact hi.last h h'
    ·omega
   have hlook : ∀ t ∈ looksL (swOps all z) { o with dst := dq }, RelG [] C w (getL (frs (swOps all z) 0 fr0 L q) t) (act.tmps.getD t undef) := fun t ht => by
    have e : frs (swOps all z) 0 fr0 L q = frsG (fun q => dstOf (swOps all z) q) fr0 L q := by
     rw [frs_eq]
     congr 1
     funext q
     rw [Nat.zero_add]
    rw [e]
    refine hi.core.look (by omega) (fun p hp hd => ?_) (.inl fun p hpq hp hl hd => ?_)
    ·obtain ⟨o', ho', hd'⟩ := dstOf_some hd
     exact ord_closed hz.bk hcl _ _ hg' hpre ((tmp_spec hz.tm ho' hd' hg' ht).1 hp)
    ·rcases Nat.lt_or_ge q p with h | h
     ·obtain ⟨o', ho', hd'⟩ := dstOf_some hd
      exact hnl' (ord_mem hz.bk hcl (by rw [swOps_len]; omega) hl ((tmp_spec hz.tm ho' hd' hg' ht).2 h))
     ·obtain rfl : p = q := by omega
      exact hnl' hl
   have hdsz : z.d < act.tmps.size := by rw [<- hi.core.tsz]; exact hd0
   obtain ⟨oA, hoA, hoAd, hoAo⟩ := hz.oa
   obtain ⟨oS, hoS, hoSd, hoSo⟩ := hz.os
   have hla0 := (List.getElem?_eq_some_iff.1 hoA).1
   have hls0 := (List.getElem?_eq_some_iff.1 hoS).1
   have hla : z.a < L.length := by
    rcases hend with ⟨h, _⟩ | ⟨h, h1, _⟩
    ·omega
    ·omega
   have hls : z.s < L.length := by
    rcases hend with ⟨h, _⟩ | ⟨h, _, h1, _⟩
    ·omega
    ·omega
   have hsa : ∀ {D : Array Bool}, Closed all (Lst D) -> Lst D z.s -> Lst D z.a := fun hc hl => ord_mem hback hc (by omega) hl hz.ord
   by_cases hqa : q = z.a
   ·-- the making
    subst hqa
    rw [hoA] at ho; injection ho with ho; subst ho
    obtain ⟨hnew, hzs⟩ := hseg.la hla
    obtain ⟨l, hl⟩ := Option.isSome_iff_exists.1 hzs
    obtain ⟨ti, zv, hti, hzv, hsz', rfl⟩ := zeroL_some hl
    have hns : ¬ Lst D z.s := fun h => hnl' (hsa hi.closed h)
    have hran : Ran P oA act.eval w fun v w' => v = .pointer (some ⟨w.heap.size, 0, none⟩) /\ w' = w.alloc (.cells zv.cells z.t) := by
     obtain ⟨dst, op, type, pos, after, guard⟩ := oA
     simp only at hoAo
     subst hoAo
     exact run_of_post (m := Instr.alloc z.t true _) rfl ⟨_, _, by simp [Instr.alloc, zeroValue, typeInfo, hti, hzv, newVar, newRow], rfl, rfl⟩
    refine Ran.wpIn (hran.mono fun v w' ⟨hv, hw'⟩ => ?_)
    subst hv hw'
    obtain ⟨hH1, hx⟩ := hi.core.hr.alloc (.cells zv.cells z.t)
    have hgd : ∀ t, (act.put oA.dst (.pointer (some ⟨w.heap.size, 0, none⟩))).tmps.getD t undef = if t = z.d then .pointer (some ⟨w.heap.size, 0, none⟩) else act.tmps.getD t undef := fun t => by
     rw [put_get, hoAd]
     by_cases h : t = z.d
     ·subst h; simp [hdsz]
     ·rw [if_neg h, if_neg]
      rintro ⟨h', _⟩; injection h' with h'; exact h h'.symm
    have hddd : ∀ p, p < L.length -> dstOf (swOps all z) p = some z.d -> p = z.s := fun p hp hd => by
     obtain ⟨o', ho', hd'⟩ := dstOf_some hd
     rcases Classical.em (p = z.s) with h | h
     ·exact h
     ·exfalso
      obtain ⟨d2, hg2, _, _, _, h3⟩ := swOps_at hz hoS
      rw [h3 rfl] at hg2
      exact (uniq_spec hz.uq ho').1 z.d hd' z.s _ (Ne.symm h) hg2 rfl
    refine ih _ C _ _ ⟨hsz, hclosed, ⟨hH1, fun p hp hn => hi.core.free p hp fun h => hn ((hLst p).2 (.inl h)), fun p hp hl t hdt hlt' => ?_, fun t ht => ?_, ?_⟩, hi.tr.trans (.alloc _ hi.core.hr.ilt _), fun _ _ => ⟨w.heap.size, ?_, hi.tr.size, by simp, ⟨zv.cells, by simpa using heap_new_cells w zv.cells z.t, ?_⟩, fun h => by have := hi.core.hr.ilt _ h; omega, fun i b' c n h e => by have := (hi.core.hr.fresh _ _ _ _ h).1; omega⟩, hlast⟩ hfu' (hput oA (List.mem_of_getElem? hoA) _ _ hds)
    ·rw [hgd]
     have hpa : p ≠ z.a := fun e => by rw [e, hdst, hd2 rfl] at hdt; cases hdt
     have hlp : Lst D p := by
      rcases (hLst p).1 hl with h | h
      ·exact h
      ·exact absurd h hpa
     rw [if_neg]
     ·exact (hi.core.v1 p hp hlp t hdt hlt').mono hx
     ·intro e; subst e
      have := hddd p hp hdt
      subst this
      exact hns hlp
    ·rw [hgd]
     split
     ·rename_i e; subst e; rw [htop]; exact .plain (.top _) trivial
     ·exact (hi.core.v2 t (ht.imp (fun h p hp hl => h p hp ((hLst p).2 (.inl hl))) id)).mono hx
    ·rw [hi.core.tsz, hoAd]; simp [Act.put]
    ·rw [hgd, if_pos rfl]
    ·have : sizeT P z.t = ti.size := by unfold sizeT; rw [hti]
     rw [this, <- hsz']
   ·by_cases hqs : q = z.s
    ·-- the store
     subst hqs
     rw [hoS] at ho; injection ho with ho; subst ho
     have hla' : Lst D z.a := ord_closed hback hi.closed _ _ hoS hpre hz.ord
     obtain ⟨b, hob⟩ := hi.ob hla' hnl'
     obtain ⟨l, hl, hl1, hl2, hl3, hval, hnew⟩ := hseg.ls hls
     have hxr : Rel C w (evM ((tmpsO [z.x]).map fun t => (t, unGd [] (getL (frs (swOps all z) 0 fr0 L z.s) t))) z.x) (act.eval z.x) := evM_ops (T := []) (fun t ht => hlook t (looks_op (by
      have : z.x = .tmp t := by
       cases hzx : z.x <;> rw [hzx] at ht <;> simp [tmpsO] at ht
       rw [ht]
      show (.tmp t : Operand) ∈ oS.op.operands
      rw [hoSo, this]; simp [Op.operands]))) z.x
     have hj : C.ρ (hps hp0 L z.s).length = none := by
      exact hi.core.free z.s hls hnl' 0 (by rw [hnew]; simp)
     have hat : getB (hps hp0 L L.length) (hps hp0 L z.s).length = .cells z.t l := by
      have := hps_at (hp0 := hp0) hls (t := 0) (by rw [hnew]; simp)
      rw [hnew] at this
      simpa [getB] using this
     obtain ⟨rb, hrb⟩ := hps_app hp0 L z.s
     obtain ⟨w', C', hrun, h1, h2, h3, hC'⟩ := sw_store hi.core.hr hi.tr hob hj (by rw [hrb]; simp; omega) hxr (by rw [<- hl]; exact hl1) hl2 (by rw [<- hl]; exact hl3) (by rw [<- hl]; exact hat)
     have hran : Ran P oS act.eval w fun v w'' => v = undef /\ w'' = w' := by
      refine .inr (.inr ⟨w', ?_, rfl, rfl⟩)
      obtain ⟨dst, op, type, pos, after, guard⟩ := oS
      simp only at hoSo
      subst hoSo
      have hrun' : (Instr.storeAt z.t (act.eval (.tmp z.d)) (act.eval z.x)).run P w = .ok () w' := hrun
      simp [execOp, hrun']
     refine Ran.wpIn (hran.mono fun v w'' ⟨hv, hw'⟩ => ?_)
     subst hv; subst hw'
     have hput0 : act.put oS.dst undef = act := by rw [hoSd]; rfl
     rw [hput0]
     refine ih _ C' _ _ ⟨hsz, hclosed, hi.core.put h2 h1 (fun p hp hn t ht => ?_) (fun p hp hl => ?_) (fun p _ h => (hLst p).2 (.inl h)), h3, fun _ hn => absurd ((hLst z.s).2 (.inr rfl)) hn, hlast⟩ hfu' (by rw [<- hput0]; exact hput oS (List.mem_of_getElem? hoS) _ _ hds)
     ·rw [hC', Cx.put_ne]
      ·exact hi.core.free p hp (fun h => hn ((hLst p).2 (.inl h))) t ht
      ·have hps' : p ≠ z.s := fun e => hn ((hLst p).2 (.inr e))
       rcases Nat.lt_or_ge p z.s with h | h
       ·obtain ⟨r, hr⟩ := hps_le hp0 L (show p + 1 <= z.s by omega)
        rw [hr]; simp only [hps, List.length_append]; omega
       ·obtain ⟨r, hr⟩ := hps_le hp0 L (show z.s + 1 <= p by omega)
        rw [hr]; simp only [hps, List.length_append, hnew, List.length_singleton]; omega
     ·rcases (hLst p).1 hl with h | h
      ·exact .inl h
      ·subst h
       refine .inr ⟨z.d, by rw [hdst, hd3 rfl], ?_⟩
       rw [hval, hob.val]
       exact .plain (.own _ _ _ _ _ (by rw [hC']; exact Cx.put_eq)) trivial
    ·-- any other
     obtain ⟨o', ho', hst⟩ := hseg.step q hq hqa hqs
     rw [ho] at ho'; injection ho' with ho'; subst ho'
     have hdq := hd1 hqa hqs
     subst hdq
     obtain ⟨rb, hrb⟩ := hps_app hp0 L q
     have hk : ∀ v w', (∃ C', HR C' (hps hp0 L L.length) w' /\ RelG [] C' w' (L.getD q default).val v /\ Grow (hps hp0 L q).length (L.getD q default).new.length C w C' w') ->
       wpAnyIn (fen ro) rm P .any all.toArray Q fuel (D.setIfInBounds q true) (act.put o.dst v) w' := by
      intro v w' ⟨C', h1, h2, h3⟩
      have hcore := hi.core.next (dn' := fun q' => Lst (D.setIfInBounds q true) q') (q := q) hq hnl' (fun p hp => hLst p) (fun p hp hne t hd hd' => by
        obtain ⟨o2, ho2, hd2⟩ := dstOf_some hd'
        obtain ⟨o1, ho1, hd1'⟩ := dstOf_some hd
        exact (uniq_spec hz.uq ho1).1 t hd1' _ o2 hne ho2 hd2) h1 h2 h3
      simp only [hdst] at hcore
      refine ih _ C' w' _ ⟨hsz, hclosed, hcore, hi.tr.trans (h3.tr (by rw [hrb]; simp; omega)), fun hA hS' => ?_, hlast⟩ hfu' (hput o (List.mem_of_getElem? ho) _ _ hds)
      have hA' : Lst D z.a := by
       rcases (hLst z.a).1 hA with h | h
       ·exact h
       ·exact absurd h.symm hqa
      have hS'' : ¬ Lst D z.s := fun h => hS' ((hLst z.s).2 (.inl h))
      obtain ⟨b, hob⟩ := hi.ob hA' hS''
      obtain ⟨zs, hc1, hc2⟩ := hob.cell
      refine ⟨b, ?_, hob.new, Nat.lt_of_lt_of_le hob.lt h3.size, ⟨zs, (h3.keep b hob.lt).trans hc1, hc2⟩, fun h => ?_, fun i b' c n hp e => ?_⟩
      ·rw [put_get, if_neg]
       ·exact hob.val
       ·rintro ⟨h, _⟩
        obtain ⟨d2, hg2, _, _, _, h3'⟩ := swOps_at hz hoS
        rw [h3' rfl] at hg2
        exact (uniq_spec hz.uq hg').1 z.d h z.s _ (Ne.symm hqs) hg2 rfl
      ·rcases h3.imm' b h with h | h
       ·exact hob.ni h
       ·have := hob.lt; omega
      ·by_cases hr : i < (hps hp0 L q).length \/ (hps hp0 L q).length + (L.getD q default).new.length <= i
       ·rw [h3.rho i hr] at hp; exact hob.nr _ _ _ _ hp e
       ·have := h3.own i b' c n (by omega) (by omega) hp
        have := hob.lt; omega
     rcases run_info hst (.refl _) (act := act) hi.core.hr (hps_pre hq) (hi.core.ff hq hnl') (fun x hx => evG_rel x fun t ht => hlook t (looks_op (ht ▸ hx))) (fun d hd => by
       obtain ⟨j, want, hg, _⟩ := hd
       rw [hz.ng _ _ ho] at hg; cases hg) with ⟨_, hr⟩ | ⟨hw, _⟩
     ·exact Ran.wpIn (hr.mono hk)
     ·rw [hwt] at hw; cases hw
end
end Abs
end Go.Proofs.YtlabbaglbcmofaaGreat

namespace Go.Proofs.YtlabbaglbcmofaaGreat
namespace Abs
open Go Go.RowKit
section
variable {P : Program} {F : Fence} {n : Nat} {Q : Exit -> Act -> World -> Prop} {all : List Oper}
theorem mvX_spec {o : Oper} {x : Operand} (h : mvX o = some x) : o.op = .move x /\ o.guard = none /\ o.after.toList = [] := by
 unfold mvX at h
 split at h
 ·rename_i y hy
  split at h
  ·rename_i h1 h2
   injection h with h; subst h
   exact ⟨hy, h1, h2⟩
  ·cases h
 ·cases h
theorem opIn_mv {ops : Array Oper} {j : Nat} {oi oj : Oper} {x : Operand} (hj : ops[j]? = some oj) (hx : oi.op = .move x) (hap : oi.apart ops oj = true) (hsj : ∀ cs b, oj.op ≠ .select cs b) (hQ : ∀ c a w, ¬ Q (.panic c) a w)
  {K : Act -> World -> Prop} {a : Act} {w : World} {v : Value} (hv : a.eval x = v) (h : wpOpIn F n P ops Q j K (a.put oi.dst v) w) :
  wpOpIn F n P ops Q j (fun a' w' => a'.eval x = v /\ K (a'.put oi.dst v) w') a w := by
 obtain ⟨h1, h2, h3⟩ := Oper.apart_spec hap
 have keep : ∀ (a : Act), a.eval x = v -> ∀ u, (a.put oj.dst u).eval x = v := fun a ha u => by
  rw [Act.eval_put fun d hd hxd => h3 d hd ?_]
  ·exact ha
  ·unfold Oper.looksAt
   rw [hx, hxd]
   exact List.mem_append_left _ (List.mem_filterMap.2 ⟨.tmp d, by simp [Op.operands], rfl⟩)
 have hev : ∀ y ∈ oj.op.operands, (a.put oi.dst v).eval y = a.eval y := fun y hy => Act.eval_put fun d hd hxd => h1 d hd (by
  subst hxd
  exact List.mem_append_left _ (List.mem_filterMap.2 ⟨.tmp d, by simpa using hy, rfl⟩))
 unfold wpOpIn at *
 simp only [hj] at *
 rw [wanted_put oj a oi.dst v h1, about_congr oj w hev] at h
 split
 ·rename_i hw
  simp only [hw, if_true] at h
  unfold Oper.wpIn at *
  rw [about_congr oj w hev, semAt_congr oj hsj hev] at h
  refine ⟨h.1, ?_⟩
  replace h := h.2
  generalize (oj.semAt F.round a.eval).run P w = r at *
  cases r with
  | ok y w' =>
    cases y <;> simp only [Oper.uponIn] at h ⊢
    case value u => exact ⟨keep a hv u, by rw [<- Act.put_comm a v u h2]; exact h⟩
    case skip => exact ⟨keep a hv _, by rw [<- Act.put_comm a v undef h2]; exact h⟩
    case defer d =>
     refine ⟨keep { a with defers := d :: a.defers } hv _, ?_⟩
     rw [<- Act.put_comm _ v undef h2, <- Act.put_defers]
     exact h
    case enter f args =>
     refine ⟨h.1, CallsIn.mono h.2 fun e w'' he => ?_⟩
     cases e with
     | returned u => exact ⟨keep a hv u, by rw [<- Act.put_comm a v u h2]; exact he⟩
     | panicked c => exact absurd he (hQ _ _ _)
     | outgrown => exact he
    case row row args => exact ⟨h.1, RowsIn.mono h.2 fun u w'' he => ⟨keep a hv u, by rw [<- Act.put_comm a v u h2]; exact he⟩⟩
    case round l f tmps assign body =>
     refine ⟨h.1, RoundIn.mono h.2 fun e w'' he => ?_⟩
     cases e with
     | returned u => exact ⟨keep a hv u, by rw [<- Act.put_comm a v u h2]; exact he⟩
     | panicked c => exact absurd he (hQ _ _ _)
     | outgrown => exact he
  | halt x w' =>
    cases x <;> simp only [Oper.uponIn] at h ⊢
    case panic u => exact absurd h (hQ _ _ _)
 ·rename_i hw
  simp only [hw] at h
  exact ⟨h.1, keep a hv _, by rw [<- Act.put_comm a v undef h2]; exact h.2⟩
theorem wpOpIn_mv {ops : Array Oper} {i : Nat} {oi : Oper} {x : Operand} (hi : ops[i]? = some oi) (hx : oi.op = .move x) (hg : oi.guard = none) {K : Act -> World -> Prop} {a : Act} {w : World} (hF : ∀ f, F.fn f) (h : K (a.put oi.dst (a.eval x)) w) :
  wpOpIn F n P ops Q i K a w := by
 unfold wpOpIn
 simp only [hi]
 have hw : Region.wanted oi (yielded ops a.tmps) = true := by unfold Region.wanted; rw [hg]
 rw [hw]
 simp only [if_true]
 refine ⟨fun f _ => hF f, ?_⟩
 rw [Oper.semAt_eq _ _ _ fun c hc => by rw [hx] at hc; cases hc]
 have : (execOp a.eval oi).run P w = .ok (.value (a.eval x)) w := by
  obtain ⟨dst, op, type, pos, after, guard⟩ := oi
  simp only at hx
  subst hx
  simp [execOp]
 rw [this]
 exact h
theorem mv_first {ops : Array Oper} {i : Nat} {oi : Oper} {x : Operand} (hi : ops[i]? = some oi) (hx : oi.op = .move x) (hg : oi.guard = none) (hF : ∀ f, F.fn f) (hsel : ∀ (j : Nat) (o : Oper) cs b, ops[j]? = some o -> o.op ≠ .select cs b) (hQ : ∀ c a w, ¬ Q (.panic c) a w) :
  ∀ (fuel : Nat) (listed : Array Bool) (a : Act) (w : World) (v : Value),
    (∀ j oj, ops[j]? = some oj -> j ≠ i -> listed.getD j true = false -> (∀ e ∈ oj.after, Region.binds .any e = true -> e.on ≠ i) -> oi.apart ops oj = true) ->
    i ∈ Region.ready .any ops listed -> a.eval x = v ->
    wpAnyIn F n P .any ops Q fuel (listed.setIfInBounds i true) (a.put oi.dst v) w -> wpAnyIn F n P .any ops Q (fuel + 1) listed a w := by
 intro fuel
 induction fuel with
 | zero =>
   intro listed a w v _ hr hv H
   refine ⟨fun h => (by rw [h] at hr; cases hr), fun j hj => ?_⟩
   by_cases hji : j = i
   ·subst hji; exact wpOpIn_mv hi hx hg hF (by rw [hv]; exact H)
   ·have := ready_mono hj hji
    rw [H.1] at this
    cases this
 | succ fuel ih =>
   intro listed a w v hfree hr hv H
   refine ⟨fun h => (by rw [h] at hr; cases hr), fun j hj => ?_⟩
   by_cases hji : j = i
   ·subst hji; exact wpOpIn_mv hi hx hg hF (by rw [hv]; exact H)
   ·have h1 := H.2 j (ready_mono hj hji)
    obtain ⟨hjun, oj, hoj, hall⟩ := Go.mem_ready.1 hj
    have hnot : ∀ e ∈ oj.after, Region.binds .any e = true -> e.on ≠ i := fun e he hb heq => by
     have h1 := hall e he hb
     have h0 := (Go.mem_ready.1 hr).1
     rw [heq] at h1
     rcases Nat.lt_or_ge i listed.size with h' | h'
     ·simp [h'] at h0 h1; rw [h0] at h1; cases h1
     ·simp [Array.getElem?_eq_none h'] at h1
    have h2 := opIn_mv (v := v) hoj hx (hfree j oj hoj hji hjun hnot) (fun cs b => hsel j oj cs b hoj) hQ hv h1
    have hfree' : ∀ k ok, ops[k]? = some ok -> k ≠ i -> (listed.setIfInBounds j true).getD k true = false ->
      (∀ e ∈ ok.after, Region.binds .any e = true -> e.on ≠ i) -> oi.apart ops ok = true := fun k ok hk hki hun hno => by
     refine hfree k ok hk hki ?_ hno
     by_cases hjk : j = k
     ·subst hjk; exact hjun
     ·rw [getD_set_ne true hjk] at hun; exact hun
    refine wpOpIn_mono (fun a' w' h3 => ih (listed.setIfInBounds j true) a' w' v hfree' (ready_mono hr (Ne.symm hji)) h3.1 ?_) h2
    rw [Array.setIfInBounds_comm _ _ hji]
    exact h3.2
def mvRun : List Oper -> Act -> Act
 | [], a => a
 | o :: l, a => (match mvX o with | some x => mvRun l (a.put o.dst (a.eval x)) | none => mvRun l a)
def mvLst : List Oper -> Nat -> Array Bool -> Array Bool
 | [], _, D => D
 | o :: l, n, D => (match mvX o with | some _ => mvLst l (n + 1) (D.setIfInBounds n true) | none => mvLst l (n + 1) D)
theorem lenO_eq : ∀ l : List Oper, lenO l = l.length
 | [] => rfl
 | _ :: l => by simp [lenO, lenO_eq l]
theorem mvLst_spec : ∀ (l : List Oper) (m : Nat) (D : Array Bool), m + l.length = D.size -> (mvLst l m D).size = D.size /\ ∀ i, Lst (mvLst l m D) i ↔ Lst D i \/ ∃ j o x, i = m + j /\ l[j]? = some o /\ mvX o = some x
 | [], m, D, _ => ⟨rfl, fun i => ⟨.inl, fun h => by
   rcases h with h | ⟨j, o, x, _, h, _⟩
   ·exact h
   ·simp at h⟩⟩
 | o :: l, m, D, hs => by
   simp only [List.length_cons] at hs
   simp only [mvLst]
   split
   ·rename_i x hx
    obtain ⟨h1, h2⟩ := mvLst_spec l (m + 1) (D.setIfInBounds m true) (by simp; omega)
    refine ⟨by rw [h1]; simp, fun i => ?_⟩
    rw [h2, show Lst (D.setIfInBounds m true) i ↔ Lst D i \/ i = m from by unfold Lst; rw [lst_set (by omega)]; simp]
    constructor
    ·rintro ((h | h) | ⟨j, o', x', h3, h4, h5⟩)
     ·exact .inl h
     ·exact .inr ⟨0, o, x, by omega, by simp, hx⟩
     ·exact .inr ⟨j + 1, o', x', by omega, by simpa using h4, h5⟩
    ·rintro (h | ⟨j, o', x', h3, h4, h5⟩)
     ·exact .inl (.inl h)
     ·cases j with
      | zero => exact .inl (.inr (by omega))
      | succ j => exact .inr ⟨j, o', x', by omega, by simpa using h4, h5⟩
   ·rename_i hx
    obtain ⟨h1, h2⟩ := mvLst_spec l (m + 1) D (by omega)
    refine ⟨h1, fun i => ?_⟩
    rw [h2]
    constructor
    ·rintro (h | ⟨j, o', x', h3, h4, h5⟩)
     ·exact .inl h
     ·exact .inr ⟨j + 1, o', x', by omega, by simpa using h4, h5⟩
    ·rintro (h | ⟨j, o', x', h3, h4, h5⟩)
     ·exact .inl h
     ·cases j with
      | zero => simp at h4; subst h4; rw [hx] at h5; cases h5
      | succ j => exact .inr ⟨j, o', x', by omega, by simpa using h4, h5⟩
theorem mv_all (hF : ∀ f, F.fn f) (hsel : ∀ (j : Nat) (o : Oper) cs b, all[j]? = some o -> o.op ≠ .select cs b) (hQ : ∀ c a w, ¬ Q (.panic c) a w)
  (hap : ∀ (i : Nat) (oi : Oper) (x : Operand), all[i]? = some oi -> mvX oi = some x -> ∀ (j : Nat) (oj : Oper), all[j]? = some oj -> j ≠ i -> (∀ e ∈ oj.after, Region.binds .any e = true -> e.on ≠ i) -> oi.apart all.toArray oj = true) {fuel : Nat} :
  ∀ (l : List Oper) (m : Nat) (D : Array Bool) (a : Act) (w : World), (∀ j, l[j]? = all[m + j]?) -> D.size = all.length -> (∀ i, m <= i -> ¬ Lst D i) ->
    wpAnyIn F n P .any all.toArray Q fuel (mvLst l m D) (mvRun l a) w -> wpAnyIn F n P .any all.toArray Q (fuel + (mvOps l).length) D a w
 | [], m, D, a, w, _, _, _, h => h
 | o :: l, m, D, a, w, hl, hsz, hD, h => by
   have h0 : all[m]? = some o := by simpa using (hl 0).symm
   have hlt := (List.getElem?_eq_some_iff.1 h0).1
   have hl' : ∀ j, l[j]? = all[m + 1 + j]? := fun j => by
    have := hl (j + 1)
    rw [List.getElem?_cons_succ] at this
    rw [this]; congr 1; omega
   simp only [mvLst, mvRun, mvOps] at h ⊢
   cases hx : mvX o with
   | none =>
     rw [hx] at h
     exact mv_all hF hsel hQ hap l (m + 1) D a w hl' hsz (fun i hi => hD i (by omega)) h
   | some x =>
     rw [hx] at h
     simp only at h ⊢
     obtain ⟨e1, e2, e3⟩ := mvX_spec hx
     rw [List.length_cons, <- Nat.add_assoc]
     refine mv_first (i := m) (oi := o) (by simpa using h0) e1 e2 hF (fun j o' cs b hj => hsel j o' cs b (by simpa using hj)) hQ _ D a w _ (fun j oj hj hne _ hno => hap m o x h0 hx j oj (by simpa using hj) hne hno) ?_ rfl
      (mv_all hF hsel hQ hap l (m + 1) _ _ w hl' (by simp [hsz]) (fun i hi hl => ?_) h)
     ·refine mem_ready h0 ?_ fun e he _ => ?_
      ·rw [getD_tf (by omega)]
       have := hD m (Nat.le_refl _)
       unfold Lst at this
       simpa using this
      ·rw [e3] at he; cases he
     ·unfold Lst at hl
      rw [lst_set (by omega)] at hl
      simp only [Bool.or_eq_true, decide_eq_true_eq] at hl
      rcases hl with h | h
      ·exact hD i (by omega) h
      ·omega
theorem restO_get {k : Nat} : ∀ (l : List Oper) (i : Nat) (o : Oper), l[i]? = some o -> mvX o = none -> (restO all k l)[nmv l i]? = some (renO all k o)
 | [], i, o, h, _ => by simp at h
 | p :: l, 0, o, h, hx => by
   simp at h; subst h
   simp only [restO, hx, nmv, List.getElem?_cons_zero]
 | p :: l, i + 1, o, h, hx => by
   simp only [List.getElem?_cons_succ] at h
   have ih := restO_get (k := k) l i o h hx
   cases hp : mvX p with
   | some y => simp only [restO, nmv, hp]; exact ih
   | none => simp only [restO, nmv, hp, List.getElem?_cons_succ]; exact ih
theorem restO_inv {k : Nat} : ∀ (l : List Oper) (q : Nat), q < (restO all k l).length -> ∃ i o, l[i]? = some o /\ mvX o = none /\ nmv l i = q
 | [], q, h => by simp [restO] at h
 | p :: l, q, h => by
   cases hp : mvX p with
   | some y =>
     simp only [restO, hp] at h
     obtain ⟨i, o, h1, h2, h3⟩ := restO_inv (k := k) l q h
     exact ⟨i + 1, o, by simpa using h1, h2, by simp only [nmv, hp]; exact h3⟩
   | none =>
     simp only [restO, hp, List.length_cons] at h
     cases q with
     | zero => exact ⟨0, p, by simp, hp, by simp [nmv]⟩
     | succ q =>
       obtain ⟨i, o, h1, h2, h3⟩ := restO_inv (k := k) l q (by omega)
       exact ⟨i + 1, o, by simpa using h1, h2, by simp only [nmv, hp, h3]⟩
theorem nmv_lt : ∀ (l : List Oper) (i j : Nat) (o : Oper), l[i]? = some o -> mvX o = none -> i < j -> j <= l.length -> nmv l i < nmv l j
 | [], i, j, o, h, _, _, _ => by simp at h
 | p :: l, i, 0, o, h, _, hij, _ => by omega
 | p :: l, 0, j + 1, o, h, hx, hij, hj => by
   simp at h; subst h
   simp only [nmv, hx]; omega
 | p :: l, i + 1, j + 1, o, h, hx, hij, hj => by
   simp only [List.getElem?_cons_succ] at h
   have ih := nmv_lt l i j o h hx (by omega) (by simp at hj; omega)
   cases hp : mvX p with
   | some y => simp only [nmv, hp]; exact ih
   | none => simp only [nmv, hp]; omega
theorem nmv_inj {l : List Oper} {i j : Nat} {o p : Oper} (hi : l[i]? = some o) (ho : mvX o = none) (hj : l[j]? = some p) (hp : mvX p = none) (h : nmv l i = nmv l j) : i = j := by
 have hli := (List.getElem?_eq_some_iff.1 hi).1
 have hlj := (List.getElem?_eq_some_iff.1 hj).1
 rcases Nat.lt_trichotomy i j with h1 | h1 | h1
 ·have := nmv_lt l i j o hi ho h1 (by omega); omega
 ·exact h1
 ·have := nmv_lt l j i p hj hp h1 (by omega); omega
theorem mvOps_mem : ∀ {l : List Oper} {o : Oper}, o ∈ mvOps l -> ∃ x, mvX o = some x
 | [], o, h => by simp [mvOps] at h
 | p :: l, o, h => by
   simp only [mvOps] at h
   split at h
   ·rename_i y hy
    rcases List.mem_cons.1 h with h | h
    ·exact ⟨y, h ▸ hy⟩
    ·exact mvOps_mem h
   ·exact mvOps_mem h
theorem len_mv (k : Nat) : ∀ (l : List Oper), (mvOps l).length + (restO all k l).length = l.length
 | [] => rfl
 | p :: l => by
   have ih := len_mv k l
   simp only [mvOps, restO]
   split <;> simp <;> omega
theorem frontE_mem : ∀ {k : Nat} {l : List Edge} {e : Edge}, e ∈ frontE k l -> e.on < k \/ e ∈ l
 | 0, l, e, h => .inr h
 | k + 1, l, e, h => by
   simp only [frontE, List.mem_cons] at h
   rcases h with rfl | h
   ·exact .inl (Nat.lt_succ_self k)
   ·rcases frontE_mem h with h | h
    ·exact .inl (by omega)
    ·exact .inr h
theorem renE_mem {k : Nat} : ∀ {l : List Edge} {e : Edge}, e ∈ renE all k l -> ∃ e' ∈ l, e.on = k + nmv all e'.on /\ e.ground = e'.ground /\ mvAt all e'.on = false
 | [], e, h => by simp [renE] at h
 | p :: l, e, h => by
   simp only [renE] at h
   split at h
   ·obtain ⟨e', h1, h2⟩ := renE_mem h
    exact ⟨e', by simp [h1], h2⟩
   ·rename_i hm
    rcases List.mem_cons.1 h with rfl | h
    ·exact ⟨p, by simp, rfl, rfl, hm⟩
    ·obtain ⟨e', h1, h2⟩ := renE_mem h
     exact ⟨e', by simp [h1], h2⟩
theorem hoist_len : (hoist all).length = all.length := by unfold hoist; rw [List.length_append, len_mv]
theorem hoist_get {i : Nat} {o : Oper} (h : all[i]? = some o) (hx : mvX o = none) : (hoist all)[(mvOps all).length + nmv all i]? = some (renO all (mvOps all).length o) := by
 unfold hoist
 rw [List.getElem?_append_right (by omega), Nat.add_sub_cancel_left, lenO_eq]
 exact restO_get all i o h hx
theorem hoist_inv {q : Nat} (hq : (mvOps all).length <= q) (hl : q < all.length) : ∃ i o, all[i]? = some o /\ mvX o = none /\ (mvOps all).length + nmv all i = q := by
 have h1 := len_mv (all := all) (mvOps all).length all
 obtain ⟨i, o, h2, h3, h4⟩ := restO_inv (all := all) (k := (mvOps all).length) all (q - (mvOps all).length) (by omega)
 exact ⟨i, o, h2, h3, by omega⟩
theorem mvAt_get {i : Nat} {o : Oper} (h : all[i]? = some o) : mvAt all i = (mvX o).isSome := by unfold mvAt; rw [h]
structure Ren (all : List Oper) (D D' : Array Bool) : Prop where
 s : D.size = all.length
 s' : D'.size = all.length
 mv : ∀ i o x, all[i]? = some o -> mvX o = some x -> Lst D i
 mv' : ∀ i, i < (mvOps all).length -> Lst D' i
 ot : ∀ i o, all[i]? = some o -> mvX o = none -> (Lst D' ((mvOps all).length + nmv all i) ↔ Lst D i)
theorem Ren.ready {D D' : Array Bool} (r : Ren all D D') (hbk : Back all) {i : Nat} (h : i ∈ Region.ready .any all.toArray D) : ∃ o, all[i]? = some o /\ mvX o = none /\ (mvOps all).length + nmv all i ∈ Region.ready .any (hoist all).toArray D' := by
 obtain ⟨o, ho, hn, hp⟩ := ready_mem h
 have hlt := (List.getElem?_eq_some_iff.1 ho).1
 rw [getD_tf (by rw [r.s]; exact hlt)] at hn
 cases hx : mvX o with
 | some x =>
   have := r.mv i o x ho hx
   unfold Lst at this
   rw [hn] at this; cases this
 | none =>
   refine ⟨o, ho, hx, ?_⟩
   have hg := hoist_get ho hx
   have hlt' : (mvOps all).length + nmv all i < all.length := by have := (List.getElem?_eq_some_iff.1 hg).1; rwa [hoist_len] at this
   refine mem_ready hg ?_ fun e he hb => ?_
   ·rw [getD_tf (by rw [r.s']; exact hlt')]
    have : ¬ Lst D' ((mvOps all).length + nmv all i) := fun h => by
     have := (r.ot i o ho hx).1 h
     unfold Lst at this
     rw [hn] at this; cases this
    unfold Lst at this
    simpa using this
   ·have he' : e ∈ frontE (mvOps all).length (renE all (mvOps all).length o.after.toList) := he
    rcases frontE_mem he' with h1 | h1
    ·exact r.mv' _ h1
    ·obtain ⟨e', h2, h3, h4, h5⟩ := renE_mem h1
     have hb' : Region.binds .any e' = true := by
      unfold Region.binds at hb ⊢
      rw [<- h4]; exact hb
     have hl := hp e' h2 hb'
     rw [h3]
     have hlt2 : e'.on < all.length := by have := hbk i o ho e' h2 hb'; omega
     have ho2 : all[e'.on]? = some (all[e'.on]'hlt2) := List.getElem?_eq_getElem _
     have hx2 : mvX (all[e'.on]'hlt2) = none := by
      rw [mvAt_get ho2] at h5
      cases hx3 : mvX (all[e'.on]'hlt2) with
      | none => rfl
      | some y => rw [hx3] at h5; simp at h5
     exact (r.ot _ _ ho2 hx2).2 hl
theorem hoist_any (hbk : Back all) (hgd : ∀ (i : Nat) (o : Oper) (g : Nat) (b : Bool), all[i]? = some o -> o.guard = some (g, b) -> mvAt all g = false /\ g < all.length) : ∀ (fuel : Nat) (D D' : Array Bool) (a : Act) (w : World), Ren all D D' ->
  wpAnyIn F n P .any (hoist all).toArray Q fuel D' a w -> wpAnyIn F n P .any all.toArray Q fuel D a w := by
 intro fuel
 induction fuel with
 | zero =>
   intro D D' a w r h
   refine ⟨?_, h.2⟩
   cases hr : Region.ready .any all.toArray D with
   | nil => rfl
   | cons i l =>
     obtain ⟨o, _, _, h2⟩ := r.ready hbk (i := i) (by rw [hr]; simp)
     rw [h.1] at h2; cases h2
 | succ fuel ih =>
   intro D D' a w r h
   refine ⟨fun hr => h.1 ?_, fun i hi => ?_⟩
   ·have hall := all_listed hbk r.s hr
    cases hr' : Region.ready .any (hoist all).toArray D' with
    | nil => rfl
    | cons q l =>
      exfalso
      obtain ⟨o', ho', hn', _⟩ := ready_mem (show q ∈ Region.ready .any (hoist all).toArray D' by rw [hr']; simp)
      have hlt := (List.getElem?_eq_some_iff.1 ho').1
      rw [hoist_len] at hlt
      rw [getD_tf (by rw [r.s']; exact hlt)] at hn'
      have hln : Lst D' q := by
       rcases Nat.lt_or_ge q (mvOps all).length with hq | hq
       ·exact r.mv' q hq
       ·obtain ⟨i, o, h1, h2, rfl⟩ := hoist_inv hq hlt
        exact (r.ot i o h1 h2).2 (hall i (List.getElem?_eq_some_iff.1 h1).1)
      unfold Lst at hln
      rw [hn'] at hln; cases hln
   ·obtain ⟨o, ho, hx, hrd⟩ := r.ready hbk hi
    have hg := hoist_get ho hx
    have hlt := (List.getElem?_eq_some_iff.1 ho).1
    have hlt' : (mvOps all).length + nmv all i < all.length := by have := (List.getElem?_eq_some_iff.1 hg).1; rwa [hoist_len] at this
    have h1 := h.2 _ hrd
    have hao : all.toArray[i]? = some o := by simpa using ho
    have hao' : (hoist all).toArray[(mvOps all).length + nmv all i]? = some (renO all (mvOps all).length o) := by simpa using hg
    have r' : Ren all (D.setIfInBounds i true) (D'.setIfInBounds ((mvOps all).length + nmv all i) true) := by
     have e1 : ∀ k, Lst (D.setIfInBounds i true) k ↔ Lst D k \/ k = i := fun k => by unfold Lst; rw [lst_set (by rw [r.s]; exact hlt)]; simp
     have e2 : ∀ k, Lst (D'.setIfInBounds ((mvOps all).length + nmv all i) true) k ↔ Lst D' k \/ k = (mvOps all).length + nmv all i := fun k => by unfold Lst; rw [lst_set (by rw [r.s']; exact hlt')]; simp
     refine ⟨by simp [r.s], by simp [r.s'], fun j o' x hj hx' => (e1 j).2 (.inl (r.mv j o' x hj hx')), fun j hj => (e2 j).2 (.inl (r.mv' j hj)), fun j o' hj hx' => ?_⟩
     rw [e1, e2, r.ot j o' hj hx']
     constructor
     ·rintro (h | h)
      ·exact .inl h
      ·exact .inr (nmv_inj hj hx' ho hx (by omega))
     ·rintro (h | h)
      ·exact .inl h
      ·subst h; exact .inr rfl
    have hwt : Region.wanted (renO all (mvOps all).length o) (yielded (hoist all).toArray a.tmps) = Region.wanted o (yielded all.toArray a.tmps) := by
     unfold Region.wanted
     cases hgu : o.guard with
     | none => simp only [renO, hgu]
     | some gw =>
       obtain ⟨g, b⟩ := gw
       obtain ⟨h2, h3⟩ := hgd i o g b ho hgu
       have ho2 : all[g]? = some (all[g]'h3) := List.getElem?_eq_getElem _
       have hx2 : mvX (all[g]'h3) = none := by
        rw [mvAt_get ho2] at h2
        cases hx3 : mvX (all[g]'h3) with
        | none => rfl
        | some y => rw [hx3] at h2; simp at h2
       have hg2 := hoist_get ho2 hx2
       have hy : yielded (hoist all).toArray a.tmps ((mvOps all).length + nmv all g) = yielded all.toArray a.tmps g := by
        unfold yielded
        simp only [List.getElem?_toArray, hg2, ho2, Option.bind_some]
        rfl
       simp only [renO, hgu, hy]
    unfold wpOpIn at h1 ⊢
    simp only [hao'] at h1
    simp only [hao]
    rw [hwt] at h1
    split
    ·rename_i hw
     rw [if_pos hw] at h1
     exact Oper.wpIn_mono (fun a' w' h2 => ih _ _ a' w' r' h2) h1
    ·rename_i hw
     rw [if_neg hw] at h1
     exact ⟨h1.1, ih _ _ _ _ r' h1.2⟩
end
end Abs
end Go.Proofs.YtlabbaglbcmofaaGreat

namespace Go.Proofs.YtlabbaglbcmofaaGreat
namespace Abs
open Go Go.RowKit
section
variable {P : Program} {S : Sums} {C C' : Cx} {w w' : World} {H hp : Heap} {T T1 T' : List Cnd} {all : List Oper}
theorem Cext.same (h : w'.heap = w.heap) : Cext C w C w' := ⟨fun _ _ h => h, fun _ h => h, fun _ _ => by rw [h]⟩
theorem HR.same (h : w'.heap = w.heap) (hH : HR C hp w) : HR C hp w' :=
 ⟨fun i p hi => (hH.live i p hi).mono (.same h) fun _ _ _ _ => by rw [h], hH.inj, fun i b c n hi => by rw [h]; exact hH.fresh i b c n hi, fun b hb => by rw [h]; exact hH.ilt b hb⟩
theorem Tr.draw (lo : Nat) (C : Cx) (w : World) (n : Nat) : Tr lo C w C { w with drawn := n } :=
 ⟨rfl, rfl, rfl, Nat.le_refl _, fun _ _ _ => rfl, fun _ h => h, fun _ h => .inl h, fun _ _ => rfl, fun i _b c n h h' => .inl ⟨i, c, n, h, h'⟩⟩
theorem region_draw (hS : SumsOK P S) {ro : Option Nat} {rm : Nat} (hm : P.follows .mixedOrders = true) {id : Nat} {ops : Array Oper} (hu : uniqOK ops.toList = true) (htmp : tmpOK ops.toList = true) (hback : Back ops.toList) {R : AV -> Heap -> Prop} {K : List AV -> Heap -> VC} {Q : Exit -> Act -> World -> Prop} {fr : List AV} {act : Act}
  (hlo : S.lo <= hp.length) (hH : HR C hp w) (hF : FR [] C w fr act.tmps) (h : (runOps P S true ops.toList none 0 ops.toList [] fr hp K).sat R) {ds : Act -> Prop} (hput : PutOK ops.toList ds) (hds : ds act) (hgoal : Goal P S R K Q C w ds) : (Code.region id ops true).wpIn (fen ro) rm P Q act w := by
 refine Go.wpIn_mono (Q := fun e a w => (∀ c, e ≠ .panic c) /\ Q e a w) ?_ fun e a w h => h.2
 apply wpIn_region_any hm
 obtain ⟨L, T', hs, he⟩ := seg_run hS hu (s := 0) (T0 := []) (fr0 := fr) (hp0 := hp) ops.toList [] [] ⟨by simp, .refl _, fun q hq => by simp at hq⟩ (by simp) (fun k x hx => by simp at hx) h
 have hsz : (Array.replicate ops.size false).size = ops.toList.length := by simp
 have hno : ∀ i, ¬ Lst (Array.replicate ops.size false) i := fun i h => by
  unfold Lst at h
  rw [Array.getD_eq_getD_getElem?, Array.getElem?_replicate] at h
  split at h <;> simp at h
 obtain ⟨r, hr⟩ := hps_app hp L L.length
 have hH1 : HR C hp { w with drawn := w.drawn + 1 } := HR.same (w := w) rfl hH
 have hF1 : FR [] C { w with drawn := w.drawn + 1 } fr act.tmps := FR.mono (w := w) (w' := { w with drawn := w.drawn + 1 }) (.same rfl) hF
 have hunl : ∀ n, unl (fun i => (Array.replicate ops.size false).getD i false) n <= n := fun n => by
  induction n with
  | zero => exact Nat.le_refl _
  | succ n ih => simp only [unl]; split <;> omega
 have := wpAnyI_any _ _ _ _ <| (anyorder (Q := fun e a w => (∀ c, e ≠ .panic c) /\ Q e a w) hS hu htmp hback hput (ro := ro) (rm := rm) (fun c a w h => h.1 c rfl) ops.size (fun _ _ => True) (fun _ _ _ _ _ _ => trivial)).1 (Array.replicate ops.size false) 0 [] fr hp L T' C { w with drawn := w.drawn + 1 } act hs he
  ⟨hsz, fun i hi => by omega, fun i _ => hno i, fun i o _ hl => (hno i hl).elim, ⟨by rw [hr]; exact hH1.ext r, fun q _ _ t _ => by
   obtain ⟨r', hr'⟩ := hps_app hp L q
   cases hc : C.ρ ((hps hp L q).length + t) with
   | none => rfl
   | some p => have := hH1.lt hc; rw [hr'] at this; simp at this; omega,
   fun q _ hl => (hno _ hl).elim, fun t _ => (hF1.get t).sub hs.sub, hF1.len⟩⟩ hlo (by have := hunl ops.toList.length; simpa using this) hds (Goal.any fun fr' hp' C' w' act' h1 h2 h3 h4 h5 h6 => ⟨fun c h => by (cases h), (hgoal.step (.draw _ _ _ _)) fr' hp' C' w' act' h1 h2 h3 h4 h5 h6⟩)
 simpa using this
theorem finB_spec {all : List Oper} (h : finB all = true) : barAt true all (all.length - 1) = true := by
 unfold finB at h
 split at h
 ·cases h
 ·rename_i o l
  rw [show (o :: l).length - 1 = lenO l by rw [lenO_eq]; simp]
  exact h
theorem region_sw (hS : SumsOK P S) {ro : Option Nat} {rm : Nat} (hm : P.follows .mixedOrders = true) {id : Nat} {ops : Array Oper} {z : Sw} (hz : SwReg ops.toList z) {R : AV -> Heap -> Prop} {K : List AV -> Heap -> VC} {Q : Exit -> Act -> World -> Prop} {fr : List AV} {act : Act}
  (hlo : S.lo <= hp.length) (hd0 : z.d < fr.length) (hH : HR C hp w) (hF : FR [] C w fr act.tmps) (h : (runSw P S z (finB ops.toList) 0 (swOps ops.toList z) (setL fr z.d .top) hp K).sat R) {ds : Act -> Prop} (hput : PutOK ops.toList ds) (hds : ds act) (hgoal : Goal P S R K Q C w ds) : (Code.region id ops true).wpIn (fen ro) rm P Q act w := by
 apply wpIn_region_any hm
 obtain ⟨L, hs, hend⟩ := sw_seg hS hz (fr0 := setL fr z.d .top) (hp0 := hp) (fun h => finB_spec h) (swOps ops.toList z) [] ⟨by simp, fun h => by simp at h, fun h => by simp at h, fun q hq => by simp at hq⟩ (by simp) h
 have hsz : (Array.replicate ops.size false).size = ops.toList.length := by simp
 have hno : ∀ i, ¬ Lst (Array.replicate ops.size false) i := fun i h => by
  unfold Lst at h
  rw [Array.getD_eq_getD_getElem?, Array.getElem?_replicate] at h
  split at h <;> simp at h
 obtain ⟨r, hr⟩ := hps_app hp L L.length
 have hH1 : HR C hp { w with drawn := w.drawn + 1 } := HR.same (w := w) rfl hH
 have hF1 : FR [] C { w with drawn := w.drawn + 1 } fr act.tmps := FR.mono (w := w) (w' := { w with drawn := w.drawn + 1 }) (.same rfl) hF
 have hunl : ∀ n, unl (fun i => (Array.replicate ops.size false).getD i false) n <= n := fun n => by
  induction n with
  | zero => exact Nat.le_refl _
  | succ n ih => simp only [unl]; split <;> omega
 have := sw_any hS hz hput (ro := ro) (rm := rm) (Cs := C) (ws := { w with drawn := w.drawn + 1 }) hs hend hlo (by rw [len_setL]; exact hd0) (by rw [getL_set, if_pos ⟨rfl, hd0⟩]) (hgoal.step (.draw _ _ _ _)) ops.size (Array.replicate ops.size false) C { w with drawn := w.drawn + 1 } act
  ⟨hsz, fun i o _ hl => (hno i hl).elim, ⟨by rw [hr]; exact hH1.ext r, fun q _ _ t _ => by
   obtain ⟨r', hr'⟩ := hps_app hp L q
   cases hc : C.ρ ((hps hp L q).length + t) with
   | none => rfl
   | some p => have := hH1.lt hc; rw [hr'] at this; simp at this; omega,
   fun q _ hl => (hno _ hl).elim, fun t _ => by
    rw [getL_set]
    split
    ·exact .plain (.top _) trivial
    ·exact hF1.get t, by rw [len_setL]; exact hF1.len⟩, .refl _ _ _, fun hl => (hno _ hl).elim, fun _ => hno _⟩ (by have := hunl ops.toList.length; simpa using this) hds
 simpa using this
noncomputable def mvFr : List Oper -> List AV -> List AV
 | [], fr => fr
 | o :: l, fr => (match mvX o with | some x => mvFr l (setO fr o.dst (noGd (ev fr x))) | none => mvFr l fr)
theorem runMv_eq : ∀ (l : List Oper) (fr : List AV) (k : List AV -> VC), runMv l fr k = k (mvFr l fr)
 | [], _, _ => rfl
 | o :: l, fr, k => by
   cases hx : mvX o with
   | some x =>
     simp only [runMv, mvFr, hx, forceD_eq, setK_eq]
     exact runMv_eq l _ k
   | none =>
     simp only [runMv, mvFr, hx]
     exact runMv_eq l fr k
theorem mvFr_ok : ∀ (l : List Oper) (fr : List AV) (act : Act), FR [] C w fr act.tmps -> FR [] C w (mvFr l fr) (mvRun l act).tmps
 | [], _, _, h => h
 | o :: l, fr, act, h => by
   cases hx : mvX o with
   | some x =>
     simp only [mvFr, mvRun, hx]
     exact mvFr_ok l _ _ (h.put (.plain (rel_noGd (evG_rel x fun t _ => h.get t).1) (notGd_noGd _)) _)
   | none =>
     simp only [mvFr, mvRun, hx]
     exact mvFr_ok l fr act h
theorem mvRun_ok {ds : Act -> Prop} : ∀ (l : List Oper) (act : Act), (∀ o ∈ l, ∀ (a : Act) (v : Value), ds a -> ds (a.put o.dst v)) -> ds act -> ds (mvRun l act)
 | [], _, _, h => h
 | o :: l, act, hp, h => by
   simp only [mvRun]
   split
   ·exact mvRun_ok l _ (fun o ho => hp o (by simp [ho])) (hp o (by simp) _ _ h)
   ·exact mvRun_ok l act (fun o ho => hp o (by simp [ho])) h
theorem restO_mem {k : Nat} {all : List Oper} : ∀ {l : List Oper} {o : Oper}, o ∈ restO all k l -> ∃ o' ∈ l, o.dst = o'.dst
 | [], o, h => by simp [restO] at h
 | p :: l, o, h => by
   simp only [restO] at h
   split at h
   ·obtain ⟨o', h1, h2⟩ := restO_mem h
    exact ⟨o', by simp [h1], h2⟩
   ·rcases List.mem_cons.1 h with rfl | h
    ·exact ⟨p, by simp, rfl⟩
    ·obtain ⟨o', h1, h2⟩ := restO_mem h
     exact ⟨o', by simp [h1], h2⟩
theorem mvOps_sub : ∀ {l : List Oper} {o : Oper}, o ∈ mvOps l -> o ∈ l
 | [], o, h => by simp [mvOps] at h
 | p :: l, o, h => by
   simp only [mvOps] at h
   split at h
   ·rcases List.mem_cons.1 h with rfl | h
    ·simp
    ·exact List.mem_cons_of_mem _ (mvOps_sub h)
   ·exact List.mem_cons_of_mem _ (mvOps_sub h)
theorem hoist_mem {all : List Oper} {o : Oper} (h : o ∈ hoist all) : ∃ o' ∈ all, o.dst = o'.dst := by
 unfold hoist at h
 rcases List.mem_append.1 h with h | h
 ·exact ⟨o, mvOps_sub h, rfl⟩
 ·exact restO_mem h
theorem region_hoist (hS : SumsOK P S) {ro : Option Nat} {rm : Nat} (hm : P.follows .mixedOrders = true) {id : Nat} {ops : Array Oper} (hok : hoOK ops.toList = true) {R : AV -> Heap -> Prop} {K : List AV -> Heap -> VC} {Q : Exit -> Act -> World -> Prop} {fr : List AV} {act : Act}
  (hlo : S.lo <= hp.length) (hH : HR C hp w) (hF : FR [] C w fr act.tmps) (hbk : Back ops.toList) (h : (runMv ops.toList fr fun fr' => runOps P S true (hoist ops.toList) none (lenO (mvOps ops.toList)) (restO ops.toList (lenO (mvOps ops.toList)) ops.toList) [] fr' hp K).sat R) {ds : Act -> Prop} (hput : PutOK ops.toList ds) (hds : ds act) (hgoal : Goal P S R K Q C w ds) :
  (Code.region id ops true).wpIn (fen ro) rm P Q act w := by
 refine Go.wpIn_mono (Q := fun e a w => (∀ c, e ≠ .panic c) /\ Q e a w) ?_ fun e a w h => h.2
 apply wpIn_region_any hm
 unfold hoOK at hok
 simp only [Bool.and_eq_true, regOK] at hok
 obtain ⟨⟨⟨hu, ht, hb⟩, hall⟩, hap⟩ := hok
 have hall : ∀ o ∈ ops.toList, (∀ cs b, o.op ≠ .select cs b) /\ ∀ g b, o.guard = some (g, b) -> mvAt ops.toList g = false /\ g < ops.toList.length := fun o ho => by
  have h1 := List.all_eq_true.1 hall o ho
  simp only [Bool.and_eq_true, Bool.not_eq_true'] at h1
  refine ⟨fun cs b hc => ?_, fun g b hg => ?_⟩
  ·rw [hc] at h1; simp [isSel] at h1
  ·have h2 := h1.2
   rw [hg] at h2
   simpa [Nat.blt_eq] using h2
 rw [runMv_eq] at h
 have hkl : lenO (mvOps ops.toList) = (mvOps ops.toList).length := lenO_eq _
 have hlen : (mvOps ops.toList).length <= ops.toList.length := by have := len_mv (all := ops.toList) 0 ops.toList; omega
 have hH1 : HR C hp { w with drawn := w.drawn + 1 } := HR.same (w := w) rfl hH
 have hF1 : FR [] C { w with drawn := w.drawn + 1 } fr act.tmps := FR.mono (w := w) (w' := { w with drawn := w.drawn + 1 }) (.same rfl) hF
 have hF2 := mvFr_ok ops.toList fr act hF1
 have hsz : (Array.replicate ops.size false).size = ops.toList.length := by simp
 have hno : ∀ i, ¬ Lst (Array.replicate ops.size false) i := fun i h => by
  unfold Lst at h
  rw [Array.getD_eq_getD_getElem?, Array.getElem?_replicate] at h
  split at h <;> simp at h
 have key := mv_all (P := P) (F := fen ro) (n := rm) (Q := fun e a w => (∀ c, e ≠ .panic c) /\ Q e a w) (all := ops.toList) (fun f => trivial) (fun j o cs b hj => (hall o (List.mem_of_getElem? hj)).1 cs b) (fun c a w h => h.1 c rfl) (fun i oi x hi hx j oj hj hne hno => by
   have h1 := allLt_spec hap i (List.getElem?_eq_some_iff.1 hi).1
   simp only [hi, hx] at h1
   have h2 := allLt_spec h1 j (List.getElem?_eq_some_iff.1 hj).1
   simp only [hj, Bool.or_eq_true, List.any_eq_true, Bool.and_eq_true] at h2
   rcases h2 with (h2 | ⟨e, h2, h3, h4⟩) | h2
   ·exact absurd (Nat.eq_of_beq_eq_true h2) hne
   ·exact absurd (Nat.eq_of_beq_eq_true h4) (hno e (by simpa using h2) h3)
   ·exact h2) (fuel := ops.toList.length - (mvOps ops.toList).length) ops.toList 0 (Array.replicate ops.size false) act { w with drawn := w.drawn + 1 } (fun j => by simp) hsz (fun i _ => hno i) ?_
 ·rw [Nat.sub_add_cancel hlen] at key
  simpa using key
 obtain ⟨hz1, hz2⟩ := mvLst_spec ops.toList 0 (Array.replicate ops.size false) (by simp)
 obtain ⟨D', hD1, hD2⟩ : ∃ D' : Array Bool, D'.size = ops.toList.length /\ ∀ i, Lst D' i ↔ i < (mvOps ops.toList).length := by
  refine ⟨(List.replicate (mvOps ops.toList).length true ++ List.replicate (ops.toList.length - (mvOps ops.toList).length) false).toArray, by
   rw [List.size_toArray, List.length_append, List.length_replicate, List.length_replicate]; omega, fun i => ?_⟩
  unfold Lst
  rw [Array.getD_eq_getD_getElem?]
  simp only [List.getElem?_toArray]
  rcases Nat.lt_or_ge i (mvOps ops.toList).length with hi | hi
  ·rw [List.getElem?_append_left (by simpa using hi), List.getElem?_replicate, if_pos hi]; simp [hi]
  ·rw [List.getElem?_append_right (by simpa using hi), List.getElem?_replicate]
   split <;> simp <;> omega
 have hmvget : ∀ i, i < (mvOps ops.toList).length -> ∃ o x, (hoist ops.toList)[i]? = some o /\ mvX o = some x := fun i hi => by
  have h1 : (hoist ops.toList)[i]? = some ((mvOps ops.toList)[i]'hi) := by
   unfold hoist
   rw [List.getElem?_append_left hi, List.getElem?_eq_getElem hi]
  obtain ⟨x, hx⟩ := mvOps_mem (List.getElem_mem hi)
  exact ⟨_, x, h1, hx⟩
 refine hoist_any hbk (fun i o g b hi hg => (hall o (List.mem_of_getElem? hi)).2 g b hg) _ _ D' _ _ ⟨hz1.trans hsz, hD1, fun i o x hi hx => (hz2 i).2 (.inr ⟨i, o, x, by omega, hi, hx⟩), fun i hi => (hD2 i).2 hi, fun i o hi hx => ?_⟩ ?_
 ·rw [hD2, hz2]
  constructor
  ·intro h; omega
  ·rintro (h | ⟨j, o', x, h1, h2, h3⟩)
   ·exact absurd h (hno i)
   ·obtain rfl : i = j := by omega
    rw [hi] at h2; injection h2 with h2; subst h2
    rw [hx] at h3; cases h3
 rw [hkl] at h
 have hdrop : (hoist ops.toList).drop ((mvOps ops.toList).length + ([] : List Info).length) = restO ops.toList (mvOps ops.toList).length ops.toList := by
  unfold hoist
  rw [hkl]
  simp
 obtain ⟨L, T', hs, he⟩ := seg_run hS hu (s := (mvOps ops.toList).length) (T0 := []) (fr0 := mvFr ops.toList fr) (hp0 := hp) _ [] [] ⟨by rw [hoist_len]; simpa using hlen, .refl _, fun q hq => by simp at hq⟩ hdrop (fun k x hx => by simp at hx) h
 obtain ⟨r, hr⟩ := hps_app hp L L.length
 have hput' : PutOK (hoist ops.toList) ds := fun o ho a v hda => by
  obtain ⟨o', h1, h2⟩ := hoist_mem ho
  rw [h2]; exact hput o' h1 a v hda
 have hcount : unl (fun i => D'.getD i false) (hoist ops.toList).length <= ops.toList.length - (mvOps ops.toList).length := by
  rw [hoist_len]
  have : ∀ m, unl (fun i => D'.getD i false) m <= m - (mvOps ops.toList).length := fun m => by
   induction m with
   | zero => exact Nat.zero_le _
   | succ m ih =>
     simp only [unl]
     rcases Nat.lt_or_ge m (mvOps ops.toList).length with hm | hm
     ·have := (hD2 m).2 hm
      unfold Lst at this
      simp only [this, if_true]; omega
     ·split <;> omega
  exact this _
 refine wpAnyI_any _ _ _ _ <| (anyorder (Q := fun e a w => (∀ c, e ≠ .panic c) /\ Q e a w) hS hu ht (back_spec hb) hput' (ro := ro) (rm := rm) (fun c a w h => h.1 c rfl) _ (fun _ _ => True) (fun _ _ _ _ _ _ => trivial)).1 D' _ [] _ hp L T' C { w with drawn := w.drawn + 1 } _ hs he
  ⟨hD1.trans hoist_len.symm, fun i hi => (hD2 i).2 hi, fun i hi hl => ?_, fun i o ho hl e he' hb' => ?_, ⟨by rw [hr]; exact hH1.ext r, fun q _ _ t _ => by
   obtain ⟨r', hr'⟩ := hps_app hp L q
   cases hc : C.ρ ((hps hp L q).length + t) with
   | none => rfl
   | some p => have := hH1.lt hc; rw [hr'] at this; simp at this; omega,
   fun q _ hl => ?_, fun t _ => (hF2.get t).sub hs.sub, hF2.len⟩⟩ hlo hcount (mvRun_ok ops.toList act (fun o ho a v hda => hput o ho a v hda) hds) ?_
 ·have := (hD2 i).1 hl; omega
 ·have hlt := (hD2 i).1 hl
  obtain ⟨o', x, h1, h2⟩ := hmvget i hlt
  rw [ho] at h1; injection h1 with h1; subst h1
  rw [(mvX_spec h2).2.2] at he'; cases he'
 ·have := (hD2 _).1 hl; omega
 ·refine Goal.any fun fr' hp' C' w' act' h1 h2 h3 h4 h5 h6 => ?_
  exact ⟨fun c h => by (cases h), (hgoal.step (.draw _ _ _ _)) fr' hp' C' w' act' h1 h2 h3 h4 h5 h6⟩
def Cx.cut (C : Cx) (lo : Nat) (tgt : Heap) : Cx :=
 ⟨fun i => if i < lo \/ aliveB tgt i = true then C.ρ i else none, fun b => C.I b \/ ∃ i c n, goneB lo tgt i = true /\ C.ρ i = some (.at b c n)⟩
theorem cut_alive {lo i : Nat} (h : aliveB hp i = true) : (C.cut lo hp).ρ i = C.ρ i := by simp [Cx.cut, h]
def Imp (C : Cx) (lo : Nat) (tgt : Heap) (w : World) (a b : AV) : Prop := ∀ v, Rel C w a v -> RelG [] (C.cut lo tgt) w b v
def ImpL (C : Cx) (lo : Nat) (tgt : Heap) (w : World) (l m : List AV) : Prop := l.length = m.length /\ ∀ vs, RelL C w l vs -> RelL (C.cut lo tgt) w m vs
theorem cut_I (lo : Nat) (hp : Heap) : ∀ b, C.I b -> (C.cut lo hp).I b := fun _ h => .inl h
theorem rel_nrm {a : AV} {v : Value} (h : Rel C w a v) : Rel C w (nrm a) v := by
 cases h <;> unfold nrm <;> first | exact .si _ _ | exact .sb _ | constructor <;> assumption | (exact .top _) | (exact .gd _ _ _) | skip
theorem nrm_rel {a : AV} {v : Value} (h : Rel C w (nrm a) v) : Rel C w a v := by
 cases a <;> first | exact h | (unfold nrm at h; cases h; first | exact .li _ _ | exact .lb _)
theorem relL_nrm : ∀ {l : List AV} {vs : List Value}, RelL C w l vs -> RelL C w (nrmL l) vs
 | _, _, .nil => .nil
 | _, _, .cons a l v vs h h' => .cons _ _ _ _ (rel_nrm h) (relL_nrm h')
theorem nrmL_rel : ∀ {l : List AV} {vs : List Value}, RelL C w (nrmL l) vs -> RelL C w l vs
 | [], _, h => h
 | a :: l, _, h => by
   cases h with | cons _ _ _ _ h h' => exact .cons _ _ _ _ (nrm_rel h) (nrmL_rel h')
theorem okC_nrm (a : AV) : okC (nrm a) = okC a := by cases a <;> rfl
theorem okL_nrm : ∀ l : List AV, okL (nrmL l) = okL l
 | [] => rfl
 | a :: l => by simp [nrmL, okL, okC_nrm, okL_nrm l]
theorem relL_nrmEq {l m : List AV} (h : nrmL l = nrmL m) {vs : List Value} (hr : RelL C w l vs) : RelL C w m vs := nrmL_rel (h ▸ relL_nrm hr)
theorem okL_nrmEq {l m : List AV} (h : nrmL l = nrmL m) (hr : okL l = true) : okL m = true := by rw [<- okL_nrm, <- h, okL_nrm]; exact hr
theorem slc_imp {_lo : Nat} {n n' : LN} {sz : Nat} {el el' : Nat -> List AV} (h1 : n'.val = n.val) (h2 : ∀ j, j < n.val -> nrmL (el' j) = nrmL (el j)) {v : Value} (h' : Rel C w (.slc n' sz el') v) : Rel C w (.slc n sz el) v := by
 cases h' with
 | slc _ _ _ A cap vs hcap hA hr hl hn =>
   rw [h1]
   exact .slc n sz el A cap vs (by omega) (fun h => by
    obtain ⟨ad, h3, h4, h5⟩ := hA (by omega)
    exact ⟨ad, h3, h4, fun k hk => h5 k (by omega)⟩) (fun k hk => relL_nrmEq (h2 k hk) (hr k (by omega))) (fun k hk => hl k (by omega)) (fun k hk => okL_nrmEq (h2 k hk) (hn k (by omega)))
theorem row_imp {lo i : Nat} {src : Heap} {e : TypeId} {n : LN} {sz : Nat} {el : Nat -> List AV} (hH : HR C src w) (hb : getB src i = .row e sz n el) (hg : goneB lo hp i = true) {v : Value} (hv : Rel C w (.row i) v) : Rel (C.cut lo hp) w (.slc n sz el) v := by
 cases hv with
 | row _ b c m hρ =>
   have hl := hH.live _ _ hρ
   rw [hb] at hl
   obtain ⟨hm, hcap, hs0, cs, vs, hh, hsz, hcell⟩ := hl
   rw [<- hm]
   refine .slc n sz el _ c vs (by omega) (fun _ => ⟨_, rfl, .inr ⟨i, c, m, hg, hρ⟩, fun k hk q hq => ?_⟩) (fun k hk => ?_) (fun k hk => (hcell k (by omega)).2.2.1) (fun k hk => (hcell k (by omega)).2.1)
   ·rw [add_lit]
    have := (hcell k (by omega)).2.2.2 q hq
    rw [<- this]; simp [World.cell?, hh]
   ·exact RelL.still (C := C) (C' := C.cut lo hp) (cut_I lo hp) (fun _ _ => rfl) (hcell k (by omega)).1 (own_ok (hcell k (by omega)).2.1)
 | rown _ hρ =>
   have hl := hH.live _ _ hρ
   rw [hb] at hl
   obtain ⟨h0, _⟩ : n.val = 0 /\ _ := hl
   have := Rel.slc (C := C.cut lo hp) (w := w) n sz el none 0 (fun _ => []) (by omega) (fun h => by omega) (fun k hk => by omega) (fun k hk => by omega) (fun k hk => by omega)
   rwa [h0] at this
mutual
theorem leA_sat {R : AV -> Heap -> Prop} {lo : Nat} {src : Heap} : ∀ {b a : AV} {k : VC}, (leA lo src hp a b k).sat R -> k.sat R /\ ∀ (C : Cx) (w : World), HR C src w -> Imp C lo hp w a b
 | .top, a, k, h => by unfold leA at h; exact ⟨h, fun C w _ v _ => .plain (.top v) trivial⟩
 | .si q y, a, k, h => by
   unfold leA at h
   split at h
   ·rename_i q' hk
    split at h
    ·rename_i hq
     have hq : q = q' := by simpa using hq
     subst hq
     refine ⟨h.2, fun C w _ v hv => .plain ?_ trivial⟩
     rw [kindOf_rel hv hk, show intOf a = y from h.1]; exact .si _ _
    ·exact h.elim
   ·exact h.elim
 | .li q y, a, k, h => by
   unfold leA at h
   split at h
   ·rename_i q' x
    split at h
    ·rename_i hq
     have hq : q = q' /\ x = y := by simpa using hq
     obtain ⟨rfl, rfl⟩ := hq
     exact ⟨h, fun C w _ v hv => .plain (hv.change (cut_I lo hp) rfl) trivial⟩
    ·exact h.elim
   ·exact h.elim
 | .sb y, a, k, h => by
   unfold leA at h
   split at h
   ·rename_i x
    exact ⟨h.2, fun C w _ v hv => .plain (by cases hv; rw [show x = y from h.1]; exact .sb _) trivial⟩
   ·rename_i x
    exact ⟨h.2, fun C w _ v hv => .plain (by cases hv; rw [show x = y from h.1]; exact .sb _) trivial⟩
   ·exact h.elim
 | .lb y, a, k, h => by
   unfold leA at h
   split at h
   ·rename_i x
    split at h
    ·rename_i hx
     have : x = y := by simpa using hx
     subst this
     exact ⟨h, fun C w _ v hv => .plain (hv.change (cut_I lo hp) rfl) trivial⟩
    ·exact h.elim
   ·exact h.elim
 | .own i o, a, k, h => by
   unfold leA at h
   split at h
   ·split at h
    ·rename_i hc
     simp only [Bool.and_eq_true, decide_eq_true_eq] at hc
     obtain ⟨⟨rfl, rfl⟩, ha⟩ := hc
     refine ⟨h, fun C w _ v hv => .plain ?_ trivial⟩
     cases hv with | own _ _ b c n hρ => exact .own _ _ b c n (by rw [cut_alive ha]; exact hρ)
    ·exact h.elim
   ·exact h.elim
 | .elt i s q o, a, k, h => by
   unfold leA at h
   split at h
   ·split at h
    ·rename_i hc
     simp only [Bool.and_eq_true, decide_eq_true_eq] at hc
     obtain ⟨⟨rfl, rfl, rfl⟩, ha⟩ := hc
     have h1 := h.1
     simp only [Cd.ok] at h1
     refine ⟨h.2, fun C w _ v hv => .plain ?_ trivial⟩
     rw [<- h1]
     cases hv with | elt _ _ _ _ b c n hρ hk => exact .elt _ _ _ _ b c n (by rw [cut_alive ha]; exact hρ) hk
    ·exact h.elim
   ·exact h.elim
 | .row i, a, k, h => by
   unfold leA at h
   split at h
   ·split at h
    ·rename_i hc
     simp only [Bool.and_eq_true, decide_eq_true_eq] at hc
     obtain ⟨rfl, ha⟩ := hc
     refine ⟨h, fun C w _ v hv => .plain ?_ trivial⟩
     cases hv with
     | row _ b c n hρ => exact .row _ b c n (by rw [cut_alive ha]; exact hρ)
     | rown _ hρ => exact .rown _ (by rw [cut_alive ha]; exact hρ)
    ·exact h.elim
   ·exact h.elim
 | .lsl i n s, a, k, h => by
   unfold leA at h
   split at h
   ·split at h
    ·rename_i hc
     simp only [Bool.and_eq_true, decide_eq_true_eq] at hc
     obtain ⟨⟨rfl, rfl, rfl⟩, ha⟩ := hc
     refine ⟨h, fun C w _ v hv => .plain ?_ trivial⟩
     cases hv with | lsl _ _ _ b c m hρ => exact .lsl _ _ _ b c m (by rw [cut_alive ha]; exact hρ)
    ·exact h.elim
   ·exact h.elim
 | .slc n sz el, a, k, h => by
   unfold leA at h
   split at h
   ·split at h
    ·rename_i hc
     have hc := of_decide_eq_true hc
     subst hc
     exact ⟨h.2.2, fun C w _ v hv => .plain (slc_imp (_lo := lo) h.1 h.2.1 (hv.change (cut_I lo hp) rfl)) trivial⟩
    ·exact h.elim
   ·rename_i i
    split at h
    ·rename_i e sz' n' el' hb
     split at h
     ·rename_i hc
      simp only [Bool.and_eq_true, decide_eq_true_eq] at hc
      obtain ⟨rfl, hg⟩ := hc
      exact ⟨h.2.2, fun C w hH v hv => .plain (slc_imp (_lo := lo) h.1 h.2.1 (row_imp hH hb hg hv)) trivial⟩
     ·exact h.elim
    ·exact h.elim
   ·rename_i cap
    refine ⟨h.2, fun C w _ v hv => .plain ?_ trivial⟩
    have h0 : n.val = 0 := h.1
    cases hv
    have := Rel.slc (C := C.cut lo hp) (w := w) n sz el none cap (fun _ => []) (by rw [h0]; exact Nat.zero_le _) (fun h => by omega) (fun k hk => by omega) (fun k hk => by omega) (fun k hk => by omega)
    rw [h0] at this
    exact this
   ·exact h.elim
 | .agg m, a, k, h => by
   unfold leA at h
   split at h
   ·obtain ⟨h1, h2⟩ := leL_sat h
    refine ⟨h1, fun C w hH v hv => .plain ?_ trivial⟩
    cases hv with | agg _ vs hv => exact .agg _ vs ((h2 C w hH).2 vs hv)
   ·exact h.elim
 | .tup m, a, k, h => by
   unfold leA at h
   split at h
   ·obtain ⟨h1, h2⟩ := leL_sat h
    refine ⟨h1, fun C w hH v hv => .plain ?_ trivial⟩
    cases hv with | tup _ vs hv => exact .tup _ vs ((h2 C w hH).2 vs hv)
   ·exact h.elim
 | .xp l, a, k, h => by
   unfold leA at h
   split at h
   ·exact h.elim
   ·rename_i ho
    split at h
    ·rename_i m
     obtain ⟨h1, h2⟩ := leL_sat h
     refine ⟨h1, fun C w hH v hv => .plain ?_ trivial⟩
     have hle := (h2 C w hH).1
     cases hv with
     | xp _ ad vs hr hI hc hn =>
       refine .xp l ad vs ((h2 C w hH).2 vs hr) (fun hl => .inl (hI ?_)) (fun j hj => hc j (by omega)) ho
       rintro rfl
       exact hl (List.eq_nil_of_length_eq_zero (by simpa using hle.symm))
    ·rename_i i o
     split at h
     ·rename_i t m hb
      split at h
      ·rename_i hg
       obtain ⟨h1, h2⟩ := leL_sat h
       refine ⟨h1, fun C w hH v hv => .plain ?_ trivial⟩
       obtain ⟨hle, h3⟩ := h2 C w hH
       cases hv with
       | own _ _ b c n hρ =>
         have hl := hH.live _ _ hρ
         rw [hb] at hl
         obtain ⟨vs, hr, hh⟩ := hl
         rw [dropL_eq] at h3 hle
         refine .xp l _ (vs.drop o) (h3 _ (hr.drop o)) (fun _ => .inr ⟨i, c, n, hg, hρ⟩) (fun j hj => ?_) ho
         rw [cell_add hh]; simp [List.getElem?_drop]
      ·exact h.elim
     ·exact h.elim
    ·exact h.elim
 | .v x, a, k, h => by
   unfold leA at h
   refine ⟨h.2, fun C w _ v hv => .plain ?_ trivial⟩
   rw [show a = .v x from h.1] at hv
   exact hv.change (cut_I lo hp) rfl
 | .fn f l m, a, k, h => by
   unfold leA at h
   split at h
   ·rename_i g l' m'
    split at h
    ·rename_i ho
     refine ⟨h.2, fun C w _ v hv => .plain ?_ trivial⟩
     simp only [Bool.or_eq_false_iff] at ho
     rw [show AV.fn g l' m' = .fn f l m from h.1] at hv
     exact hv.change (cut_I lo hp) (by simp [ownIn, ho.1.1.1, ho.1.1.2])
    ·split at h
     ·rename_i hg
      have hg : g = f := by
       unfold fnEq at hg
       split at hg
       ·rw [Nat.eq_of_beq_eq_true hg]
       ·cases hg
      subst hg
      obtain ⟨h1, h2⟩ := leL_sat h
      obtain ⟨h3, h4⟩ := leL_sat h1
      refine ⟨h3, fun C w hH v hv => .plain ?_ trivial⟩
      cases hv with | fn _ _ _ vs ws q1 q2 => exact .fn _ _ _ vs ws ((h2 C w hH).2 vs q1) ((h4 C w hH).2 ws q2)
     ·exact h.elim
   ·exact h.elim
 | .gd _ _, a, k, h => by unfold leA at h; exact h.elim
theorem leL_sat {R : AV -> Heap -> Prop} {lo : Nat} {src : Heap} : ∀ {m l : List AV} {k : VC}, (leL lo src hp l m k).sat R -> k.sat R /\ ∀ (C : Cx) (w : World), HR C src w -> ImpL C lo hp w l m
 | [], l, k, h => by
   unfold leL at h
   split at h
   ·exact ⟨h, fun C w _ => ⟨rfl, fun vs hv => by cases hv; exact .nil⟩⟩
   ·exact h.elim
 | b :: m, l, k, h => by
   unfold leL at h
   split at h
   ·obtain ⟨h1, h2⟩ := leA_sat h
    obtain ⟨h3, h4⟩ := leL_sat h1
    exact ⟨h3, fun C w hH => ⟨by simp [(h4 C w hH).1], fun vs hv => by
     cases hv with | cons _ _ v vs h5 h6 => exact .cons _ _ _ _ (h2 C w hH v h5).1 ((h4 C w hH).2 vs h6)⟩⟩
   ·exact h.elim
end
theorem leL_frame {R : AV -> Heap -> Prop} {lo : Nat} {src : Heap} : ∀ {m l : List AV} {k : VC}, (leL lo src hp l m k).sat R -> ∀ (C : Cx) (w : World), HR C src w -> ∀ (t : Nat) (v : Value), Rel C w (getL l t) v -> RelG [] (C.cut lo hp) w (getL m t) v
 | [], l, k, h, C, w, hH, t, v, hv => by
   unfold leL at h
   split at h
   ·refine .plain ?_ trivial
    cases hv with | tup _ vs hv => cases hv; exact .tup _ _ .nil
   ·exact h.elim
 | b :: m, l, k, h, C, w, hH, t, v, hv => by
   unfold leL at h
   split at h
   ·obtain ⟨h1, h2⟩ := leA_sat h
    cases t with
    | zero => exact h2 C w hH v hv
    | succ t => exact leL_frame h1 C w hH t v hv
   ·exact h.elim
theorem leB_sat {R : AV -> Heap -> Prop} {lo n : Nat} {src : Heap} {a b : Blk} {k : VC} (h : (leB lo n src hp a b k).sat R) :
  k.sat R /\ ((b = .dead /\ (lo <= n \/ a = .dead)) \/ ∀ (C : Cx) (w : World) (p : Pl), HR C src w -> BRel C w p a -> BRel (C.cut lo hp) w p b) := by
 unfold leB at h
 split at h
 ·split at h
  ·rename_i hl; exact ⟨h, .inl ⟨rfl, .inl (Nat.le_of_ble_eq_true hl)⟩⟩
  ·split at h
   ·exact ⟨h, .inl ⟨rfl, .inr rfl⟩⟩
   ·exact h.elim
 ·rename_i t m
  split at h
  ·rename_i t' l
   split at h
   ·rename_i ht
    have ht : t = t' := by simpa using ht
    subst ht
    obtain ⟨h1, h2⟩ := leL_sat h
    refine ⟨h1, .inr fun C w p hH hb => ?_⟩
    match p, hb with
    | .at q c m, ⟨vs, hr, hh⟩ => exact ⟨vs, (h2 C w hH).2 vs hr, hh⟩
    | .nil, hb => exact hb.elim
   ·exact h.elim
  ·exact h.elim
 ·rename_i e sz n' el
  split at h
  ·rename_i e' sz' n2 el'
   split at h
   ·rename_i hc
    have hc : e = e' /\ sz = sz' := by simpa using hc
    obtain ⟨rfl, rfl⟩ := hc
    refine ⟨h.2.2, .inr fun C w p hH hb => ?_⟩
    match p, hb with
    | .at q c m, ⟨h1, h2, h3, cs, vs, hh, hcs, hcell⟩ =>
      have hn : n2.val = n'.val := h.1
      have hel : ∀ j, j < n'.val -> nrmL (el' j) = nrmL (el j) := h.2.1
      refine ⟨by rw [<- hn]; exact h1, h2, h3, cs, vs, hh, hcs, fun k hk => ?_⟩
      have he := hel k (by rw [<- hn, h1]; exact hk)
      exact ⟨relL_nrmEq he ((hcell k hk).1.change (cut_I lo hp) (own_ok (hcell k hk).2.1)), okL_nrmEq he (hcell k hk).2.1, (hcell k hk).2.2⟩
    | .nil, ⟨h1, h2⟩ => exact ⟨by rw [<- show n2.val = n'.val from h.1]; exact h1, h2⟩
   ·exact h.elim
  ·exact h.elim
theorem leH_len {R : AV -> Heap -> Prop} {lo : Nat} {src : Heap} : ∀ {l m : Heap} {n : Nat} {k : VC}, (leH lo src hp n l m k).sat R -> lo <= n + m.length \/ l.length <= m.length
 | [], [], n, k, h => .inr (Nat.le_refl _)
 | [], _ :: _, n, k, h => h.elim
 | a :: l, [], n, k, h => by
   simp only [leH] at h
   split at h
   ·rename_i hl; exact .inl (by simpa using Nat.le_of_ble_eq_true hl)
   ·exact h.elim
 | a :: l, b :: m, n, k, h => by
   simp only [leH] at h
   rcases leH_len (leB_sat h).1 with h3 | h3
   ·exact .inl (by simp; omega)
   ·exact .inr (by simp; omega)
theorem leH_get {R : AV -> Heap -> Prop} {lo : Nat} {src : Heap} : ∀ {l m : Heap} {n : Nat} {k : VC}, (leH lo src hp n l m k).sat R -> ∀ i, (getB m i = .dead /\ (lo <= n + i \/ getB l i = .dead)) \/ ∀ (C : Cx) (w : World) (p : Pl), HR C src w -> BRel C w p (getB l i) -> BRel (C.cut lo hp) w p (getB m i)
 | [], [], n, k, h, i => .inl ⟨rfl, .inr rfl⟩
 | [], _ :: _, n, k, h, i => h.elim
 | a :: l, [], n, k, h, i => by
   simp only [leH] at h
   split at h
   ·rename_i hl; exact .inl ⟨rfl, .inl (by have := Nat.le_of_ble_eq_true hl; omega)⟩
   ·exact h.elim
 | a :: l, b :: m, n, k, h, i => by
   simp only [leH] at h
   obtain ⟨h1, h2⟩ := leB_sat h
   cases i with
   | zero => exact h2
   | succ i =>
     have := leH_get h1 i
     rcases this with ⟨h3, h4⟩ | h3
     ·exact .inl ⟨h3, h4.imp (fun h => by omega) id⟩
     ·exact .inr h3
theorem leS_sat {R : AV -> Heap -> Prop} {lo : Nat} {fr : List AV} {s : AS} (h : (leS lo fr hp s).sat R) (hH : HR C hp w) (hlo : lo <= hp.length) :
  HR (C.cut lo s.hp) s.hp w /\ (∀ tm, FR [] C w fr tm -> FR [] (C.cut lo s.hp) w s.fr tm) /\ lo <= s.hp.length /\ Tr lo C w (C.cut lo s.hp) w := by
 unfold leS at h
 obtain ⟨h1, h2⟩ := leL_sat h
 have hcut : ∀ i p, (C.cut lo s.hp).ρ i = some p -> C.ρ i = some p /\ goneB lo s.hp i = false := fun i p hp' => by
  simp only [Cx.cut] at hp'
  split at hp'
  ·rename_i hc
   refine ⟨hp', ?_⟩
   unfold goneB
   rcases hc with hc | hc
   ·have : Nat.ble lo i = false := by
     rcases hb : Nat.ble lo i with _ | _
     ·rfl
     ·have := Nat.le_of_ble_eq_true hb; omega
    rw [this]; rfl
   ·rw [hc]; simp
  ·cases hp'
 refine ⟨⟨fun i p hi => ?_, fun i j b c n b' c' n' h h' hne => hH.inj _ _ _ _ _ _ _ _ (hcut _ _ h).1 (hcut _ _ h').1 hne, fun i b c n h => ⟨(hH.fresh _ _ _ _ (hcut _ _ h).1).1, fun hI => ?_⟩, fun b hb => ?_⟩,
  fun tm hF => ⟨by rw [<- (h2 C w hH).1]; exact hF.len, fun t => leL_frame h C w hH t _ (hF.get t).1⟩, ?_, ?_⟩
 ·have hl := hH.live i p (hcut _ _ hi).1
  rcases leH_get h1 i with ⟨h3, h4⟩ | h3
  ·exfalso
   rcases h4 with h4 | h4
   ·simp only [Cx.cut] at hi
    rw [if_neg] at hi
    ·cases hi
    ·rintro (h5 | h5)
     ·omega
     ·unfold aliveB at h5; rw [h3] at h5; cases h5
   ·rw [h4] at hl; cases p <;> exact hl
  ·exact h3 C w p hH hl
 ·rcases hI with hI | ⟨j, c', n', hg, hj⟩
  ·exact (hH.fresh _ _ _ _ (hcut _ _ h).1).2 hI
  ·by_cases hij : i = j
   ·subst hij; rw [(hcut _ _ h).2] at hg; cases hg
   ·exact hH.inj _ _ _ _ _ _ _ _ (hcut _ _ h).1 hj hij rfl
 ·rcases hb with hb | ⟨j, c', n', hg, hj⟩
  ·exact hH.ilt b hb
  ·exact (hH.fresh _ _ _ _ hj).1
 ·rcases leH_len h1 with h3 | h3
  ·simpa using h3
  ·omega
 ·refine ⟨rfl, rfl, rfl, Nat.le_refl _, fun _ _ _ => rfl, fun _ h => .inl h, fun b hb => ?_, fun i hi => by simp [Cx.cut, hi], fun i b c n hi h => .inl ⟨i, c, n, hi, (hcut _ _ h).1⟩⟩
  rcases hb with hb | ⟨j, c', n', hg, hj⟩
  ·exact .inl hb
  ·refine .inr (.inr ⟨j, c', n', ?_, hj⟩)
   unfold goneB at hg
   simp only [Bool.and_eq_true] at hg
   exact Nat.le_of_ble_eq_true hg.1
end
end Abs
end Go.Proofs.YtlabbaglbcmofaaGreat

namespace Go.Proofs.YtlabbaglbcmofaaGreat
namespace Abs
open Go Go.RowKit
section
variable {P : Program} {S : Sums} {C C' C1 C2 : Cx} {w w' w1 w2 : World} {H hp : Heap}
structure CB (w w' : World) : Prop where
 size : w.heap.size <= w'.heap.size
 same : ∀ (k : Nat) (o : Obj), w.heap[k]? = some o -> o.isCells = true -> w'.heap[k]? = some o
theorem CB.refl (w : World) : CB w w := ⟨Nat.le_refl _, fun _ _ h _ => h⟩
theorem CB.trans (h : CB w w1) (k : CB w1 w2) : CB w w2 := ⟨Nat.le_trans h.size k.size, fun i o hi ho => k.same i o (h.same i o hi ho) ho⟩
theorem Quiet.cb (h : Quiet w w') : CB w w' := ⟨h.size, fun k _ hk _ => (h.keep k (Array.getElem?_eq_some_iff.1 hk).1).trans hk⟩
theorem Quiet.refl (w : World) : Quiet w w := ⟨rfl, rfl, rfl, Nat.le_refl _, fun _ _ => rfl⟩
theorem Quiet.trans (h : Quiet w w1) (k : Quiet w1 w2) : Quiet w w2 := ⟨k.os.trans h.os, k.tape.trans h.tape, k.output.trans h.output, Nat.le_trans h.size k.size, fun i hi => (k.keep i (Nat.lt_of_lt_of_le hi h.size)).trans (h.keep i hi)⟩
theorem Quiet.alloc (w : World) (o : Obj) : Quiet w (w.alloc o) := ⟨rfl, rfl, rfl, by simp, fun k hk => Below.heap_alloc w o k hk⟩
theorem CB.putObj {l : Nat} {o : Obj} (o' : Obj) (hl : w.heap[l]? = some o) (ho : o.isCells = false) : CB w (w.putObj l o') :=
 ⟨by simp, fun k ok hk hc => by
  have hne : k ≠ l := fun e => by subst e; rw [hl] at hk; injection hk with hk; subst hk; rw [ho] at hc; cases hc
  exact (World.putObj_heap_other hne).trans hk⟩
theorem CB.cell (h : CB w w') {a : Addr} {v : Value} (hc : w.cell? a = some v) : w'.cell? a = some v := by
 obtain ⟨o, ho, hoc⟩ := cells_of_cell hc
 exact (cell_of_blk ((h.same _ o ho hoc).trans ho.symm)).trans hc
theorem Rel.cb (hx : CB w w') {a : AV} {v : Value} (h : Rel C w a v) : Rel C w' a v := by
 refine Rel.rec (C := C) (w := w) (motive_1 := fun a v _ => Rel C w' a v) (motive_2 := fun l vs _ => RelL C w' l vs)
  ?_ ?_ ?_ ?_ ?_ ?_ ?_ ?_ ?_ ?_ ?_ ?_ ?_ ?_ ?_ ?_ ?_ ?_ ?_ h
 ·exact fun v => .top v
 ·exact fun k a v => .gd k a v
 ·exact fun k n => .li k n
 ·exact fun k n => .si k n
 ·exact fun b => .lb b
 ·exact fun b => .sb b
 ·exact fun x => .v x
 ·exact fun l vs _ h => .agg l vs h
 ·exact fun l vs _ h => .tup l vs h
 ·exact fun i off b c n h => .own i off b c n h
 ·exact fun i sz k off b c n h hk => .elt i sz k off b c n h hk
 ·exact fun i b c n h => .row i b c n h
 ·exact fun i n sz b c m h => .lsl i n sz b c m h
 ·exact fun i h => .rown i h
 ·intro n sz el A cap vs hcap hA _ hl hn ih
  refine .slc n sz el A cap vs hcap (fun h0 => ?_) ih hl hn
  obtain ⟨ad, rfl, hI, hc⟩ := hA h0
  refine ⟨ad, rfl, hI, fun k hk j hj => ?_⟩
  have h1 := hc k hk j hj
  have h2 : j < (vs k).length := by rw [hl k hk]; exact hj
  rw [List.getElem?_eq_getElem h2] at h1 ⊢
  exact hx.cell h1
 ·intro l ad vs hr0 hI hc hn ih
  refine .xp l ad vs ih hI (fun j hj => ?_) hn
  have h1 := hc j hj
  have h2 : j < vs.length := by rw [<- hr0.len]; exact hj
  rw [List.getElem?_eq_getElem h2] at h1 ⊢
  exact hx.cell h1
 ·exact fun f l m vs ws _ _ h h' => .fn f l m vs ws h h'
 ·exact .nil
 ·exact fun a l v vs _ _ h h' => .cons a l v vs h h'
theorem RelL.cb (hx : CB w w') : ∀ {l : List AV} {vs : List Value}, RelL C w l vs -> RelL C w' l vs
 | _, _, .nil => .nil
 | _, _, .cons a l v vs h h' => .cons a l v vs (Rel.cb hx h) (RelL.cb hx h')
theorem BRel.cb (hx : CB w w') {p : Pl} {b : Blk} (h : BRel C w p b) : BRel C w' p b := by
 match p, b, h with
 | .at q c m, .cells t l, h =>
   obtain ⟨vs, hr, hh⟩ := h
   exact ⟨vs, hr.cb hx, hx.same _ _ hh rfl⟩
 | .at q c m, .row e sz k el, h =>
   obtain ⟨h1, h2, h3, cs, vs, hh, hs, hc⟩ := h
   exact ⟨h1, h2, h3, cs, vs, hx.same _ _ hh rfl, hs, fun k hk => ⟨(hc k hk).1.cb hx, (hc k hk).2⟩⟩
 | .nil, .row _ _ _ _, h => exact h
theorem HR.cb (hx : CB w w') (h : HR C hp w) : HR C hp w' :=
 ⟨fun i p hi => (h.live i p hi).cb hx, h.inj, fun i b c n hi => ⟨Nat.lt_of_lt_of_le (h.fresh i b c n hi).1 hx.size, (h.fresh i b c n hi).2⟩, fun b hb => Nat.lt_of_lt_of_le (h.ilt b hb) hx.size⟩
theorem FR.cb (hx : CB w w') {fr : List AV} {tm : Array Value} (h : FR [] C w fr tm) : FR [] C w' fr tm :=
 ⟨h.len, fun t => ⟨(h.get t).1.cb hx, fun k b e => by obtain ⟨x, h1, _⟩ := (h.get t).2 k b e; simp at h1⟩⟩
theorem HR.others (h : HR C hp w) {k : Nat} {o : Obj} (hk : w.heap[k]? = some o) (ho : o.isCells = false) {i c n : Nat} : C.ρ i ≠ some (.at k c n) := fun hi => by
 have hl := h.live _ _ hi
 cases hb : getB hp i with
 | dead => rw [hb] at hl; exact hl
 | cells t l =>
   rw [hb] at hl
   obtain ⟨vs, _, hh⟩ := hl
   rw [hk] at hh; injection hh with hh; subst hh; cases ho
 | row e sz m el =>
   rw [hb] at hl
   obtain ⟨_, _, _, cs, vs, hh, _⟩ := hl
   rw [hk] at hh; injection hh with hh; subst hh; cases ho
theorem Tr.others {lo : Nat} (t : Tr lo C w C' w') (h : HR C hp w) {k : Nat} {o : Obj} (hk : w.heap[k]? = some o) (ho : o.isCells = false) : w'.heap[k]? = some o :=
 (t.keep k (Array.getElem?_eq_some_iff.1 hk).1 fun i b c n hi e => by subst e; exact h.others hk ho hi).trans hk
theorem Tr.imms {lo : Nat} (t : Tr lo C w C' w') (h : HR C hp w) {b : Nat} (hb : C.I b) : w'.heap[b]? = w.heap[b]? :=
 t.keep b (h.ilt b hb) fun i q c n hi e => by subst e; exact (h.fresh i _ c n hi).2 hb
theorem Tr.later {lo : Nat} (t : Tr lo C w C1 w1) (ho : w2.os = w1.os) (ht : w2.tape = w1.tape) (hu : w2.output = w1.output) (hs : w1.heap.size <= w2.heap.size) (hk : ∀ k, k < w.heap.size -> w2.heap[k]? = w1.heap[k]?) : Tr lo C w C1 w2 :=
 ⟨ho.trans t.os, ht.trans t.tape, hu.trans t.output, Nat.le_trans t.size hs, fun k hlt hn => (hk k hlt).trans (t.keep k hlt hn), t.imm, t.imm', t.rho, t.own⟩
theorem Tr.quiet {lo : Nat} (t : Tr lo C w C1 w1) (q : Quiet w1 w2) : Tr lo C w C1 w2 :=
 t.later q.os q.tape q.output q.size fun k hk => q.keep k (Nat.lt_of_lt_of_le hk t.size)
theorem Tr.putObj {lo l : Nat} (t : Tr lo C w C1 w1) (hl : w.heap.size <= l) (o : Obj) : Tr lo C w C1 (w1.putObj l o) :=
 t.later rfl rfl rfl (by simp) fun _ _ => World.putObj_heap_other (by omega)
def RO (ro : Option Nat) (w : World) : Prop := ∀ l, ro = some l -> ∃ r, w.heap[l]? = some (.loop r)
theorem RO.tr {ro : Option Nat} {lo : Nat} (h : RO ro w) (t : Tr lo C w C' w') (hH : HR C hp w) : RO ro w' := fun l hl => by
 obtain ⟨r, hr⟩ := h l hl
 exact ⟨r, t.others hH hr rfl⟩
def mkOf (b : Nat) : Deferred := { target := .collected b, args := #[] }
structure MarksOK (n : Nat) (w : World) (ms : List Nat) : Prop where
 nd : ms.Nodup
 at_ : ∀ b ∈ ms, n <= b /\ w.heap[b]? = some (.deferred (some []))
structure Kept (W : Nat) (a : Act) (w : World) (a' : Act) (w' : World) : Prop where
 sz : a'.tmps.size = a.tmps.size
 tm : ∀ t, Nat.testBit W t = false -> a'.tmps.getD t undef = a.tmps.getD t undef
 dfs : ∃ ms : List Nat, a'.defers = ms.map mkOf ++ a.defers /\ MarksOK w.heap.size w' ms
theorem Kept.refl (W : Nat) (a : Act) (w : World) (w' : World) : Kept W a w a w' := ⟨rfl, fun _ _ => rfl, [], rfl, List.nodup_nil, fun b hb => by simp at hb⟩
theorem Kept.trans {W : Nat} {a a1 a2 : Act} (h : Kept W a w a1 w1) (k : Kept W a1 w1 a2 w2) (hs : w.heap.size <= w1.heap.size) (ho : ∀ (i : Nat) (o : Obj), w1.heap[i]? = some o -> o.isCells = false -> w2.heap[i]? = some o) : Kept W a w a2 w2 := by
 obtain ⟨m1, e1, n1⟩ := h.dfs
 obtain ⟨m2, e2, n2⟩ := k.dfs
 refine ⟨k.sz.trans h.sz, fun t ht => (k.tm t ht).trans (h.tm t ht), m2 ++ m1, by rw [e2, e1]; simp, ?_, fun b hb => ?_⟩
 ·refine List.nodup_append.2 ⟨n2.nd, n1.nd, fun x hx y hy e => ?_⟩
  subst e
  have h1 := (n2.at_ x hx).1
  have h2 := (Array.getElem?_eq_some_iff.1 (n1.at_ x hy).2).1
  omega
 ·rcases List.mem_append.1 hb with hb | hb
  ·exact ⟨Nat.le_trans hs (n2.at_ b hb).1, (n2.at_ b hb).2⟩
  ·exact ⟨(n1.at_ b hb).1, ho _ _ (n1.at_ b hb).2 rfl⟩
theorem Kept.sub {W W' : Nat} {a a' : Act} (h : Kept W a w a' w') (hs : ∀ t, Nat.testBit W' t = false -> Nat.testBit W t = false) : Kept W' a w a' w' := ⟨h.sz, fun t ht => h.tm t (hs t ht), h.dfs⟩
theorem msk_or {a b t : Nat} (h : Nat.testBit (Nat.lor a b) t = false) : Nat.testBit a t = false /\ Nat.testBit b t = false := by
 have : Nat.testBit (a ||| b) t = false := h
 rw [Nat.testBit_or] at this
 simpa using this
theorem msk_bit (d : Nat) : Nat.testBit (Nat.shiftLeft 1 d) d = true := by
 show Nat.testBit (1 <<< d) d = true
 simp [Nat.testBit_shiftLeft]
theorem msk_l {a b t : Nat} (h : Nat.testBit a t = true) : Nat.testBit (Nat.lor a b) t = true := by
 show Nat.testBit (a ||| b) t = true
 rw [Nat.testBit_or, h]; rfl
theorem msk_r {a b t : Nat} (h : Nat.testBit b t = true) : Nat.testBit (Nat.lor a b) t = true := by
 show Nat.testBit (a ||| b) t = true
 rw [Nat.testBit_or, h, Bool.or_true]
theorem mskO_mem {o : Oper} {d : Nat} (hd : o.dst = some d) : ∀ {ops : List Oper}, o ∈ ops -> Nat.testBit (mskO ops) d = true := by
 intro ops
 induction ops with
 | nil => intro h; cases h
 | cons x l ih =>
   intro hm
   have e : mskO (x :: l) = (match x.dst with | some d => Nat.lor (Nat.shiftLeft 1 d) (mskO l) | none => mskO l) := rfl
   rw [e]
   rcases List.mem_cons.1 hm with rfl | hm
   ·rw [hd]; exact msk_l (msk_bit d)
   ·cases hx : x.dst with
    | none => exact ih hm
    | some d' => exact msk_r (ih hm)
theorem mskP_mem {d : Nat} : ∀ {ps : List Nat}, d ∈ ps -> Nat.testBit (mskP ps) d = true := by
 intro ps
 induction ps with
 | nil => intro h; cases h
 | cons x l ih =>
   intro hm
   have e : mskP (x :: l) = Nat.lor (Nat.shiftLeft 1 x) (mskP l) := rfl
   rw [e]
   rcases List.mem_cons.1 hm with rfl | hm
   ·exact msk_l (msk_bit d)
   ·exact msk_r (ih hm)
def RegKept (W : Nat) (a : Act) (a' : Act) : Prop := a'.tmps.size = a.tmps.size /\ (∀ t, Nat.testBit W t = false -> a'.tmps.getD t undef = a.tmps.getD t undef) /\ a'.defers = a.defers
theorem regKept_put (ops : List Oper) (a : Act) : PutOK ops (RegKept (mskO ops) a) := fun o ho a' v ⟨h0, h1, h2⟩ => by
 refine ⟨?_, fun t ht => ?_, by rw [put_defers, h2]⟩
 ·cases o.dst <;> simpa [Act.put] using h0
 ·rw [put_get, if_neg]
  ·exact h1 t ht
  ·rintro ⟨hd, _⟩
   rw [mskO_mem hd ho] at ht; cases ht
theorem RegKept.kept {W : Nat} {a a' : Act} (h : RegKept W a a') (w w' : World) : Kept W a w a' w' := ⟨h.1, h.2.1, [], by simpa using h.2.2, List.nodup_nil, fun b hb => by simp at hb⟩
theorem topM_eq (m : Nat) : ∀ (l : List AV) (n : Nat) (k : List AV -> VC), ∃ l', topM m l n k = k l' /\ l'.length = l.length /\ ∀ t, getL l' t = (if Nat.testBit m (n + t) = true /\ t < l.length then .top else getL l t)
 | [], n, k => ⟨[], rfl, rfl, fun t => by simp⟩
 | a :: l, n, k => by
   unfold topM
   split
   ·rename_i hb
    obtain ⟨l', h1, h2, h3⟩ := topM_eq m l (n + 1) fun l' => k (.top :: l')
    refine ⟨.top :: l', h1, by simp [h2], fun t => ?_⟩
    cases t with
    | zero => simp [hb, getL_zero]
    | succ t => rw [getL_succ, h3 t, getL_succ, show n + 1 + t = n + (t + 1) by omega]; simp
   ·rename_i hb
    obtain ⟨l', h1, h2, h3⟩ := topM_eq m l (n + 1) fun l' => k (a :: l')
    refine ⟨a :: l', h1, by simp [h2], fun t => ?_⟩
    cases t with
    | zero => simp [hb, getL_zero]
    | succ t => rw [getL_succ, h3 t, getL_succ, show n + 1 + t = n + (t + 1) by omega]; simp
theorem setPs_sat {R : AV -> Heap -> Prop} : ∀ {ps : List Nat} {as : List AV} {vs : List Value} {fr : List AV} {tm : Array Value} {k : List AV -> VC}, (setPs ps as fr k).sat R -> RelL C w as vs -> FR [] C w fr tm ->
  ps.length = vs.length /\ ∃ fr', (k fr').sat R /\ FR [] C w fr' ((ps.zip vs).foldl (fun t (p, v) => t.setIfInBounds p v) tm)
 | [], [], vs, fr, tm, k, h, hr, hF => by cases hr; exact ⟨rfl, fr, h, hF⟩
 | p :: ps, a :: as, vs, fr, tm, k, h, hr, hF => by
   cases hr with
   | cons _ _ v vs h1 h2 =>
     simp only [setPs, forceD_eq, setF_eq] at h
     have hF' : FR [] C w (setL fr p (noGd a)) (tm.setIfInBounds p v) := FR.put (act := ⟨tm, []⟩) hF (.plain (rel_noGd h1) (notGd_noGd _)) (some p)
     obtain ⟨h3, fr', h4, h5⟩ := setPs_sat h h2 hF'
     exact ⟨by simp [h3], fr', h4, h5⟩
 | [], _ :: _, _, _, _, _, h, _, _ => h.elim
 | _ :: _, [], _, _, _, _, h, _, _ => h.elim
theorem fold_get : ∀ (l : List (Nat × Value)) (tm : Array Value) (t : Nat), t ∉ l.map Prod.fst -> (l.foldl (fun t (p, v) => t.setIfInBounds p v) tm).getD t undef = tm.getD t undef
 | [], _, _, _ => rfl
 | (p, v) :: l, tm, t, h => by
   simp only [List.map_cons, List.mem_cons, not_or] at h
   rw [List.foldl_cons, fold_get l _ t h.2]
   simp only [Array.getD_eq_getD_getElem?, Array.getElem?_setIfInBounds]
   rw [if_neg (fun e => h.1 e.symm)]
theorem fold_size : ∀ (l : List (Nat × Value)) (tm : Array Value), (l.foldl (fun t (p, v) => t.setIfInBounds p v) tm).size = tm.size
 | [], _ => rfl
 | (p, v) :: l, tm => by rw [List.foldl_cons, fold_size l]; simp
end
end Abs
end Go.Proofs.YtlabbaglbcmofaaGreat

namespace Go.Proofs.YtlabbaglbcmofaaGreat
namespace Abs
open Go Go.RowKit
theorem asMove_eq {op : Op} {s : Nat} (h : asMove op = some s) : op = .move (.tmp s) := by
 unfold asMove at h
 split at h
 ·injection h with h; subst h; rfl
 ·cases h
theorem asNil_eq {op : Op} {t : TypeId} {a : Nat} (h : asNil op = some (t, a)) : ∃ yt, op = .binOp .eql t (.tmp a) (.const (.slice none 0 0)) yt := by
 unfold asNil at h
 split at h
 ·injection h with h; injection h with h1 h2; subst h1 h2; exact ⟨_, rfl⟩
 ·cases h
theorem isSlc_eq {x : AV} {n : LN} (h : isSlc x = some n) : ∃ sz el, x = .slc n sz el := by
 unfold isSlc at h
 split at h
 ·injection h with h; subst h; exact ⟨_, _, rfl⟩
 ·cases h
theorem region_nil {P : Program} {C : Cx} {w : World} {ro : Option Nat} {rm : Nat} {id : Nat} {ops : Array Oper} {fr : List AV} {act : Act} {Q : Exit -> Act -> World -> Prop} {s a b : Nat} {n : LN}
  (hc : nilCmp P ops.toList fr = some (s, a, b, n)) (hF : FR [] C w fr act.tmps)
  (hgoal : ∀ bb : Bool, (bb = true -> n.val = 0) -> ∀ act' : Act, RegKept (mskO ops.toList) act act' -> FR [] C w (setL (setL fr a (getL fr s)) b (.lb bb)) act'.tmps -> Q .normal act' w) :
  (Code.region id ops false).wpIn (fen ro) rm P Q act w := by
 have hput := regKept_put ops.toList act
 have hds : RegKept (mskO ops.toList) act act := ⟨rfl, fun _ _ => rfl, rfl⟩
 unfold nilCmp at hc
 split at hc
 case h_2 => cases hc
 rename_i o1 o2 hops
 split at hc
 case h_2 => cases hc
 rename_i t a' hn
 split at hc
 case h_2 => cases hc
 rename_i s' hm
 split at hc
 case h_2 => cases hc
 rename_i x y hd1 hg1 hd2 hg2
 split at hc
 case h_2 => cases hc
 rename_i m hb hs
 injection hc with hc; injection hc with e1 hc; injection hc with e2 hc; injection hc with e3 e4
 subst e1 e2 e3 e4
 simp only [Bool.and_eq_true] at hb
 obtain ⟨⟨hb1, hb2⟩, hb3⟩ := hb
 obtain rfl := Nat.eq_of_beq_eq_true hb1
 obtain ⟨sz, el, hs⟩ := isSlc_eq hs
 have hlt : x < act.tmps.size := by rw [<- hF.len]; simpa [Nat.blt_eq] using hb3
 obtain ⟨e, ht⟩ : ∃ e, P.underlying t = some (.slice e) := by
  unfold isSliceT at hb2
  split at hb2
  ·rename_i e h; exact ⟨e, h⟩
  ·cases hb2
 have hv := (hF.get s').1
 rw [hs] at hv
 obtain ⟨A, cap, hval, h0⟩ : ∃ A cap, act.tmps.getD s' undef = .slice A m.val cap /\ (A.isNone = true -> m.val = 0) := by
  generalize act.tmps.getD s' undef = v at hv
  cases hv with
  | slc _ _ _ A cap vs hcap hA _ _ _ =>
    refine ⟨A, cap, rfl, fun hn => ?_⟩
    rcases Nat.eq_zero_or_pos m.val with h | h
    ·exact h
    ·obtain ⟨ad, rfl, _⟩ := hA h
     cases hn
 obtain rfl : ops = #[o1, o2] := by
  cases ops; simp only at hops; rw [hops]
 have hm1 := asMove_eq hm
 obtain ⟨yt, hm2⟩ := asNil_eq hn
 apply wpIn_region
 have hw1 : ∀ f, Region.wanted o1 f = true := fun f => by unfold Region.wanted; rw [hg1]
 have hw2 : ∀ f, Region.wanted o2 f = true := fun f => by unfold Region.wanted; rw [hg2]
 have hF1 : FR [] C w (setL fr x (getL fr s')) (act.put (some x) (act.tmps.getD s' undef)).tmps := hF.put (a := getL fr s') (.plain (hF.get s').1 (by rw [hs]; trivial)) (some x)
 show wpOpsIn (fen ro) rm P #[o1, o2] Q [0, 1] act w
 simp only [wpOpsIn, List.getElem?_toArray, List.getElem?_cons_zero, List.getElem?_cons_succ, hw1, hw2, if_true]
 refine Ran.wpIn (run_of_post (m := pure (act.tmps.getD s' undef)) ?_ ⟨_, _, Sem.run_pure .., ?_⟩)
 ·obtain ⟨dst, op, type, pos, after, guard⟩ := o1
  simp only at hm1
  subst hm1
  rfl
 rw [hd1]
 generalize hact : act.put (some x) (act.tmps.getD s' undef) = act1 at hF1
 have hget : act1.tmps.getD x undef = .slice A m.val cap := by
  rw [<- hact, <- hval]
  simp [Act.put, hlt]
 have hds1 : RegKept (mskO [o1, o2]) act act1 := by rw [<- hact, <- hd1]; exact hput o1 (by simp) _ _ hds
 refine Ran.wpIn (run_of_post (m := do eqGuard .eql t (.tmp x) (.const (.slice none 0 0)) (act1.tmps.getD x undef) (.slice none 0 0); binOp .eql t (act1.tmps.getD x undef) (.slice none 0 0)) ?_ ⟨.bool A.isNone, w, ?_, ?_⟩)
 ·obtain ⟨dst, op, type, pos, after, guard⟩ := o2
  simp only at hm2
  subst hm2
  rfl
 ·rw [hget]
  have := Lib.run_eql_slice_nil (P := P) w t e A m.val cap 0 0 ht
  simpa [eqGuard] using this
 ·refine hgoal A.isNone h0 _ (hput o2 (by simp) _ _ hds1) ?_
  rw [hd2]
  exact hF1.put (a := .lb A.isNone) (.plain (.lb _) trivial) (some y)
end Abs
end Go.Proofs.YtlabbaglbcmofaaGreat

namespace Go.Proofs.YtlabbaglbcmofaaGreat
namespace Abs
open Go Go.RowKit
section
variable {P : Program} {S : Sums} {C C' : Cx} {w w' : World} {H hp : Heap} {T T1 T' : List Cnd} {all : List Oper}
variable {F : Fence} {n : Nat} {Q : Exit -> Act -> World -> Prop} {J : World -> Prop}
theorem s_first {i : Nat} {oi : Oper} {a0 : Act} {v : Value} (hi : all.toArray[i]? = some oi) (hf : Fix P J all.toArray oi a0 v) (hF : ∀ f, F.fn f) (hsel : ∀ (j : Nat) (o : Oper) cs b, all.toArray[j]? = some o -> o.op ≠ .select cs b) (hQ : ∀ c a w, ¬ Q (.panic c) a w)
  (fuel : Nat) (listed : Array Bool) (a : Act) (w : World)
  (hfree : ∀ j oj, all.toArray[j]? = some oj -> j ≠ i -> listed.getD j true = false -> (∀ e ∈ oj.after, Region.binds .any e = true -> e.on ≠ i) -> oi.apart all.toArray oj = true)
  (hr : i ∈ Region.ready .any all.toArray listed) (hE : SameAt all.toArray oi a0 a) (hJ : J w)
  (h : wpAnyI (fun _ w => J w) F n P all.toArray Q fuel (listed.setIfInBounds i true) (a.put oi.dst v) w) : wpAnyI (fun _ w => J w) F n P all.toArray Q (fuel + 1) listed a w :=
 s_firstI (I := fun _ w => J w) hi hf hF hsel hQ (fun _ _ h => h) fuel listed a w hfree hr hE hJ hJ (wpAnyI_mono (fun _ _ h => ⟨h, h⟩) _ _ _ _ h)
inductive PRun (P : Program) (J : World -> Prop) (all : List Oper) : List Oper -> List Bool -> Act -> Act -> Prop
 | nil (a : Act) : PRun P J all [] [] a a
 | skip (o : Oper) (l : List Oper) (m : List Bool) (a a' : Act) (h : PRun P J all l m a a') : PRun P J all (o :: l) (false :: m) a a'
 | op (o : Oper) (l : List Oper) (m : List Bool) (a a' : Act) (v : Value) (hf : Fix P J all.toArray o a v) (h : PRun P J all l m (a.put o.dst v) a') : PRun P J all (o :: l) (true :: m) a a'
def pLst : List Bool -> Nat -> Array Bool -> Array Bool
 | [], _, D => D
 | true :: m, k, D => pLst m (k + 1) (D.setIfInBounds k true)
 | false :: m, k, D => pLst m (k + 1) D
def cntT : List Bool -> Nat
 | [] => 0
 | true :: m => cntT m + 1
 | false :: m => cntT m
theorem pLst_spec : ∀ (m : List Bool) (k : Nat) (D : Array Bool), k + m.length = D.size -> (pLst m k D).size = D.size /\ ∀ i, Lst (pLst m k D) i ↔ Lst D i \/ ∃ j, i = k + j /\ m[j]? = some true
 | [], k, D, _ => ⟨rfl, fun i => ⟨.inl, fun h => by
   rcases h with h | ⟨j, _, h⟩
   ·exact h
   ·simp at h⟩⟩
 | true :: m, k, D, hs => by
   simp only [List.length_cons] at hs
   obtain ⟨h1, h2⟩ := pLst_spec m (k + 1) (D.setIfInBounds k true) (by simp; omega)
   simp only [pLst]
   refine ⟨by rw [h1]; simp, fun i => ?_⟩
   rw [h2, show Lst (D.setIfInBounds k true) i ↔ Lst D i \/ i = k from by unfold Lst; rw [lst_set (by omega)]; simp]
   constructor
   ·rintro ((h | h) | ⟨j, h3, h4⟩)
    ·exact .inl h
    ·exact .inr ⟨0, by omega, by simp⟩
    ·exact .inr ⟨j + 1, by omega, by simpa using h4⟩
   ·rintro (h | ⟨j, h3, h4⟩)
    ·exact .inl (.inl h)
    ·cases j with
     | zero => exact .inl (.inr (by omega))
     | succ j => exact .inr ⟨j, by omega, by simpa using h4⟩
 | false :: m, k, D, hs => by
   simp only [List.length_cons] at hs
   obtain ⟨h1, h2⟩ := pLst_spec m (k + 1) D (by omega)
   simp only [pLst]
   refine ⟨h1, fun i => ?_⟩
   rw [h2]
   constructor
   ·rintro (h | ⟨j, h3, h4⟩)
    ·exact .inl h
    ·exact .inr ⟨j + 1, by omega, by simpa using h4⟩
   ·rintro (h | ⟨j, h3, h4⟩)
    ·exact .inl h
    ·cases j with
     | zero => simp at h4
     | succ j => exact .inr ⟨j, by omega, by simpa using h4⟩
theorem getFl_eq : ∀ (l : List Bool) (i : Nat), getFl l i = l.getD i false
 | [], _ => rfl
 | _ :: _, 0 => rfl
 | _ :: l, i + 1 => by simp [getFl, getFl_eq l i]
theorem edgesFl_spec {fl : List Bool} : ∀ {l : List Edge}, edgesFl fl l = true -> ∀ e ∈ l, getFl fl e.on = true
 | [], _, e, he => by cases he
 | x :: l, h, e, he => by
   simp only [edgesFl] at h
   split at h
   ·rename_i hx
    rcases List.mem_cons.1 he with rfl | he
    ·exact hx
    ·exact edgesFl_spec h e he
   ·cases h
theorem s_all {fl : List Bool} (hF : ∀ f, F.fn f) (hsel : ∀ (j : Nat) (o : Oper) cs b, all[j]? = some o -> o.op ≠ .select cs b) (hQ : ∀ c a w, ¬ Q (.panic c) a w) (hback : Back all)
  (hap : ∀ (i : Nat) (oi : Oper), all[i]? = some oi -> getFl fl i = true -> (∀ e ∈ oi.after.toList, getFl fl e.on = true) /\ ∀ (j : Nat) (oj : Oper), all[j]? = some oj -> j ≠ i -> ¬ (getFl fl j = true /\ j < i) -> (∀ e ∈ oj.after, Region.binds .any e = true -> e.on ≠ i) -> oi.apart all.toArray oj = true) {fuel : Nat} :
  ∀ (l : List Oper) (m : List Bool) (k : Nat) (D : Array Bool) (a a' : Act) (w : World), PRun P J all l m a a' -> (∀ j, l[j]? = all[k + j]?) -> (∀ j, m[j]? = fl[k + j]?) -> D.size = all.length -> (∀ i, k <= i -> ¬ Lst D i) -> (∀ i, i < k -> getFl fl i = true -> Lst D i) -> J w ->
    wpAnyI (fun _ w => J w) F n P all.toArray Q fuel (pLst m k D) a' w -> wpAnyI (fun _ w => J w) F n P all.toArray Q (fuel + cntT m) D a w := by
 intro l m k D a a' w hr
 induction hr generalizing k D with
 | nil a => intro _ _ _ _ _ _ h; exact h
 | skip o l m a a' h ih =>
   intro hl hm hsz hD hD' hJ hh
   have hl' : ∀ j, l[j]? = all[k + 1 + j]? := fun j => by
    have := hl (j + 1)
    rw [List.getElem?_cons_succ] at this
    rw [this]; congr 1; omega
   have hm' : ∀ j, m[j]? = fl[k + 1 + j]? := fun j => by
    have := hm (j + 1)
    rw [List.getElem?_cons_succ] at this
    rw [this]; congr 1; omega
   refine ih (k + 1) D hl' hm' hsz (fun i hi => hD i (by omega)) (fun i hi hf => ?_) hJ hh
   rcases Nat.lt_or_ge i k with h' | h'
   ·exact hD' i h' hf
   ·obtain rfl : i = k := by omega
    have := hm 0
    simp at this
    rw [getFl_eq, List.getD_eq_getElem?_getD, <- this] at hf
    simp at hf
 | op o l m a a' v hf h ih =>
   intro hl hm hsz hD hD' hJ hh
   have h0 : all[k]? = some o := by simpa using (hl 0).symm
   have hlt := (List.getElem?_eq_some_iff.1 h0).1
   have hfk : getFl fl k = true := by
    have := hm 0
    simp at this
    rw [getFl_eq, List.getD_eq_getElem?_getD, <- this]; rfl
   have hl' : ∀ j, l[j]? = all[k + 1 + j]? := fun j => by
    have := hl (j + 1)
    rw [List.getElem?_cons_succ] at this
    rw [this]; congr 1; omega
   have hm' : ∀ j, m[j]? = fl[k + 1 + j]? := fun j => by
    have := hm (j + 1)
    rw [List.getElem?_cons_succ] at this
    rw [this]; congr 1; omega
   obtain ⟨g1, g2⟩ := hap k o h0 hfk
   simp only [cntT, pLst] at hh ⊢
   rw [<- Nat.add_assoc]
   have hset : ∀ i, Lst (D.setIfInBounds k true) i ↔ Lst D i \/ i = k := fun i => by unfold Lst; rw [lst_set (by omega)]; simp
   refine s_first (i := k) (oi := o) (a0 := a) (by simpa using h0) hf hF (fun j o' cs b hj => hsel j o' cs b (by simpa using hj)) hQ _ D a w (fun j oj hj hne hun hno => ?_) ?_ (fun t _ => rfl) hJ
    (ih (k + 1) _ hl' hm' (by simp [hsz]) (fun i hi hl => ?_) (fun i hi hfi => ?_) hJ hh)
   ·have hj' : all[j]? = some oj := by simpa using hj
    refine g2 j oj hj' hne (fun hc => ?_) hno
    have h5 := hD' j hc.2 hc.1
    have hjl := (List.getElem?_eq_some_iff.1 hj').1
    rw [getD_tf (by omega)] at hun
    unfold Lst at h5
    rw [hun] at h5; cases h5
   ·refine mem_ready h0 ?_ fun e he hb => ?_
    ·rw [getD_tf (by omega)]
     have := hD k (Nat.le_refl _)
     unfold Lst at this
     simpa using this
    ·exact hD' e.on (hback k o h0 e he hb) (g1 e he)
   ·rcases (hset i).1 hl with h' | h'
    ·exact hD i (by omega) h'
    ·omega
   ·refine (hset i).2 ?_
    rcases Nat.lt_or_ge i k with h' | h'
    ·exact .inl (hD' i h' hfi)
    ·exact .inr (by omega)
end
end Abs
end Go.Proofs.YtlabbaglbcmofaaGreat

namespace Go.Proofs.YtlabbaglbcmofaaGreat
namespace Abs
open Go Go.RowKit
section
variable {P : Program} {S : Sums} {C C' : Cx} {w w' : World} {H hp : Heap} {T T1 T' : List Cnd} {all : List Oper} {F : Fence} {n : Nat} {Q : Exit -> Act -> World -> Prop} {J : World -> Prop}
theorem snocB_eq : ∀ (l : List Bool) (x : Bool), snocB l x = l ++ [x]
 | [], _ => rfl
 | _ :: l, x => by simp [snocB, snocB_eq l]
theorem len_frGo : ∀ (l : List Oper) (fl : List Bool), (frGo all l fl).length = fl.length + l.length
 | [], fl => rfl
 | o :: l, fl => by simp only [frGo]; rw [len_frGo l, snocB_eq]; simp; omega
theorem len_frL : (frL all).length = all.length := by unfold frL; rw [len_frGo]; simp
theorem tagL_get {fl : List Bool} : ∀ (l : List Oper) (m : List Bool) (i : Nat) (o : Oper), m.length = l.length -> l[i]? = some o -> (tagL fl l m)[i]? = some (tagO fl (getFl m i) o)
 | [], _, i, o, _, h => by simp at h
 | _ :: _, [], i, o, hl, h => by simp at hl
 | p :: l, b :: m, 0, o, hl, h => by simp at h; subst h; rfl
 | p :: l, b :: m, i + 1, o, hl, h => by
   simp only [tagL, getFl, List.getElem?_cons_succ] at h ⊢
   exact tagL_get l m i o (by simpa using hl) h
theorem len_tagL {fl : List Bool} : ∀ (l : List Oper) (m : List Bool), m.length = l.length -> (tagL fl l m).length = l.length
 | [], [], _ => rfl
 | [], _ :: _, h => by simp at h
 | _ :: _, [], h => by simp at h
 | p :: l, b :: m, h => by simp only [tagL, List.length_cons]; rw [len_tagL l m (by simpa using h)]
def GK (all : List Oper) (fl : List Bool) (a : Act) : Prop := ∀ i o g b, all[i]? = some o -> getFl fl i = false -> o.guard = some (g, b) -> getFl fl g = true -> yielded all.toArray a.tmps g = some b
theorem ready_tag {fl : List Bool} (hlen : fl.length = all.length) {D : Array Bool} (hs : D.size = all.length) (hD : ∀ i, getFl fl i = true -> i < all.length -> Lst D i) (i : Nat) : i ∈ Region.ready .any all.toArray D ↔ i ∈ Region.ready .any (tagL fl all fl).toArray D := by
 have nf : ∀ {i}, i < all.length -> D.getD i true = false -> getFl fl i = false := fun {i} hi h => by
  cases hf : getFl fl i with
  | false => rfl
  | true =>
    have := hD i hf hi
    rw [getD_tf (by omega)] at h
    unfold Lst at this
    rw [h] at this; cases this
 constructor
 ·intro h
  obtain ⟨o, ho, hn, hp⟩ := ready_mem h
  have hlt := (List.getElem?_eq_some_iff.1 ho).1
  have ht := tagL_get (fl := fl) all fl i o hlen ho
  rw [nf hlt hn] at ht
  exact mem_ready ht hn hp
 ·intro h
  obtain ⟨o', ho', hn, hp⟩ := ready_mem h
  have hlt := (List.getElem?_eq_some_iff.1 ho').1
  rw [len_tagL all fl hlen] at hlt
  have ho : all[i]? = some (all[i]'hlt) := List.getElem?_eq_getElem _
  have ht := tagL_get (fl := fl) all fl i _ hlen ho
  rw [nf hlt hn, ho'] at ht
  injection ht with ht
  subst ht
  exact mem_ready ho hn hp
theorem retag {fl : List Bool} (hlen : fl.length = all.length) {I : Act -> World -> Prop} (hIJ : ∀ a w, I a w -> GK all fl a /\ J w) : ∀ (fuel : Nat) (D : Array Bool) (a : Act) (w : World), D.size = all.length -> (∀ i, getFl fl i = true -> i < all.length -> Lst D i) -> GK all fl a ->
  wpAnyI I F n P (tagL fl all fl).toArray Q fuel D a w -> wpAnyI (fun _ w => J w) F n P all.toArray Q fuel D a w := by
 intro fuel
 induction fuel with
 | zero =>
   intro D a w hs hD hG h
   refine ⟨?_, h.2⟩
   cases hr : Region.ready .any all.toArray D with
   | nil => rfl
   | cons i l =>
     have := (ready_tag hlen hs hD i).1 (by rw [hr]; simp)
     rw [h.1] at this; cases this
 | succ fuel ih =>
   intro D a w hs hD hG h
   refine ⟨fun hr => h.1 ?_, fun i hi => ?_⟩
   ·cases hr' : Region.ready .any (tagL fl all fl).toArray D with
    | nil => rfl
    | cons i l =>
      have := (ready_tag hlen hs hD i).2 (by rw [hr']; simp)
      rw [hr] at this; cases this
   ·have h1 := h.2 i ((ready_tag hlen hs hD i).1 hi)
    obtain ⟨o, ho, hn, hp⟩ := ready_mem hi
    have hlt := (List.getElem?_eq_some_iff.1 ho).1
    have hnf : getFl fl i = false := by
     cases hf : getFl fl i with
     | false => rfl
     | true =>
       have := hD i hf hlt
       rw [getD_tf (by omega)] at hn
       unfold Lst at this
       rw [hn] at this; cases this
    have ht := tagL_get (fl := fl) all fl i o hlen ho
    rw [hnf] at ht
    have hao : all.toArray[i]? = some o := by simpa using ho
    have hao' : (tagL fl all fl).toArray[i]? = some (tagO fl false o) := by simpa using ht
    have hD' : ∀ k, getFl fl k = true -> k < all.length -> Lst (D.setIfInBounds i true) k := fun k hk hkl => by
     have := hD k hk hkl
     unfold Lst at this ⊢
     rw [lst_set (by omega), this]; rfl
    have hwt : Region.wanted (tagO fl false o) (yielded (tagL fl all fl).toArray a.tmps) = Region.wanted o (yielded all.toArray a.tmps) := by
     unfold Region.wanted
     cases hgu : o.guard with
     | none => simp only [tagO, hgu, dropG]
     | some gw =>
       obtain ⟨g, b⟩ := gw
       cases hgf : getFl fl g with
       | true =>
         have := hG i o g b ho hnf hgu hgf
         simp only [tagO, hgu, dropG, hgf, this]
         simp
       | false =>
         have hy : yielded (tagL fl all fl).toArray a.tmps g = yielded all.toArray a.tmps g := by
          unfold yielded
          simp only [List.getElem?_toArray]
          cases hog : all[g]? with
          | none =>
            have : (tagL fl all fl)[g]? = none := by
             rw [List.getElem?_eq_none_iff] at hog ⊢
             rw [len_tagL all fl hlen]; exact hog
            rw [this]
          | some og =>
            rw [tagL_get (fl := fl) all fl g og hlen hog, hgf]
            rfl
         simp only [tagO, hgu, dropG, hgf, hy]
    unfold wpOpIn at h1 ⊢
    simp only [hao'] at h1
    simp only [hao]
    rw [hwt] at h1
    split
    ·rename_i hw
     rw [if_pos hw] at h1
     have h1' : Oper.wpIn F n P o a w (fun a' w' => I a' w' /\ wpAnyI I F n P (tagL fl all fl).toArray Q fuel (D.setIfInBounds i true) a' w') Q := h1
     exact Oper.wpIn_mono (fun a' w' h2 => ⟨(hIJ _ _ h2.1).2, ih _ a' w' (by simp [hs]) hD' (hIJ _ _ h2.1).1 h2.2⟩) h1'
    ·rename_i hw
     rw [if_neg hw] at h1
     exact ⟨h1.1, (hIJ _ _ h1.2.1).2, ih _ _ _ (by simp [hs]) hD' (hIJ _ _ h1.2.1).1 h1.2.2⟩
theorem hoist_anyI {I : Act -> World -> Prop} (hbk : Back all) (hgd : ∀ (i : Nat) (o : Oper) (g : Nat) (b : Bool), all[i]? = some o -> o.guard = some (g, b) -> mvAt all g = false /\ g < all.length) : ∀ (fuel : Nat) (D D' : Array Bool) (a : Act) (w : World), Ren all D D' ->
  wpAnyI I F n P (hoist all).toArray Q fuel D' a w -> wpAnyI I F n P all.toArray Q fuel D a w := by
 intro fuel
 induction fuel with
 | zero =>
   intro D D' a w r h
   refine ⟨?_, h.2⟩
   cases hr : Region.ready .any all.toArray D with
   | nil => rfl
   | cons i l =>
     obtain ⟨o, _, _, h2⟩ := r.ready hbk (i := i) (by rw [hr]; simp)
     rw [h.1] at h2; cases h2
 | succ fuel ih =>
   intro D D' a w r h
   refine ⟨fun hr => h.1 ?_, fun i hi => ?_⟩
   ·have hall := all_listed hbk r.s hr
    cases hr' : Region.ready .any (hoist all).toArray D' with
    | nil => rfl
    | cons q l =>
      exfalso
      obtain ⟨o', ho', hn', _⟩ := ready_mem (show q ∈ Region.ready .any (hoist all).toArray D' by rw [hr']; simp)
      have hlt := (List.getElem?_eq_some_iff.1 ho').1
      rw [hoist_len] at hlt
      rw [getD_tf (by rw [r.s']; exact hlt)] at hn'
      have hln : Lst D' q := by
       rcases Nat.lt_or_ge q (mvOps all).length with hq | hq
       ·exact r.mv' q hq
       ·obtain ⟨i, o, h1, h2, rfl⟩ := hoist_inv hq hlt
        exact (r.ot i o h1 h2).2 (hall i (List.getElem?_eq_some_iff.1 h1).1)
      unfold Lst at hln
      rw [hn'] at hln; cases hln
   ·obtain ⟨o, ho, hx, hrd⟩ := r.ready hbk hi
    have hg := hoist_get ho hx
    have hlt := (List.getElem?_eq_some_iff.1 ho).1
    have hlt' : (mvOps all).length + nmv all i < all.length := by have := (List.getElem?_eq_some_iff.1 hg).1; rwa [hoist_len] at this
    have h1 := h.2 _ hrd
    have hao : all.toArray[i]? = some o := by simpa using ho
    have hao' : (hoist all).toArray[(mvOps all).length + nmv all i]? = some (renO all (mvOps all).length o) := by simpa using hg
    have r' : Ren all (D.setIfInBounds i true) (D'.setIfInBounds ((mvOps all).length + nmv all i) true) := by
     have e1 : ∀ k, Lst (D.setIfInBounds i true) k ↔ Lst D k \/ k = i := fun k => by unfold Lst; rw [lst_set (by rw [r.s]; exact hlt)]; simp
     have e2 : ∀ k, Lst (D'.setIfInBounds ((mvOps all).length + nmv all i) true) k ↔ Lst D' k \/ k = (mvOps all).length + nmv all i := fun k => by unfold Lst; rw [lst_set (by rw [r.s']; exact hlt')]; simp
     refine ⟨by simp [r.s], by simp [r.s'], fun j o' x hj hx' => (e1 j).2 (.inl (r.mv j o' x hj hx')), fun j hj => (e2 j).2 (.inl (r.mv' j hj)), fun j o' hj hx' => ?_⟩
     rw [e1, e2, r.ot j o' hj hx']
     constructor
     ·rintro (h | h)
      ·exact .inl h
      ·exact .inr (nmv_inj hj hx' ho hx (by omega))
     ·rintro (h | h)
      ·exact .inl h
      ·subst h; exact .inr rfl
    have hwt : Region.wanted (renO all (mvOps all).length o) (yielded (hoist all).toArray a.tmps) = Region.wanted o (yielded all.toArray a.tmps) := by
     unfold Region.wanted
     cases hgu : o.guard with
     | none => simp only [renO, hgu]
     | some gw =>
       obtain ⟨g, b⟩ := gw
       obtain ⟨h2, h3⟩ := hgd i o g b ho hgu
       have ho2 : all[g]? = some (all[g]'h3) := List.getElem?_eq_getElem _
       have hx2 : mvX (all[g]'h3) = none := by
        rw [mvAt_get ho2] at h2
        cases hx3 : mvX (all[g]'h3) with
        | none => rfl
        | some y => rw [hx3] at h2; simp at h2
       have hg2 := hoist_get ho2 hx2
       have hy : yielded (hoist all).toArray a.tmps ((mvOps all).length + nmv all g) = yielded all.toArray a.tmps g := by
        unfold yielded
        simp only [List.getElem?_toArray, hg2, ho2, Option.bind_some]
        rfl
       simp only [renO, hgu, hy]
    unfold wpOpIn at h1 ⊢
    simp only [hao'] at h1
    simp only [hao]
    rw [hwt] at h1
    split
    ·rename_i hw
     rw [if_pos hw] at h1
     have h1' : Oper.wpIn F n P o a w (fun a' w' => I a' w' /\ wpAnyI I F n P (hoist all).toArray Q fuel (D'.setIfInBounds ((mvOps all).length + nmv all i) true) a' w') Q := h1
     exact Oper.wpIn_mono (fun a' w' h2 => ⟨h2.1, ih _ _ a' w' r' h2.2⟩) h1'
    ·rename_i hw
     rw [if_neg hw] at h1
     exact ⟨h1.1, h1.2.1, ih _ _ _ _ r' h1.2.2⟩
end
end Abs
end Go.Proofs.YtlabbaglbcmofaaGreat

namespace Go.Proofs.YtlabbaglbcmofaaGreat
namespace Abs
open Go Go.RowKit
section
variable {P : Program} {S : Sums} {C C' : Cx} {w w' : World} {H hp : Heap} {T T1 T' : List Cnd} {all : List Oper} {F : Fence} {n : Nat} {Q : Exit -> Act -> World -> Prop} {J : World -> Prop}
theorem gdOK_spec {fr : List AV} {tm : Array Value} (hF : FR [] C w fr tm) {g : Nat} {b : Bool} (h : gdOK all fr (some (g, b)) = true) : yielded all.toArray tm g = some b := by
 simp only [gdOK] at h
 split at h
 ·rename_i d hd
  split at h
  ·rename_i c hc
   have h1 := (hF.get d).1
   rw [hc] at h1
   rw [yielded_eq hd]
   generalize tm.getD d undef = x at h1
   cases h1
   simpa [yv] using h
  ·cases h
 ·cases h
theorem pre_ok {R : AV -> Heap -> Prop} (hilt : ∀ b, C.I b -> b < w.heap.size) : ∀ (l : List Oper) (m : List Bool) (fr : List AV) (a : Act) (k : List AV -> VC), m.length = l.length -> FR [] C w fr a.tmps -> (preK P all l m fr k).sat R ->
  ∃ a' fr', PRun P (Imm C w) all l m a a' /\ FR [] C w fr' a'.tmps /\ (k fr').sat R
 | [], [], fr, a, k, _, hF, h => ⟨a, fr, .nil a, hF, by simpa [preK] using h⟩
 | [], _ :: _, _, _, _, hl, _, _ => by simp at hl
 | _ :: _, [], _, _, _, hl, _, _ => by simp at hl
 | o :: l, false :: m, fr, a, k, hl, hF, h => by
   simp only [preK] at h
   obtain ⟨a', fr', h1, h2, h3⟩ := pre_ok hilt l m fr a k (by simpa using hl) hF h
   exact ⟨a', fr', .skip o l m a a' h1, h2, h3⟩
 | o :: l, true :: m, fr, a, k, hl, hF, h => by
   simp only [preK] at h
   split at h
   ·exact h.elim
   ·rename_i hg
    rw [forceM_eq] at h
    split at h
    ·exact h.elim
    ·rename_i ps x hx
     obtain ⟨h1, h2⟩ := needs_sat h
     rw [forceD_eq, setK_eq] at h2
     obtain ⟨v, hv, hdf, hse, hrun⟩ := frVal_ok (w := w) (C := C) (σ := a.eval) hilt (fun y => sees_evM fr _ [] C w a hF y) (fun _ => rfl) hx h1
     have hF2 : FR [] C w (setO fr o.dst (noGd x)) (a.put o.dst v).tmps := hF.put (.plain (rel_noGd hv) (notGd_noGd _)) _
     obtain ⟨a', fr', h3, h4, h5⟩ := pre_ok hilt l m _ (a.put o.dst v) k (by simpa using hl) hF2 h2
     refine ⟨a', fr', .op o l m a a' v ⟨hdf, hse, ?_, hrun⟩ h3, h4, h5⟩
     unfold Region.wanted
     cases hgu : o.guard with
     | none => rfl
     | some gw =>
       obtain ⟨g, b⟩ := gw
       rw [hgu] at hg
       simp only [gdOK_spec hF hg]
       simp
theorem PRun.ds {l : List Oper} {m : List Bool} {a a' : Act} {ds : Act -> Prop} (h : PRun P J all l m a a') : (∀ o ∈ l, ∀ (a : Act) (v : Value), ds a -> ds (a.put o.dst v)) -> ds a -> ds a' := by
 induction h with
 | nil a => exact fun _ h => h
 | skip o l m a a' h ih => exact fun hp h => ih (fun o' ho' => hp o' (by simp [ho'])) h
 | op o l m a a' v hf h ih => exact fun hp h => ih (fun o' ho' => hp o' (by simp [ho'])) (hp o (by simp) _ _ h)
theorem gdAll_spec {fl : List Bool} {fr : List AV} : ∀ {l : List Oper} {m : List Bool}, gdAll all fl fr l m = true -> m.length = l.length -> ∀ i o g b, l[i]? = some o -> getFl m i = false -> o.guard = some (g, b) -> getFl fl g = true -> gdOK all fr (some (g, b)) = true
 | [], _, _, _, i, o, g, b, h, _, _, _ => by simp at h
 | _ :: _, [], _, hl, _, _, _, _, _, _, _, _ => by simp at hl
 | p :: l, c :: m, h, hl, i, o, g, b, hi, hf, hg, hgf => by
   have ht : gdAll all fl fr l m = true := by
    unfold gdAll at h
    split at h
    ·split at h
     ·split at h
      ·exact h
      ·cases h
     ·exact h
    ·exact h
   cases i with
   | zero =>
     simp at hi; subst hi
     simp only [getFl] at hf
     subst hf
     unfold gdAll at h
     rw [hg] at h
     simp only [hgf] at h
     split at h
     ·assumption
     ·cases h
   | succ i => exact gdAll_spec ht (by simpa using hl) i o g b (by simpa using hi) (by simpa [getFl] using hf) hg hgf
theorem cnt_mv {fl : List Bool} : ∀ (l : List Oper) (m : List Bool), m.length = l.length -> (∀ i o, (tagL fl l m)[i]? = some o -> (mvX o).isSome = getFl m i) -> (mvOps (tagL fl l m)).length = cntT m
 | [], [], _, _ => rfl
 | [], _ :: _, h, _ => by simp at h
 | _ :: _, [], h, _ => by simp at h
 | p :: l, b :: m, hl, h => by
   have ih := cnt_mv l m (by simpa using hl) fun i o hi => by
    have := h (i + 1) o (by simpa [tagL] using hi)
    simpa [getFl] using this
   have h0 := h 0 (tagO fl b p) (by simp [tagL])
   simp only [getFl] at h0
   cases b with
   | true =>
     simp only [tagL, mvOps, cntT]
     split
     ·simp [ih]
     ·rename_i hx; rw [hx] at h0; simp at h0
   | false =>
     simp only [tagL, mvOps, cntT]
     split
     ·rename_i x hx; rw [hx] at h0; simp at h0
     ·exact ih
theorem cntT_le : ∀ m : List Bool, cntT m <= m.length
 | [] => Nat.le_refl _
 | true :: m => by simp [cntT, cntT_le m]
 | false :: m => by have := cntT_le m; simp [cntT]; omega
theorem region_pre (hS : SumsOK P S) {ro : Option Nat} {rm : Nat} (hm : P.follows .mixedOrders = true) {id : Nat} {ops : Array Oper} (hok : prOK ops.toList = true) {R : AV -> Heap -> Prop} {K : List AV -> Heap -> VC} {Q : Exit -> Act -> World -> Prop} {fr : List AV} {act : Act}
  (hlo : S.lo <= hp.length) (hH : HR C hp w) (hF : FR [] C w fr act.tmps) (hbk : Back ops.toList) (h : (runPre P S ops.toList fr hp K).sat R) {ds : Act -> Prop} (hput : PutOK ops.toList ds) (hds : ds act) (hgoal : Goal P S R K Q C w ds) :
  (Code.region id ops true).wpIn (fen ro) rm P Q act w := by
 refine Go.wpIn_mono (Q := fun e a w => (∀ c, e ≠ .panic c) /\ Q e a w) ?_ fun e a w h => h.2
 apply wpIn_region_any hm
 have hlen : (frL ops.toList).length = ops.toList.length := len_frL
 unfold prOK at hok
 unfold runPre at h
 generalize hfl : frL ops.toList = fl at *
 have htl : (tagL fl ops.toList fl).length = ops.toList.length := len_tagL _ _ hlen
 have htg := fun i o => tagL_get (fl := fl) ops.toList fl i o hlen
 generalize htgd : tagL fl ops.toList fl = tg at *
 simp only [Bool.and_eq_true, regOK] at hok
 obtain ⟨⟨⟨hu, ht, hb⟩, huq⟩, hall⟩ := hok
 have hall : ∀ i o, ops.toList[i]? = some o -> (mvX (tagO fl (getFl fl i) o)).isSome = getFl fl i /\ (∀ cs b, o.op ≠ .select cs b) /\ (∀ g b, (tagO fl (getFl fl i) o).guard = some (g, b) -> mvAt tg g = false /\ g < ops.toList.length) /\ (getFl fl i = true -> prAp ops.toList fl i o = true /\ edgesFl fl o.after.toList = true) := fun i o ho => by
  have h1 := allLt_spec hall i (List.getElem?_eq_some_iff.1 ho).1
  simp only [ho, htg i o ho, Bool.and_eq_true, Bool.not_eq_true', beq_iff_eq] at h1
  obtain ⟨⟨⟨h2, h3⟩, h4⟩, h5⟩ := h1
  refine ⟨h2, fun cs b hc => ?_, fun g b hg => ?_, fun hf => ?_⟩
  ·rw [hc] at h3; simp [isSel] at h3
  ·rw [hg] at h4
   simpa [Nat.blt_eq] using h4
  ·rw [hf] at h5
   simpa using h5
 have hH1 : HR C hp { w with drawn := w.drawn + 1 } := HR.same (w := w) rfl hH
 have hF1 : FR [] C { w with drawn := w.drawn + 1 } fr act.tmps := FR.mono (w := w) (w' := { w with drawn := w.drawn + 1 }) (.same rfl) hF
 obtain ⟨a1, fr1, hrun, hF2, hk⟩ := pre_ok (C := C) (w := { w with drawn := w.drawn + 1 }) hH1.ilt ops.toList fl fr act _ hlen hF1 h
 split at hk
 rotate_left
 ·exact hk.elim
 rename_i hga
 have hGK : GK ops.toList fl a1 := fun i o g b ho hf hg hgf => gdOK_spec hF2 (gdAll_spec hga hlen i o g b ho hf hg hgf)
 have hds1 : ds a1 := hrun.ds (fun o ho a v h => hput o ho a v h) hds
 have hcnt : (mvOps tg).length = cntT fl := by
  rw [<- htgd]
  refine cnt_mv _ _ hlen fun i o ho => ?_
  have hi := (List.getElem?_eq_some_iff.1 ho).1
  rw [htgd, htl] at hi
  have ho2 : ops.toList[i]? = some (ops.toList[i]'hi) := List.getElem?_eq_getElem _
  rw [htgd, htg i _ ho2] at ho
  injection ho with ho
  subst ho
  exact (hall i _ ho2).1
 have hcl := cntT_le fl
 rw [hlen] at hcl
 have hno : ∀ i, ¬ Lst (Array.replicate ops.size false) i := fun i h => by
  unfold Lst at h
  rw [Array.getD_eq_getD_getElem?, Array.getElem?_replicate] at h
  split at h <;> simp at h
 have hsz : (Array.replicate ops.size false).size = ops.toList.length := by simp
 have key := s_all (P := P) (F := fen ro) (n := rm) (J := Imm C { w with drawn := w.drawn + 1 }) (Q := fun e a w => (∀ c, e ≠ .panic c) /\ Q e a w) (fl := fl) (fun f => trivial) (fun j o cs b hj => (hall j o hj).2.1 cs b) (fun c a w h => h.1 c rfl) hbk (fun i oi hi hf => by
   obtain ⟨h1, h2⟩ := (hall i oi hi).2.2.2 hf
   refine ⟨edgesFl_spec h2, fun j oj hj hne hnf hno => ?_⟩
   have h3 := allLt_spec h1 j (List.getElem?_eq_some_iff.1 hj).1
   simp only [hj, Bool.or_eq_true, List.any_eq_true, Bool.and_eq_true] at h3
   rcases h3 with ((h3 | ⟨h3, h4⟩) | ⟨e, h3, h4, h5⟩) | h3
   ·exact absurd (Nat.eq_of_beq_eq_true h3) hne
   ·exact absurd ⟨h3, by simpa [Nat.blt_eq] using h4⟩ hnf
   ·exact absurd (Nat.eq_of_beq_eq_true h5) (hno e (by simpa using h3) h4)
   ·exact h3) (fuel := ops.toList.length - cntT fl) ops.toList fl 0 (Array.replicate ops.size false) act a1 { w with drawn := w.drawn + 1 } hrun (fun j => by simp) (fun j => by simp) hsz (fun i _ => hno i) (fun i hi => by omega) (fun _ _ => rfl) ?_
 ·rw [Nat.sub_add_cancel hcl] at key
  simpa using wpAnyI_any _ _ _ _ key
 obtain ⟨hz1, hz2⟩ := pLst_spec fl 0 (Array.replicate ops.size false) (by simp [hlen])
 have hD1 : ∀ i, Lst (pLst fl 0 (Array.replicate ops.size false)) i ↔ getFl fl i = true := fun i => by
  rw [hz2]
  constructor
  ·rintro (h | ⟨j, h1, h2⟩)
   ·exact absurd h (hno i)
   ·obtain rfl : i = j := by omega
    rw [getFl_eq, List.getD_eq_getElem?_getD, h2]; rfl
  ·intro h
   refine .inr ⟨i, by omega, ?_⟩
   rw [getFl_eq, List.getD_eq_getElem?_getD] at h
   cases hx : fl[i]? with
   | none => rw [hx] at h; simp at h
   | some b => rw [hx] at h; simp at h; rw [h]
 refine retag hlen (I := fun a w' => GK ops.toList fl a /\ Imm C { w with drawn := w.drawn + 1 } w') (fun a w h => h) _ _ _ _ (hz1.trans hsz) (fun i hi _ => (hD1 i).2 hi) hGK ?_
 rw [htgd]
 obtain ⟨D', hD1', hD2⟩ : ∃ D' : Array Bool, D'.size = ops.toList.length /\ ∀ i, Lst D' i ↔ i < (mvOps tg).length := by
  refine ⟨(List.replicate (mvOps tg).length true ++ List.replicate (ops.toList.length - (mvOps tg).length) false).toArray, by
   rw [List.size_toArray, List.length_append, List.length_replicate, List.length_replicate]; omega, fun i => ?_⟩
  unfold Lst
  rw [Array.getD_eq_getD_getElem?]
  simp only [List.getElem?_toArray]
  rcases Nat.lt_or_ge i (mvOps tg).length with hi | hi
  ·rw [List.getElem?_append_left (by simpa using hi), List.getElem?_replicate, if_pos hi]; simp [hi]
  ·rw [List.getElem?_append_right (by simpa using hi), List.getElem?_replicate]
   split <;> simp <;> omega
 have gett : ∀ i o, tg[i]? = some o -> ∃ oo, ops.toList[i]? = some oo /\ o = tagO fl (getFl fl i) oo := fun i o ho => by
  have hi := (List.getElem?_eq_some_iff.1 ho).1
  rw [htl] at hi
  have ho2 : ops.toList[i]? = some (ops.toList[i]'hi) := List.getElem?_eq_getElem _
  rw [htg i _ ho2] at ho
  injection ho with ho
  exact ⟨_, ho2, ho.symm⟩
 have hbt : Back tg := fun i o ho e he hb' => by
  obtain ⟨oo, h1, h2⟩ := gett i o ho
  cases hf : getFl fl i with
  | true => rw [h2, hf] at he; cases he
  | false =>
    rw [h2, hf] at he
    exact hbk i oo h1 e he hb'
 have hmvget : ∀ i, i < (mvOps tg).length -> ∃ o x, (hoist tg)[i]? = some o /\ mvX o = some x := fun i hi => by
  have h1 : (hoist tg)[i]? = some ((mvOps tg)[i]'hi) := by
   unfold hoist
   rw [List.getElem?_append_left hi, List.getElem?_eq_getElem hi]
  obtain ⟨x, hx⟩ := mvOps_mem (List.getElem_mem hi)
  exact ⟨_, x, h1, hx⟩
 refine hoist_anyI hbt (fun i o g b hi hg => ?_) _ _ D' _ _ ⟨by rw [hz1, hsz, htl], by rw [hD1', htl], fun i o x hi hx => ?_, fun i hi => (hD2 i).2 hi, fun i o hi hx => ?_⟩ ?_
 ·obtain ⟨oo, h1, h2⟩ := gett i o hi
  rw [h2] at hg
  obtain ⟨h3, h4⟩ := (hall i oo h1).2.2.1 g b hg
  exact ⟨h3, by rw [htl]; exact h4⟩
 ·obtain ⟨oo, h1, h2⟩ := gett i o hi
  have h3 := (hall i oo h1).1
  rw [<- h2, hx] at h3
  exact (hD1 i).2 h3.symm
 ·obtain ⟨oo, h1, h2⟩ := gett i o hi
  have h3 := (hall i oo h1).1
  rw [<- h2, hx] at h3
  rw [hD2, hD1]
  constructor
  ·intro h; omega
  ·intro h; rw [<- h3] at h; cases h
 have hkl : lenO (mvOps tg) = (mvOps tg).length := lenO_eq _
 rw [htgd, hkl] at hk
 have hdrop : (hoist tg).drop ((mvOps tg).length + ([] : List Info).length) = restO tg (mvOps tg).length tg := by
  unfold hoist
  rw [hkl]
  simp
 have hlen2 : (mvOps tg).length <= (hoist tg).length := by rw [hoist_len]; have := len_mv (all := tg) 0 tg; omega
 obtain ⟨L, T', hs, he⟩ := seg_run hS hu (s := (mvOps tg).length) (T0 := []) (fr0 := fr1) (hp0 := hp) _ [] [] ⟨by simpa using hlen2, .refl _, fun q hq => by simp at hq⟩ hdrop (fun k x hx => by simp at hx) hk
 obtain ⟨r, hr⟩ := hps_app hp L L.length
 have hput' : PutOK (hoist tg) fun a => ds a /\ GK ops.toList fl a := fun o ho a v hda => by
  obtain ⟨o', h1, h2⟩ := hoist_mem ho
  obtain ⟨i, hi⟩ := List.getElem?_of_mem h1
  obtain ⟨oo, h3, h4⟩ := gett i o' hi
  rw [h2, h4]
  cases hf : getFl fl i with
  | true => exact hda
  | false =>
    refine ⟨hput oo (List.mem_of_getElem? h3) a v hda.1, fun j o2 g b hj hfj hg hgf => ?_⟩
    have h5 := hda.2 j o2 g b hj hfj hg hgf
    show yielded ops.toList.toArray (a.put oo.dst v).tmps g = some b
    cases hd : dstOf ops.toList g with
    | none =>
      exfalso
      unfold yielded at h5
      unfold dstOf at hd
      simp only [List.getElem?_toArray] at h5
      cases hog : ops.toList[g]? with
      | none => rw [hog] at h5; simp at h5
      | some og => rw [hog] at hd h5; simp only at hd; simp [hd] at h5
    | some d =>
      rw [yielded_eq hd] at h5 ⊢
      rw [put_get, if_neg]
      ·exact h5
      ·rintro ⟨e, _⟩
       obtain ⟨og, hog, hdg⟩ := dstOf_some hd
       exact (uniq_spec huq hog).1 d hdg i oo (fun e' => by rw [e', hgf] at hf; cases hf) h3 e
 have hcount : unl (fun i => D'.getD i false) (hoist tg).length <= ops.toList.length - cntT fl := by
  rw [hoist_len, htl, <- hcnt]
  have : ∀ m, unl (fun i => D'.getD i false) m <= m - (mvOps tg).length := fun m => by
   induction m with
   | zero => exact Nat.zero_le _
   | succ m ih =>
     simp only [unl]
     rcases Nat.lt_or_ge m (mvOps tg).length with hm | hm
     ·have := (hD2 m).2 hm
      unfold Lst at this
      simp only [this, if_true]; omega
     ·split <;> omega
  exact this _
 have hIP : IP (hoist tg) (fun a w' => GK ops.toList fl a /\ Imm C { w with drawn := w.drawn + 1 } w') := fun o ho a v w' h => by
  refine ⟨fun j o2 g b hj hfj hg hgf => ?_, h.2⟩
  have h5 := h.1 j o2 g b hj hfj hg hgf
  obtain ⟨o', h1, h2⟩ := hoist_mem ho
  obtain ⟨i, hi⟩ := List.getElem?_of_mem h1
  obtain ⟨oo, h3, h4⟩ := gett i o' hi
  rw [h2, h4] at h5
  cases hf : getFl fl i with
  | true => rw [hf] at h5; exact h5
  | false =>
    rw [hf] at h5
    change yielded ops.toList.toArray (a.put oo.dst v).tmps g = some b at h5
    cases hd : dstOf ops.toList g with
    | none =>
      exfalso
      unfold yielded at h5
      unfold dstOf at hd
      simp only [List.getElem?_toArray] at h5
      cases hog : ops.toList[g]? with
      | none => rw [hog] at h5; simp at h5
      | some og => rw [hog] at hd h5; simp only at hd; simp [hd] at h5
    | some d =>
      rw [yielded_eq hd] at h5 ⊢
      rw [put_get, if_neg] at h5
      ·exact h5
      ·rintro ⟨e, _⟩
       obtain ⟨og, hog, hdg⟩ := dstOf_some hd
       exact (uniq_spec huq hog).1 d hdg i oo (fun e' => by rw [e', hgf] at hf; cases hf) h3 e
 refine (anyorder (Q := fun e a w => (∀ c, e ≠ .panic c) /\ Q e a w) hS hu ht (back_spec hb) hput' (ro := ro) (rm := rm) (fun c a w h => h.1 c rfl) _ _ hIP).1 D' _ [] _ hp L T' C { w with drawn := w.drawn + 1 } _ hs he
  ⟨by rw [hD1', hoist_len, htl], fun i hi => (hD2 i).2 hi, fun i hi hl => ?_, fun i o ho hl e he' hb' => ?_, ⟨by rw [hr]; exact hH1.ext r, fun q _ _ t _ => by
   obtain ⟨r', hr'⟩ := hps_app hp L q
   cases hc : C.ρ ((hps hp L q).length + t) with
   | none => rfl
   | some p => have := hH1.lt hc; rw [hr'] at this; simp at this; omega,
   fun q _ hl => ?_, fun t _ => (hF2.get t).sub hs.sub, hF2.len⟩⟩ hlo hcount ⟨hds1, hGK⟩ ⟨fun fr' hp' C' w' act' h1 h2 h3 h4 h5 h6 => ⟨fun c h => by (cases h), (hgoal.step (.draw _ _ _ _)) fr' hp' C' w' act' h1 h2 h3 h4 h5 h6.1⟩, fun C' w' act' t h => ⟨h.2, Imm.tr hH1 t⟩⟩
 ·have := (hD2 i).1 hl; omega
 ·have hlt := (hD2 i).1 hl
  obtain ⟨o', x, h1, h2⟩ := hmvget i hlt
  rw [ho] at h1; injection h1 with h1; subst h1
  rw [(mvX_spec h2).2.2] at he'; cases he'
 ·have := (hD2 _).1 hl; omega
end
end Abs
end Go.Proofs.YtlabbaglbcmofaaGreat

namespace Go.Proofs.YtlabbaglbcmofaaGreat
namespace Abs
open Go Go.RowKit
section
variable {P : Program} {S : Sums} {C C' : Cx} {w w' : World} {H hp : Heap} {T T1 T' : List Cnd} {all : List Oper} {I : Act -> World -> Prop}
def givC (C : Cx) (j : Nat) : Cx := ⟨fun i => if i = j then none else C.ρ i, fun b => C.I b \/ ∃ c n, C.ρ j = some (.at b c n)⟩
theorem givC_ne {j i : Nat} (h : i ≠ j) : (givC C j).ρ i = C.ρ i := by simp [givC, h]
theorem beq_no {i j : Nat} (h : i ≠ j) : Nat.beq i j = false := by
 rcases hb : Nat.beq i j with _ | _
 ·rfl
 ·exact absurd (Nat.eq_of_beq_eq_true hb) h
theorem gi_rel {j : Nat} {t : TypeId} {l : List AV} (hH : HR C hp w) (hb : getB hp j = .cells t l) (hn : ownIn.ownInL l = false) {x : AV} {v : Value} (h : Rel C w x v) : Rel (givC C j) w (giA j l x) v := by
 have hI : ∀ b, C.I b -> (givC C j).I b := fun b h => .inl h
 have hbk : ∀ b, C.I b -> w.heap[b]? = w.heap[b]? := fun _ _ => rfl
 refine Rel.rec (C := C) (w := w) (motive_1 := fun x v _ => Rel (givC C j) w (giA j l x) v) (motive_2 := fun m vs _ => RelL (givC C j) w (giA.giL j l m) vs)
  ?_ ?_ ?_ ?_ ?_ ?_ ?_ ?_ ?_ ?_ ?_ ?_ ?_ ?_ ?_ ?_ ?_ ?_ ?_ h
 ·exact fun v => .top v
 ·exact fun k a v => .gd k _ v
 ·exact fun k n => .li k n
 ·exact fun k n => .si k n
 ·exact fun b => .lb b
 ·exact fun b => .sb b
 ·exact fun x => .v x
 ·exact fun l vs _ h => .agg _ vs h
 ·exact fun l vs _ h => .tup _ vs h
 ·intro i off b c n h
  simp only [giA]
  by_cases hi : i = j
  ·subst hi
   rw [show Nat.beq i i = true by simp]
   have hl := hH.live _ _ h
   rw [hb] at hl
   obtain ⟨vs, hr, hh⟩ := hl
   simp only
   rw [dropL_eq]
   refine .xp _ _ (vs.drop off) ((hr.still hI hbk hn).drop _) (fun _ => .inr ⟨c, n, h⟩) (fun q hq => ?_) (own_drop _ hn)
   rw [add_lit]
   simp [World.cell?, hh]
  ·rw [beq_no hi]; exact .own i off b c n (by rw [givC_ne hi]; exact h)
 ·intro i sz k off b c n h hk
  simp only [giA]
  by_cases hi : i = j
  ·subst hi; rw [show Nat.beq i i = true by simp]; exact .top _
  ·rw [beq_no hi]; exact .elt i sz k off b c n (by rw [givC_ne hi]; exact h) hk
 ·intro i b c n h
  simp only [giA]
  by_cases hi : i = j
  ·subst hi; rw [show Nat.beq i i = true by simp]; exact .top _
  ·rw [beq_no hi]; exact .row i b c n (by rw [givC_ne hi]; exact h)
 ·intro i n sz b c m h
  simp only [giA]
  by_cases hi : i = j
  ·subst hi; rw [show Nat.beq i i = true by simp]; exact .top _
  ·rw [beq_no hi]; exact .lsl i n sz b c m (by rw [givC_ne hi]; exact h)
 ·intro i h
  simp only [giA]
  by_cases hi : i = j
  ·subst hi; rw [show Nat.beq i i = true by simp]; exact .top _
  ·rw [beq_no hi]; exact .rown i (by rw [givC_ne hi]; exact h)
 ·intro n sz el A cap vs hcap hA hr hl hn _
  exact (Rel.slc n sz el A cap vs hcap hA hr hl hn).still hI hbk rfl
 ·intro l ad vs hr hI' hc hn _
  exact (Rel.xp l ad vs hr hI' hc hn).still hI hbk rfl
 ·exact fun f l m vs ws _ _ h h' => .fn f _ _ vs ws h h'
 ·exact .nil
 ·exact fun a l v vs _ _ h h' => .cons _ _ v vs h h'
theorem gi_relL {j : Nat} {t : TypeId} {l : List AV} (hH : HR C hp w) (hb : getB hp j = .cells t l) (hn : ownIn.ownInL l = false) : ∀ {m : List AV} {vs : List Value}, RelL C w m vs -> RelL (givC C j) w (giA.giL j l m) vs
 | _, _, .nil => .nil
 | _, _, .cons _ _ _ _ h h' => .cons _ _ _ _ (gi_rel hH hb hn h) (gi_relL hH hb hn h')
theorem getB_giH (j : Nat) (m : List AV) : ∀ (l : Heap) (i : Nat), getB (giH j m l) i = giB j m (getB l i)
 | [], _ => rfl
 | _ :: _, 0 => rfl
 | _ :: l, i + 1 => getB_giH j m l i
theorem len_giH (j : Nat) (m : List AV) : ∀ l : Heap, (giH j m l).length = l.length
 | [] => rfl
 | _ :: l => by simp [giH, len_giH j m l]
theorem gi_brel {j : Nat} {t : TypeId} {l : List AV} (hH : HR C hp w) (hb : getB hp j = .cells t l) (hn : ownIn.ownInL l = false) {p : Pl} {b : Blk} (h : BRel C w p b) : BRel (givC C j) w p (giB j l b) := by
 match p, b, h with
 | .at q c m, .cells ty l', h =>
   obtain ⟨vs, hr, hh⟩ := h
   exact ⟨vs, gi_relL hH hb hn hr, hh⟩
 | .at q c m, .row e sz k el, h =>
   obtain ⟨h1, h2, h3, cs, vs, hh, hs, hc⟩ := h
   exact ⟨h1, h2, h3, cs, vs, hh, hs, fun k hk => ⟨RelL.still (C := C) (C' := givC C j) (fun b h => Or.inl h) (fun _ _ => rfl) (hc k hk).1 (own_ok (hc k hk).2.1), (hc k hk).2⟩⟩
 | .nil, .row e sz k el, h => exact h
theorem gi_hr {j : Nat} {t : TypeId} {l : List AV} (hH : HR C hp w) (hb : getB hp j = .cells t l) (hn : ownIn.ownInL l = false) : HR (givC C j) (setB (giH j l hp) j .dead) w := by
 have hj : j < hp.length := getB_lt (by rw [hb]; simp)
 have no : ∀ p, (givC C j).ρ j = some p -> False := fun p h => by simp [givC] at h
 refine ⟨fun i p hp' => ?_, fun i i' b c n b1 c1 n1 h h' hne => ?_, fun i b c n h => ?_, fun b hb' => ?_⟩
 ·by_cases hi : i = j
  ·subst hi; exact (no _ hp').elim
  ·rw [getB_set_ne hi, getB_giH]
   rw [givC_ne hi] at hp'
   exact gi_brel hH hb hn (hH.live i p hp')
 ·by_cases hi : i = j
  ·subst hi; exact (no _ h).elim
  ·by_cases hi' : i' = j
   ·subst hi'; exact (no _ h').elim
   ·rw [givC_ne hi] at h
    rw [givC_ne hi'] at h'
    exact hH.inj _ _ _ _ _ _ _ _ h h' hne
 ·by_cases hi : i = j
  ·subst hi; exact (no _ h).elim
  ·rw [givC_ne hi] at h
   refine ⟨(hH.fresh _ _ _ _ h).1, fun hb' => ?_⟩
   rcases hb' with hb' | ⟨c', n', h'⟩
   ·exact (hH.fresh _ _ _ _ h).2 hb'
   ·exact hH.inj _ _ _ _ _ _ _ _ h h' hi rfl
 ·rcases hb' with hb' | ⟨c, n, h⟩
  ·exact hH.ilt b hb'
  ·exact (hH.fresh _ _ _ _ h).1
theorem gi_tr {lo j : Nat} (hlo : lo <= j) : Tr lo C w (givC C j) w := by
 refine ⟨rfl, rfl, rfl, Nat.le_refl _, fun _ _ _ => rfl, fun b h => .inl h, fun b hb' => ?_, fun i hi => givC_ne (by omega), fun i b c m hi h => ?_⟩
 ·rcases hb' with hb' | ⟨c, m, hρ⟩
  ·exact .inl hb'
  ·exact .inr (.inr ⟨j, c, m, hlo, hρ⟩)
 ·by_cases hij : i = j
  ·simp [givC, hij] at h
  ·rw [givC_ne hij] at h; exact .inl ⟨i, c, m, hi, h⟩
theorem getL_giL (j : Nat) (l : List AV) : ∀ (fr : List AV) (t : Nat), getL (giA.giL j l fr) t = giA j l (getL fr t)
 | [], _ => rfl
 | _ :: _, 0 => rfl
 | _ :: fr, t + 1 => getL_giL j l fr t
theorem len_giL (j : Nat) (l : List AV) : ∀ fr : List AV, (giA.giL j l fr).length = fr.length
 | [] => rfl
 | _ :: fr => by simp [giA.giL, len_giL j l fr]
theorem gi_ng {j : Nat} {l : List AV} {a : AV} (h : ∀ k b, a ≠ .gd k b) : ∀ k b, giA j l a ≠ .gd k b := by
 intro k b e
 cases a <;> simp only [giA] at e <;> first | (cases e; done) | skip
 all_goals first | (split at e <;> cases e; done) | skip
 exact h _ _ rfl
theorem gi_fr {j : Nat} {t : TypeId} {l : List AV} (hH : HR C hp w) (hb : getB hp j = .cells t l) (hn : ownIn.ownInL l = false) {fr : List AV} {tm : Array Value} (h : FR [] C w fr tm) : FR [] (givC C j) w (giA.giL j l fr) tm :=
 ⟨by rw [len_giL]; exact h.len, fun t => by
  rw [getL_giL]
  refine ⟨gi_rel hH hb hn (h.get t).1, fun k b e => ?_⟩
  exact absurd e (gi_ng (fun k b e' => by obtain ⟨x, hx, _⟩ := (h.get t).2 k b e'; simp at hx) k b)⟩
theorem giveK_sat {R : AV -> Heap -> Prop} {lo : Nat} : ∀ {l : List (Nat × TypeId × Nat)} {fr : List AV} {hp : Heap} {C : Cx} {K : List AV -> Heap -> VC} {tm : Array Value}, (giveK lo l fr hp K).sat R -> lo <= hp.length -> HR C hp w -> FR [] C w fr tm ->
  ∃ fr' hp' C', (K fr' hp').sat R /\ lo <= hp'.length /\ HR C' hp' w /\ FR [] C' w fr' tm /\ Tr lo C w C' w
 | [], fr, hp, C, K, tm, h, hlo, hH, hF => ⟨fr, hp, C, h, hlo, hH, hF, .refl _ _ _⟩
 | (t, _, _) :: l, fr, hp, C, K, tm, h, hlo, hH, hF => by
   unfold giveK at h
   split at h
   ·rename_i j o hg
    split at h
    ·rename_i ty m hb
     split at h
     ·rename_i hn hj
      have hj := Nat.le_of_ble_eq_true hj
      rw [forceLD_eq, forceH_eq] at h
      obtain ⟨fr', hp', C', h4, h5, h6, h7, h8⟩ := giveK_sat (lo := lo) (C := givC C j) h (by rw [len_setB, len_giH]; exact hlo) (gi_hr hH hb hn) (gi_fr hH hb hn hF)
      exact ⟨fr', hp', C', h4, h5, h6, h7, (gi_tr hj).trans h8⟩
     ·exact h.elim
    ·exact h.elim
   ·rename_i j hg
    split at h
    ·rename_i e sz n el hb
     split at h
     ·rename_i hj
      have hj := Nat.le_of_ble_eq_true hj
      rw [forceLD_eq, forceH_eq] at h
      obtain ⟨C1, ht, h1, h2⟩ := freeze hH hb hj
      obtain ⟨fr', hp', C', h4, h5, h6, h7, h8⟩ := giveK_sat (lo := lo) (C := C1) h (by rw [len_setB, len_mapH]; exact hlo) h1 (ht.frame (by trivial) hF)
      exact ⟨fr', hp', C', h4, h5, h6, h7, h2.trans h8⟩
     ·exact h.elim
    ·exact h.elim
   ·exact h.elim
theorem memN_iff {n : Nat} : ∀ {l : List Nat}, memN n l = true ↔ n ∈ l
 | [] => by simp [memN]
 | m :: l => by
   unfold memN
   split
   ·rename_i h; have := Nat.eq_of_beq_eq_true h; simp [this]
   ·rename_i h
    have hne : n ≠ m := fun e => by subst e; simp at h
    rw [memN_iff]; simp [hne]
theorem allOrd_sat {R : AV -> Heap -> Prop} {k : Nat -> VC} : ∀ {l : List Nat}, (allOrd l k).sat R -> ∀ i ∈ l, (k i).sat R
 | [], _, i, hi => by cases hi
 | j :: l, h, i, hi => by
   unfold allOrd at h
   obtain ⟨h1, h2⟩ := h
   rcases List.mem_cons.1 hi with rfl | hi
   ·exact h1
   ·exact allOrd_sat (h2 () trivial) i hi
theorem rdyN_spec {D : List Nat} {i : Nat} : rdyN all D i = true ↔ ¬ i ∈ D /\ ∃ o, all[i]? = some o /\ ∀ e ∈ o.after.toList, Region.binds .any e = true -> e.on ∈ D := by
 unfold rdyN
 cases hm : memN i D with
 | true => simp [memN_iff.1 hm]
 | false =>
   have hn : ¬ i ∈ D := fun h => by rw [memN_iff.2 h] at hm; cases hm
   simp only [hn, not_false_iff, true_and]
   cases ho : all[i]? with
   | none => simp
   | some o =>
     simp only [Option.some.injEq, exists_eq_left', List.all_eq_true, Bool.or_eq_true, Bool.not_eq_true', memN_iff]
     constructor
     ·intro h e he hb
      rcases h e he with h' | h'
      ·rw [h'] at hb; cases hb
      ·exact h'
     ·intro h e he
      cases hb : Region.binds .any e with
      | false => exact .inl rfl
      | true => exact .inr (h e he hb)
theorem rdyL_mem {D : List Nat} {i : Nat} : ∀ {n : Nat}, i ∈ rdyL all D n ↔ i < n /\ rdyN all D i = true
 | 0 => by simp [rdyL]
 | n + 1 => by
   unfold rdyL
   split
   ·rename_i h
    rw [List.mem_cons, rdyL_mem]
    constructor
    ·rintro (rfl | ⟨h1, h2⟩)
     ·exact ⟨by omega, h⟩
     ·exact ⟨by omega, h2⟩
    ·rintro ⟨h1, h2⟩
     by_cases e : i = n
     ·exact .inl e
     ·exact .inr ⟨by omega, h2⟩
   ·rename_i h
    rw [rdyL_mem]
    constructor
    ·rintro ⟨h1, h2⟩; exact ⟨by omega, h2⟩
    ·rintro ⟨h1, h2⟩
     refine ⟨?_, h2⟩
     by_cases e : i = n
     ·subst e; rw [h2] at h; cases h
     ·omega
theorem wantN_spec {fr : List AV} {o : Oper} {r : Bool} (h : wantN all (getL fr) o = some r) : Wants all [] fr o r := by
 unfold wantN at h
 unfold Wants
 split at h
 ·rename_i hg; rw [hg]; injection h with h; exact h.symm
 ·rename_i j ww hg
  rw [hg]
  split at h
  ·rename_i d hd
   split at h
   ·rename_i b hb
    injection h with h
    refine ⟨d, hd, ?_⟩
    rw [hb]; simp only [gW]; rw [h]
   ·cases h
  ·cases h
theorem fixN_spec {D : List Nat} {g : Nat -> AV} {i : Nat} {o : Oper} {a : AV} (h : fixN P all D g i = some (o, a)) : rdyN all D i = true /\ all[i]? = some o /\ fixV P all g o = some a /\ apN all D i o = true := by
 unfold fixN at h
 split at h
 ·rename_i o' h1 h2
  split at h
  ·rename_i a' h3
   split at h
   ·rename_i h5
    injection h with h; injection h with e1 e2; subst e1 e2
    exact ⟨h1, h2, h3, h5⟩
   ·cases h
  ·cases h
 ·cases h
theorem fixGo_spec {D : List Nat} {g : Nat -> AV} {i : Nat} {o : Oper} {a : AV} : ∀ {n : Nat}, fixGo P all D g n = some (i, o, a) -> fixN P all D g i = some (o, a)
 | 0, h => by cases h
 | n + 1, h => by
   unfold fixGo at h
   split at h
   ·rename_i o' a' h1
    injection h with h; injection h with e1 h; injection h with e2 e3; subst e1 e2 e3
    exact h1
   ·exact fixGo_spec h
theorem spGo_spec {D : List Nat} {g : Nat -> AV} {d : Nat} {c : Bool} : ∀ {n : Nat}, spGo all D g n = some (d, c) -> g d = .sb c
 | 0, h => by cases h
 | n + 1, h => by
   unfold spGo at h
   split at h
   ·rename_i x h1
    injection h with h; subst h
    unfold spN at h1
    split at h1
    ·split at h1
     ·split at h1
      ·split at h1
       ·rename_i hg
        injection h1 with h1; injection h1 with e1 e2; subst e1 e2
        exact hg
       ·cases h1
      ·cases h1
     ·cases h1
    ·cases h1
   ·exact spGo_spec h
section
variable {F : Fence} {n : Nat} {Q : Exit -> Act -> World -> Prop} {J : World -> Prop}
theorem wpOpIn_k {i : Nat} {oi : Oper} {a0 : Act} (hi : all.toArray[i]? = some oi) (hw : Region.wanted oi (yielded all.toArray a0.tmps) = false) {K : Act -> World -> Prop} {a : Act} {w : World} (hF : ∀ f, F.fn f) (hE : SameAt all.toArray oi a0 a) (h : K (a.put oi.dst undef) w) :
  wpOpIn F n P all.toArray Q i K a w := by
 unfold wpOpIn
 simp only [hi]
 rw [hE.wanted, hw]
 simp only [Bool.false_eq_true, if_false]
 exact ⟨fun f _ => hF f, h⟩
theorem s_firstG {I : Act -> World -> Prop} {i : Nat} {oi : Oper} {a0 : Act} {v : Value} (hop : ∀ {K : Act -> World -> Prop} {a : Act} {w : World}, SameAt all.toArray oi a0 a -> J w -> K (a.put oi.dst v) w -> wpOpIn F n P all.toArray Q i K a w)
  (hsel : ∀ (j : Nat) (o : Oper) cs b, all.toArray[j]? = some o -> o.op ≠ .select cs b) (hQ : ∀ c a w, ¬ Q (.panic c) a w) (hI : ∀ a w, I (a.put oi.dst v) w -> I a w) :
  ∀ (fuel : Nat) (listed : Array Bool) (a : Act) (w : World),
    (∀ j oj, all.toArray[j]? = some oj -> j ≠ i -> listed.getD j true = false -> (∀ e ∈ oj.after, Region.binds .any e = true -> e.on ≠ i) -> oi.apart all.toArray oj = true) ->
    i ∈ Region.ready .any all.toArray listed -> SameAt all.toArray oi a0 a -> I (a.put oi.dst v) w -> J w ->
    wpAnyI (fun a w => I a w /\ J w) F n P all.toArray Q fuel (listed.setIfInBounds i true) (a.put oi.dst v) w -> wpAnyI I F n P all.toArray Q (fuel + 1) listed a w := by
 intro fuel
 induction fuel with
 | zero =>
   intro listed a w _ hr hE hIp hJ H
   refine ⟨fun h => (by rw [h] at hr; cases hr), fun j hj => ?_⟩
   by_cases hji : j = i
   ·subst hji; exact hop hE hJ ⟨hIp, wpAnyI_mono (fun _ _ h => h.1) _ _ _ _ H⟩
   ·have := ready_mono hj hji
    rw [H.1] at this
    cases this
 | succ fuel ih =>
   intro listed a w hfree hr hE hIp hJ H
   refine ⟨fun h => (by rw [h] at hr; cases hr), fun j hj => ?_⟩
   by_cases hji : j = i
   ·subst hji; exact hop hE hJ ⟨hIp, wpAnyI_mono (fun _ _ h => h.1) _ _ _ _ H⟩
   ·have h1 := H.2 j (ready_mono hj hji)
    obtain ⟨hjun, oj, hoj, hall⟩ := Go.mem_ready.1 hj
    have hnot : ∀ e ∈ oj.after, Region.binds .any e = true -> e.on ≠ i := fun e he hb heq => by
     have h1 := hall e he hb
     have h0 := (Go.mem_ready.1 hr).1
     rw [heq] at h1
     rcases Nat.lt_or_ge i listed.size with h' | h'
     ·simp [h'] at h0 h1; rw [h0] at h1; cases h1
     ·simp [Array.getElem?_eq_none h'] at h1
    have h2 := opIn_s (a0 := a0) (v := v) hoj (hfree j oj hoj hji hjun hnot) (fun cs b => hsel j oj cs b hoj) hQ hE h1
    have hfree' : ∀ k ok, all.toArray[k]? = some ok -> k ≠ i -> (listed.setIfInBounds j true).getD k true = false ->
      (∀ e ∈ ok.after, Region.binds .any e = true -> e.on ≠ i) -> oi.apart all.toArray ok = true := fun k ok hk hki hun hno => by
     refine hfree k ok hk hki ?_ hno
     by_cases hjk : j = k
     ·subst hjk; exact hjun
     ·rw [getD_set_ne true hjk] at hun; exact hun
    refine wpOpIn_mono (fun a' w' h3 => ⟨hI _ _ h3.2.1.1, ih (listed.setIfInBounds j true) a' w' hfree' (ready_mono hr (Ne.symm hji)) h3.1 h3.2.1.1 h3.2.1.2 ?_⟩) h2
    rw [Array.setIfInBounds_comm _ _ hji]
    exact h3.2.2
end
theorem any_sat (hS : SumsOK P S) (hsel : ∀ o ∈ all, ∀ cs b, o.op ≠ .select cs b) (hback : Back all) {R : AV -> Heap -> Prop} {K : List AV -> Heap -> VC} {Q : Exit -> Act -> World -> Prop} {ds : Act -> Prop} (hput : PutOK all ds) {ro : Option Nat} {rm : Nat} (hQ : ∀ c a w, ¬ Q (.panic c) a w) :
  ∀ (f fuel : Nat) (I : Act -> World -> Prop) (D : List Nat) (A : Array Bool) (fr : List AV) (hp : Heap) (C : Cx) (w : World) (act : Act), IP all I -> (∀ k, Lst A k ↔ k ∈ D) -> A.size = all.length -> Closed all (Lst A) -> unl (fun i => A.getD i false) all.length <= fuel ->
    S.lo <= hp.length -> HR C hp w -> FR [] C w fr act.tmps -> (runAny P S all f D fr hp K).sat R -> ds act -> GoalI I P S R K Q C w ds -> wpAnyI I (fen ro) rm P all.toArray Q fuel A act w := by
 intro f
 induction f with
 | zero => intro fuel I D A fr hp C w act _ _ _ _ _ _ _ _ h; exact h.elim
 | succ f ih =>
   intro fuel I D A fr hp C w act hIP hD hsize hclosed hfu hlo hH hF h hds hgoal
   have hrd : ∀ i, i ∈ Region.ready .any all.toArray A -> i ∈ rdyL all D all.length := fun i hi => by
    obtain ⟨o, h1, h2, h3, _⟩ := ready_facts hsize hclosed hi
    exact rdyL_mem.2 ⟨(List.getElem?_eq_some_iff.1 h1).1, rdyN_spec.2 ⟨fun hm => h2 ((hD i).2 hm), o, h1, fun e he hb => (hD _).1 (h3 e he hb)⟩⟩
   have hdr : ∀ i, rdyN all D i = true -> i ∈ Region.ready .any all.toArray A := fun i hi => by
    obtain ⟨h1, o, h2, h3⟩ := rdyN_spec.1 hi
    have hlt := (List.getElem?_eq_some_iff.1 h2).1
    have hn : ¬ Lst A i := fun hl => h1 ((hD i).1 hl)
    refine mem_ready h2 ?_ fun e he hb => (hD _).2 (h3 e he hb)
    rw [getD_tf (by rw [hsize]; exact hlt)]
    simpa [Lst] using hn
   have hpos : ∀ i, rdyN all D i = true -> ∃ fuel', fuel = fuel' + 1 := fun i hi => by
    cases fuel with
    | succ k => exact ⟨k, rfl⟩
    | zero =>
      exfalso
      obtain ⟨h1, o, h2, h3⟩ := rdyN_spec.1 hi
      have hz : unl (fun i => A.getD i false) all.length = 0 := by omega
      exact h1 ((hD i).1 (unl_zero hz i (List.getElem?_eq_some_iff.1 h2).1))
   unfold runAny at h
   split at h
   ·-- one that yields one value
    rename_i i o a hfx
    obtain ⟨hry, ho, hfv, hap⟩ := fixN_spec (fixGo_spec hfx)
    obtain ⟨fuel, rfl⟩ := hpos i hry
    have hir := hdr i hry
    obtain ⟨o', ho', hnl, hpre, hLst, hclosed', hfu1, hsz⟩ := ready_facts hsize hclosed hir
    rw [ho] at ho'; injection ho' with ho'; subst ho'
    rw [setK_eq] at h
    have hao : all.toArray[i]? = some o := by simpa using ho
    obtain ⟨v, hv, hop⟩ : ∃ v, RelG [] C w a v /\ ∀ {K : Act -> World -> Prop} {a : Act} {w1 : World}, SameAt all.toArray o act a -> Imm C w w1 -> K (a.put o.dst v) w1 -> wpOpIn (fen ro) rm P all.toArray Q i K a w1 := by
     unfold fixV at hfv
     split at hfv
     ·rename_i hwn
      split at hfv
      ·rename_i a' hfr
       injection hfv with hfv; subst hfv
       have hrho : ∀ x, Rel C w (evM ((tmpsO (opnds o.op)).map fun t => (t, unGd [] (getL fr t))) x) (act.eval x) := fun x => evM_ops (T := []) (fun t _ => hF.get t) x
       obtain ⟨v, hv, hdf, hsl, hrun⟩ := frVal_ok hH.ilt hrho (fun v => rfl) hfr (fun p hp => by cases hp)
       have hwt : Region.wanted o (yielded all.toArray act.tmps) = true := wanted_eq (wantN_spec hwn) fun d _ => hF.get d
       have hfix : Fix P (Imm C w) all.toArray o act v := ⟨hdf, hsl, hwt, hrun⟩
       exact ⟨v, .plain (rel_noGd hv) (notGd_noGd _), fun hE hJ hk => wpOpIn_s hao hfix (fun f => trivial) hE hJ hk⟩
      ·cases hfv
     ·rename_i hwn
      injection hfv with hfv; subst hfv
      have hwt : Region.wanted o (yielded all.toArray act.tmps) = false := wanted_eq (wantN_spec hwn) fun d _ => hF.get d
      exact ⟨undef, .plain (.tup _ _ .nil) trivial, fun hE _ hk => wpOpIn_k hao hwt (fun f => trivial) hE hk⟩
     ·cases hfv
    have hds' := hput o (List.mem_of_getElem? ho) act v hds
    refine s_firstG (I := I) (J := Imm C w) (a0 := act) (v := v) hop (fun k o' cs b hk => hsel o' (List.mem_of_getElem? (by simpa using hk)) cs b) hQ (fun a' w' h => hIP o (List.mem_of_getElem? ho) a' v w' h) fuel A act w
     (fun k ok hk hne hun hno => ?_) hir (fun t _ => rfl) (hgoal.2 _ _ _ (.refl _ _ _) hds') (fun _ _ => rfl) ?_
    ·have hk' : all[k]? = some ok := by simpa using hk
     have hlt := (List.getElem?_eq_some_iff.1 hk').1
     have h5 := allLt_spec hap k hlt
     simp only [hk', Bool.or_eq_true, List.any_eq_true, Bool.and_eq_true, memN_iff] at h5
     rcases h5 with ((h5 | h5) | ⟨e, h5, h6, h7⟩) | h5
     ·exact absurd (Nat.eq_of_beq_eq_true h5) hne
     ·have := (hD k).2 h5
      rw [getD_tf (by rw [hsize]; exact hlt)] at hun
      unfold Lst at this
      rw [hun] at this; cases this
     ·exact absurd (Nat.eq_of_beq_eq_true h7) (hno e (by simpa using h5) h6)
     ·exact h5
    ·refine ih fuel (fun a' w' => I a' w' /\ Imm C w w') (i :: D) _ (setO fr o.dst a) hp C w _ (fun o' ho' a' v' w' h => ⟨hIP o' ho' a' v' w' h.1, h.2⟩) (fun k => ?_) hsz hclosed' (hfu1 fuel hfu) hlo hH (hF.put hv _) h hds'
      ⟨hgoal.1, fun C2 w2 act2 t h => ⟨hgoal.2 _ _ _ t h, fun b hb => Imm.tr hH t b hb⟩⟩
     rw [hLst, hD, List.mem_cons]; exact ⟨fun h => h.symm, fun h => h.symm⟩
   ·rename_i hnf
    split at h
    ·-- a guard, both ways
     rename_i d c hsp
     have hg := spGo_spec hsp
     have hd := (hF.get d).1
     rw [hg] at hd
     have hvt : act.tmps.getD d undef = .bool c := by generalize act.tmps.getD d undef = u at hd; cases hd; rfl
     have hkn : FR [] C w (setL fr d (.lb c)) act.tmps := ⟨by rw [len_setL]; exact hF.len, fun t => by
      rw [getL_set]
      split
      ·rename_i e
       rw [e.1, hvt]
       exact .plain (.lb _) trivial
      ·exact hF.get t⟩
     cases c with
     | true =>
       have h1 := h.1 rfl
       rw [setF_eq] at h1
       exact ih fuel I D A _ hp C w act hIP hD hsize hclosed hfu hlo hH hkn h1 hds hgoal
     | false =>
       have h1 := h.2 rfl
       rw [setF_eq] at h1
       exact ih fuel I D A _ hp C w act hIP hD hsize hclosed hfu hlo hH hkn h1 hds hgoal
    ·-- each in its turn
     split at h
     ·rename_i hnil
      rw [cleanF_eq] at h
      have hq : Q .normal act w := hgoal.1 _ _ C w act h hlo hH hF.clean (.refl _ _ _) hds
      have hno : ∀ i, ¬ i ∈ Region.ready .any all.toArray A := fun i hi => by
       have := hrd i hi
       rw [hnil] at this; cases this
      cases fuel with
      | zero => exact ⟨List.eq_nil_iff_forall_not_mem.2 hno, hq⟩
      | succ fuel => exact ⟨fun _ => hq, fun i hi => (hno i hi).elim⟩
     ·rename_i i0 l0 hl0
      have hr0 := (rdyL_mem.1 (show i0 ∈ rdyL all D all.length by rw [hl0]; simp)).2
      obtain ⟨fuel, rfl⟩ := hpos i0 hr0
      refine ⟨fun hr => ?_, fun i hir => ?_⟩
      ·have := hdr i0 hr0
       rw [hr] at this; cases this
      ·have hh := allOrd_sat h i (by have := hrd i hir; rwa [hl0] at this)
       obtain ⟨o, ho, hnl, hpre, hLst, hclosed', hfu1, hsz⟩ := ready_facts hsize hclosed hir
       simp only [ho] at hh
       have hao : all.toArray[i]? = some o := by simpa using ho
       unfold wpOpIn
       simp only [hao]
       split at hh
       ·rename_i hwn
        have hwt : Region.wanted o (yielded all.toArray act.tmps) = true := wanted_eq (wantN_spec hwn) fun d _ => hF.get d
        rw [hwt]
        simp only [if_true]
        have hfu' := hfu1 fuel hfu
        have hDk : ∀ k, Lst (A.setIfInBounds i true) k ↔ k ∈ i :: D := fun k => by rw [hLst, hD, List.mem_cons]; exact ⟨fun h => h.symm, fun h => h.symm⟩
        rcases runOp_sat hS (T := []) (ctx := none) trivial hh with ⟨b, new, h1, h2⟩ | ⟨_, _, htu, ρ, hρ, fr', hp', a, h1, h2⟩
        ·have hst : StepOK P all [] [] o fr hp ⟨none, false, b, new⟩ := ⟨.refl _, wantN_spec hwn, fun _ => ⟨h1, trivial⟩, fun h => by cases h⟩
         have hfree := hH.free new
         rcases run_info hst (.refl _) (act := act) (hH.ext new) (fun i hi => getB_append _ _ _ hi) hfree (fun x _ => evG_rel x fun t _ => hF.get t) (fun d _ => hF.get d) with ⟨_, hr⟩ | ⟨hw, _⟩
         ·refine Ran.wpIn (hr.mono fun v w' ⟨C', k1, k2, k3⟩ => ?_)
          have hx := k3.cext hfree.none hH.ilt
          have htr : Tr S.lo C w C' w' := k3.tr hlo
          have hds' := hput o (List.mem_of_getElem? ho) act v hds
          exact ⟨hgoal.2 _ _ _ htr hds', ih fuel I (i :: D) _ _ _ C' w' _ hIP hDk hsz hclosed' hfu' (by simp; omega) k1 ((hF.mono hx).put k2 _) h2 hds' (hgoal.step htr)⟩
         ·rw [hwt] at hw; cases hw
        ·refine Ran.wpIn ((exec_big hS o htu hρ hH hF hlo h1).mono fun v w' ⟨C', k1, k2, k3, k4⟩ => ?_)
         have hds' := hput o (List.mem_of_getElem? ho) act v hds
         exact ⟨hgoal.2 _ _ _ k4 hds', ih fuel I (i :: D) _ _ _ C' w' _ hIP hDk hsz hclosed' hfu' (Nat.le_trans hlo h1.len) k1 (k3.put (.plain (rel_noGd k2) (notGd_noGd _)) _) h2 hds' (hgoal.step k4)⟩
       ·exact hh.elim
theorem giveI_sat {R : AV -> Heap -> Prop} {lo id : Nat} {I : List (Nat × List (Nat × TypeId × Nat) × (List AV -> Heap -> Ann))} {fr : List AV} {hp : Heap} {C : Cx} {K : List AV -> Heap -> VC} {tm : Array Value} (h : (giveI I lo id fr hp K).sat R) (hlo : lo <= hp.length) (hH : HR C hp w) (hF : FR [] C w fr tm) :
  ∃ fr' hp' C', (K fr' hp').sat R /\ lo <= hp'.length /\ HR C' hp' w /\ FR [] C' w fr' tm /\ Tr lo C w C' w := by
 unfold giveI at h
 split at h
 ·exact ⟨fr, hp, C, h, hlo, hH, hF, .refl _ _ _⟩
 ·exact giveK_sat h hlo hH hF
theorem region_each (hS : SumsOK P S) {ro : Option Nat} {rm : Nat} (hm : P.follows .mixedOrders = true) {id : Nat} {ops : Array Oper} (hsel : (ops.toList.all fun o => !(isSelO o.op)) = true) (hback : Back ops.toList) {R : AV -> Heap -> Prop} {K : List AV -> Heap -> VC} {Q : Exit -> Act -> World -> Prop} {fr : List AV} {act : Act}
  (hlo : S.lo <= hp.length) (hH : HR C hp w) (hF : FR [] C w fr act.tmps) (h : (runAny P S ops.toList (2 * ops.toList.length + 1) [] fr hp K).sat R) {ds : Act -> Prop} (hput : PutOK ops.toList ds) (hds : ds act) (hgoal : Goal P S R K Q C w ds) : (Code.region id ops true).wpIn (fen ro) rm P Q act w := by
 refine Go.wpIn_mono (Q := fun e a w => (∀ c, e ≠ .panic c) /\ Q e a w) ?_ fun e a w h => h.2
 apply wpIn_region_any hm
 have hsz : (Array.replicate ops.size false).size = ops.toList.length := by simp
 have hno : ∀ i, ¬ Lst (Array.replicate ops.size false) i := fun i h => by
  unfold Lst at h
  rw [Array.getD_eq_getD_getElem?, Array.getElem?_replicate] at h
  split at h <;> simp at h
 have hH1 : HR C hp { w with drawn := w.drawn + 1 } := HR.same (w := w) rfl hH
 have hF1 : FR [] C { w with drawn := w.drawn + 1 } fr act.tmps := FR.mono (w := w) (w' := { w with drawn := w.drawn + 1 }) (.same rfl) hF
 have hunl : ∀ n, unl (fun i => (Array.replicate ops.size false).getD i false) n <= n := fun n => by
  induction n with
  | zero => exact Nat.le_refl _
  | succ n ih => simp only [unl]; split <;> omega
 have hsel' : ∀ o ∈ ops.toList, ∀ cs b, o.op ≠ .select cs b := fun o ho cs b hc => by
  have := List.all_eq_true.1 hsel o ho
  rw [hc] at this; simp [isSelO] at this
 have := wpAnyI_any _ _ _ _ <| any_sat (Q := fun e a w => (∀ c, e ≠ .panic c) /\ Q e a w) hS hsel' hback hput (ro := ro) (rm := rm) (fun c a w h => h.1 c rfl) _ ops.size (fun _ _ => True) [] (Array.replicate ops.size false) fr hp C { w with drawn := w.drawn + 1 } act (fun _ _ _ _ _ _ => trivial)
  (fun k => ⟨fun h => (hno k h).elim, fun h => by cases h⟩) hsz (fun i o _ hl => (hno i hl).elim) (by have := hunl ops.toList.length; simpa using this) hlo hH1 hF1 h hds (Goal.any fun fr' hp' C' w' act' h1 h2 h3 h4 h5 h6 => ⟨fun c h => by (cases h), (hgoal.step (.draw _ _ _ _)) fr' hp' C' w' act' h1 h2 h3 h4 h5 h6⟩)
 simpa using this
end
end Abs
end Go.Proofs.YtlabbaglbcmofaaGreat

namespace Go.Proofs.YtlabbaglbcmofaaGreat
namespace Abs
open Go Go.RowKit
def exitOf : AE -> Exit
 | .normal => .normal
 | .exit id => .exit id
 | .ret => .ret
section
variable {P : Program} {S : Sums} {C C' : Cx} {w w' : World} {H hp : Heap}
def GoalE (S : Sums) (R : AV -> Heap -> Prop) (Qv : AE -> List AV -> Heap -> VC) (Q : Exit -> Act -> World -> Prop) (C : Cx) (w : World) (act : Act) (W : Nat) : Prop :=
 ∀ (e : AE) (fr' : List AV) (hp' : Heap) (C' : Cx) (w' : World) (act' : Act), (Qv e fr' hp').sat R -> S.lo <= hp'.length -> HR C' hp' w' -> FR [] C' w' fr' act'.tmps -> Tr S.lo C w C' w' -> Kept W act w act' w' -> Q (exitOf e) act' w'
theorem GoalE.step {R : AV -> Heap -> Prop} {Qv : AE -> List AV -> Heap -> VC} {Q : Exit -> Act -> World -> Prop} {act act' : Act} {W : Nat} (g : GoalE S R Qv Q C w act W) (t : Tr S.lo C w C' w') (k : Kept W act w act' w') (hH : HR C' hp w') : GoalE S R Qv Q C' w' act' W :=
 fun e fr' hp' C'' w'' act'' h1 h2 h3 h4 h5 h6 => g e fr' hp' C'' w'' act'' h1 h2 h3 h4 (t.trans h5) (k.trans h6 t.size fun _ _ hi ho => h5.others hH hi ho)
theorem GoalE.sub {R : AV -> Heap -> Prop} {Qv : AE -> List AV -> Heap -> VC} {Q : Exit -> Act -> World -> Prop} {act : Act} {W W' : Nat} (g : GoalE S R Qv Q C w act W) (h : ∀ t, Nat.testBit W t = false -> Nat.testBit W' t = false) : GoalE S R Qv Q C w act W' :=
 fun e fr' hp' C' w' act' h1 h2 h3 h4 h5 h6 => g e fr' hp' C' w' act' h1 h2 h3 h4 h5 (h6.sub h)
theorem FR.known {fr : List AV} {tm : Array Value} (h : FR [] C w fr tm) {d : Nat} {a : AV} (ha : RelG [] C w a (tm.getD d undef)) : FR [] C w (setL fr d a) tm :=
 ⟨by rw [len_setL]; exact h.len, fun t => by
  rw [getL_set]
  split
  ·rename_i hc; rw [hc.1]; exact ha
  ·exact h.get t⟩
def Snd (P : Program) (S : Sums) (U : Nat) (I : Anns) (c : Code) : Prop :=
 ∀ (ro : Option Nat) (rm : Nat) (R : AV -> Heap -> Prop) (fr : List AV) (hp : Heap) (Qv : AE -> List AV -> Heap -> VC) (C : Cx) (w : World) (act : Act) (Q : Exit -> Act -> World -> Prop), S.lo <= hp.length -> HR C hp w -> FR [] C w fr act.tmps -> RO ro w ->
   (wpA P S U I c fr hp Qv).sat R -> GoalE S R Qv Q C w act (mskC c) -> c.wpIn (fen ro) rm P Q act w
theorem snd_iter {ro : Option Nat} {rm : Nat} {U : Nat} {I : Anns} {c : Code} (hc : Snd P S U I c) {R : AV -> Heap -> Prop} {fr : List AV} {Qv : AE -> List AV -> Heap -> VC} {act : Act} {Q : Exit -> Act -> World -> Prop} (n : Nat)
  (hlo : S.lo <= hp.length) (hH : HR C hp w) (hF : FR [] C w fr act.tmps) (hro : RO ro w) (h : (iterL (wpA P S U I c) n fr hp Qv).sat R) (hgoal : GoalE S R Qv Q C w act (mskC c)) : (Code.loop c).wpIn (fen ro) rm P Q act w := by
 refine wpIn_loop_ghost (fun k a w1 => ∃ fr hp C1, S.lo <= hp.length /\ HR C1 hp w1 /\ FR [] C1 w1 fr a.tmps /\ RO ro w1 /\ (iterL (wpA P S U I c) k fr hp Qv).sat R /\ Tr S.lo C w C1 w1 /\ Kept (mskC c) act w a w1) n
  ⟨fr, hp, C, hlo, hH, hF, hro, h, .refl _ _ _, .refl _ _ _ _⟩ ?_
 rintro k a w1 ⟨fr, hp, C1, hlo, hH, hF, hro, h, ht, hk⟩
 cases k with
 | zero => exact h.elim
 | succ k =>
   refine hc ro rm R fr hp _ C1 w1 a _ hlo hH hF hro h ?_
   intro e fr' hp' C' w' act' h1 h2 h3 h4 h5 h6
   have hk' := hk.trans h6 ht.size fun _ _ hi ho => h5.others hH hi ho
   cases e with
   | normal => exact ⟨k, by omega, fr', hp', C', h2, h3, h4, hro.tr h5 hH, h1, ht.trans h5, hk'⟩
   | exit id => exact hgoal (.exit id) fr' hp' C' w' act' h1 h2 h3 h4 (ht.trans h5) hk'
   | ret => exact hgoal .ret fr' hp' C' w' act' h1 h2 h3 h4 (ht.trans h5) hk'
theorem leLW_sat {R : AV -> Heap -> Prop} {lo : Nat} {src : Heap} {f : AV -> AV -> VC -> VC} (hf : ∀ a b k k', (k.sat R -> k'.sat R) -> (f a b k).sat R -> (leA lo src hp a b k').sat R) :
  ∀ (m l : List AV) (k k' : VC), (k.sat R -> k'.sat R) -> (leLW f l m k).sat R -> (leL lo src hp l m k').sat R
 | [], [], k, k', hk, h => by unfold leL; exact hk h
 | [], _ :: _, k, k', hk, h => h.elim
 | b :: m, [], k, k', hk, h => h.elim
 | b :: m, a :: l, k, k', hk, h => by
   unfold leL
   exact hf a b _ _ (leLW_sat hf m l k k' hk) h
theorem leAF_sat {R : AV -> Heap -> Prop} {lo : Nat} {src : Heap} : ∀ (d : Nat) (a b : AV) (k k' : VC), (k.sat R -> k'.sat R) -> (leAF d lo src hp a b k).sat R -> (leA lo src hp a b k').sat R := by
 intro d
 induction d with
 | zero => intro a b k k' _ h; exact h.elim
 | succ d ih =>
   intro a b k k' hk h
   have hl := leLW_sat (hp := hp) (R := R) (lo := lo) (src := src) ih
   unfold leAF at h
   cases b <;> simp only at h <;> unfold leA
   all_goals repeat' (first | exact h.elim | exact hk h | exact ⟨h.1, hk h.2⟩ | exact ⟨h.1, h.2.1, hk h.2.2⟩ | exact hl _ _ _ _ hk h | exact hl _ _ _ _ (fun h => hl _ _ _ _ hk h) h | (split at h <;> first | exact h.elim | (rename_i e; rw [e]) | skip))
theorem leBF_sat {R : AV -> Heap -> Prop} {lo n : Nat} {src : Heap} {a b : Blk} {k k' : VC} (hk : k.sat R -> k'.sat R) (h : (leBF lo n src hp a b k).sat R) : (leB lo n src hp a b k').sat R := by
 unfold leBF at h
 unfold leB
 cases b <;> simp only at h ⊢
 ·cases hb : Nat.ble lo n <;> rw [hb] at h
  ·cases a <;> first | exact hk h | exact h.elim
  ·exact hk h
 ·split at h
  ·split at h
   ·exact leLW_sat (leAF_sat 6) _ _ _ _ hk h
   ·exact h.elim
  ·exact h.elim
 ·split at h
  ·split at h
   ·exact ⟨h.1, h.2.1, hk h.2.2⟩
   ·exact h.elim
  ·exact h.elim
theorem leHF_sat {R : AV -> Heap -> Prop} {lo : Nat} {src : Heap} : ∀ (n : Nat) (l m : Heap) (k k' : VC), (k.sat R -> k'.sat R) -> (leHF lo src hp n l m k).sat R -> (leH lo src hp n l m k').sat R
 | n, [], [], k, k', hk, h => by unfold leHF at h; unfold leH; exact hk h
 | n, _ :: _, [], k, k', hk, h => by
   unfold leHF at h; unfold leH
   cases hb : Nat.ble lo n <;> rw [hb] at h
   ·exact h.elim
   ·exact hk h
 | n, a :: l, b :: m, k, k', hk, h => by
   unfold leHF at h; unfold leH
   exact leBF_sat (leHF_sat (n + 1) l m k k' hk) h
 | n, [], _ :: _, k, k', hk, h => by unfold leHF at h; exact h.elim
theorem leSF_sat {R : AV -> Heap -> Prop} {lo : Nat} {fr : List AV} {s : AS} (h : (leSF lo fr hp s).sat R) : (leS lo fr hp s).sat R :=
 leLW_sat (leAF_sat 6) _ _ _ _ (leHF_sat 0 _ _ _ _ id) h
theorem swN_swN (i j k : Nat) : swN i j (swN i j k) = k := by
 unfold swN
 have e : ∀ a b : Nat, Nat.beq a b = decide (a = b) := fun a b => by
  cases h : Nat.beq a b with
  | true => simp [Nat.eq_of_beq_eq_true h]
  | false =>
    have : a ≠ b := fun e => by subst e; simp at h
    simp [this]
 simp only [e]
 by_cases h1 : k = i
 ·subst h1
  simp only [decide_true]
  by_cases h2 : j = k
  ·subst h2; simp
  ·simp [h2]
 ·by_cases h2 : k = j
  ·subst h2; simp [h1]
  ·simp [h1, h2]
def Cx.sw (C : Cx) (i j : Nat) : Cx := ⟨fun k => C.ρ (swN i j k), C.I⟩
theorem sw_rel {i j : Nat} {a : AV} {v : Value} (h : Rel C w a v) : Rel (C.sw i j) w (swA i j a) v := by
 have hs : ∀ k, (C.sw i j).ρ (swN i j k) = C.ρ k := fun k => by show C.ρ (swN i j (swN i j k)) = _; rw [swN_swN]
 refine Rel.rec (C := C) (w := w) (motive_1 := fun a v _ => Rel (C.sw i j) w (swA i j a) v) (motive_2 := fun l vs _ => RelL (C.sw i j) w (swA.swL i j l) vs)
  ?_ ?_ ?_ ?_ ?_ ?_ ?_ ?_ ?_ ?_ ?_ ?_ ?_ ?_ ?_ ?_ ?_ ?_ ?_ h
 ·exact fun v => .top v
 ·exact fun k a v => .gd k _ v
 ·exact fun k n => .li k n
 ·exact fun k n => .si k n
 ·exact fun b => .lb b
 ·exact fun b => .sb b
 ·exact fun x => .v x
 ·exact fun l vs _ h => .agg _ vs h
 ·exact fun l vs _ h => .tup _ vs h
 ·exact fun k off b c n h => .own _ off b c n (by rw [hs]; exact h)
 ·exact fun k sz q off b c n h hk => .elt _ sz q off b c n (by rw [hs]; exact h) hk
 ·exact fun k b c n h => .row _ b c n (by rw [hs]; exact h)
 ·exact fun k n sz b c m h => .lsl _ n sz b c m (by rw [hs]; exact h)
 ·exact fun k h => .rown _ (by rw [hs]; exact h)
 ·exact fun n sz el A cap vs hcap hA hr hl hn _ => Rel.still (C := C) (C' := C.sw i j) (w' := w) (fun _ h => h) (fun _ _ => rfl) (.slc n sz el A cap vs hcap hA hr hl hn) rfl
 ·exact fun l ad vs hr hI hc hn _ => Rel.still (C := C) (C' := C.sw i j) (w' := w) (fun _ h => h) (fun _ _ => rfl) (.xp l ad vs hr hI hc hn) rfl
 ·exact fun f l m vs ws _ _ h h' => .fn f _ _ vs ws h h'
 ·exact .nil
 ·exact fun a l v vs _ _ h h' => .cons _ _ v vs h h'
theorem sw_relL {i j : Nat} : ∀ {l : List AV} {vs : List Value}, RelL C w l vs -> RelL (C.sw i j) w (swA.swL i j l) vs
 | _, _, .nil => .nil
 | _, _, .cons _ _ _ _ h h' => .cons _ _ _ _ (sw_rel h) (sw_relL h')
theorem getB_swM (i j : Nat) : ∀ (l : Heap) (k : Nat), getB (swM i j l) k = swB i j (getB l k)
 | [], _ => rfl
 | _ :: _, 0 => rfl
 | _ :: l, k + 1 => getB_swM i j l k
theorem len_swM (i j : Nat) : ∀ l : Heap, (swM i j l).length = l.length
 | [] => rfl
 | _ :: l => by simp [swM, len_swM i j l]
theorem getB_swH {i j : Nat} (hi : i < hp.length) (hj : j < hp.length) (k : Nat) : getB (swH i j hp) k = swB i j (getB hp (swN i j k)) := by
 unfold swH
 rw [getB_set, len_setB, len_swM]
 by_cases h1 : k = j
 ·subst h1
  rw [if_pos ⟨rfl, hj⟩]
  by_cases h2 : k = i
  ·subst h2; unfold swN; rw [show Nat.beq k k = true by simp]
  ·unfold swN; rw [show Nat.beq k i = false from nb_false h2, show Nat.beq k k = true by simp]
 ·rw [if_neg (fun e => h1 e.1), getB_set, len_swM]
  by_cases h2 : k = i
  ·subst h2
   rw [if_pos ⟨rfl, hi⟩]
   unfold swN; rw [show Nat.beq k k = true by simp]
  ·rw [if_neg (fun e => h2 e.1), getB_swM]
   unfold swN; rw [show Nat.beq k i = false from nb_false h2, show Nat.beq k j = false from nb_false h1]
theorem sw_brel {i j : Nat} {p : Pl} {b : Blk} (h : BRel C w p b) : BRel (C.sw i j) w p (swB i j b) := by
 match p, b, h with
 | .at q c m, .cells ty l, h =>
   obtain ⟨vs, hr, hh⟩ := h
   exact ⟨vs, sw_relL hr, hh⟩
 | .at q c m, .row e sz k el, h =>
   obtain ⟨h1, h2, h3, cs, vs, hh, hs, hc⟩ := h
   exact ⟨h1, h2, h3, cs, vs, hh, hs, fun k hk => ⟨RelL.still (C := C) (w := w) (C' := C.sw i j) (w' := w) (fun _ h => h) (fun _ _ => rfl) (hc k hk).1 (own_ok (hc k hk).2.1), (hc k hk).2⟩⟩
 | .nil, .row e sz k el, h => exact h
theorem sw_hr {i j : Nat} (hH : HR C hp w) (hi : i < hp.length) (hj : j < hp.length) : HR (C.sw i j) (swH i j hp) w := by
 refine ⟨fun k p hp' => ?_, fun k k' b c n b' c' n' h h' hne => hH.inj _ _ _ _ _ _ _ _ h h' fun e => hne ?_, fun k b c n h => hH.fresh _ _ _ _ h, hH.ilt⟩
 ·rw [getB_swH hi hj]
  exact sw_brel (hH.live _ p hp')
 ·have := congrArg (swN i j) e
  rwa [swN_swN, swN_swN] at this
theorem swN_lo {i j lo k : Nat} (hi : lo <= i) (hj : lo <= j) : (k < lo -> swN i j k = k) /\ (lo <= k -> lo <= swN i j k) := by
 unfold swN
 constructor
 ·intro h
  rw [show Nat.beq k i = false from nb_false (by omega), show Nat.beq k j = false from nb_false (by omega)]
 ·intro h
  split
  ·exact hj
  ·split
   ·exact hi
   ·exact h
theorem sw_tr {i j lo : Nat} (hi : lo <= i) (hj : lo <= j) : Tr lo C w (C.sw i j) w :=
 ⟨rfl, rfl, rfl, Nat.le_refl _, fun _ _ _ => rfl, fun _ h => h, fun _ h => .inl h, fun k hk => by show C.ρ (swN i j k) = _; rw [(swN_lo hi hj).1 hk], fun k b c n hk h => .inl ⟨swN i j k, c, n, (swN_lo hi hj).2 hk, h⟩⟩
theorem getL_swL (i j : Nat) : ∀ (l : List AV) (t : Nat), getL (swA.swL i j l) t = swA i j (getL l t)
 | [], _ => rfl
 | _ :: _, 0 => rfl
 | _ :: l, t + 1 => getL_swL i j l t
theorem len_swL (i j : Nat) : ∀ l : List AV, (swA.swL i j l).length = l.length
 | [] => rfl
 | _ :: l => by simp [swA.swL, len_swL i j l]
theorem sw_fr {i j : Nat} {fr : List AV} {tm : Array Value} (h : FR [] C w fr tm) : FR [] (C.sw i j) w (swA.swL i j fr) tm := by
 refine ⟨by rw [len_swL]; exact h.len, fun t => ?_⟩
 rw [getL_swL]
 have h1 := h.get t
 refine .plain (sw_rel h1.1) ?_
 cases hx : getL fr t <;> simp [swA, notGd]
 obtain ⟨x, h2, _⟩ := h1.2 _ _ hx
 simp at h2
theorem misO_spec {lo n : Nat} : ∀ {m l : List AV} {i j : Nat}, misO lo n m l = some (i, j) -> lo <= i /\ lo <= j /\ i < n /\ j < n
 | [], _, _, _, h => by simp [misO] at h
 | b :: m, l, i, j, h => by
   unfold misO at h
   split at h
   ·cases h
   ·split at h
    ·split at h
     ·split at h
      ·exact misO_spec h
      ·split at h
       ·rename_i hc
        injection h with h; injection h with h1 h2; subst h1 h2
        simp only [Bool.and_eq_true] at hc
        obtain ⟨⟨⟨h1, h2⟩, h3⟩, h4⟩ := hc
        exact ⟨Nat.le_of_ble_eq_true h1, Nat.le_of_ble_eq_true h2, by simpa [Nat.blt_eq] using h3, by simpa [Nat.blt_eq] using h4⟩
       ·cases h
     ·exact misO_spec h
    ·exact misO_spec h
def LeOK (lo : Nat) (fr : List AV) (hp : Heap) (s : AS) : Prop := ∀ (C : Cx) (w : World), HR C hp w -> lo <= hp.length -> ∃ C2, HR C2 s.hp w /\ (∀ tm, FR [] C w fr tm -> FR [] C2 w s.fr tm) /\ lo <= s.hp.length /\ Tr lo C w C2 w
theorem swK_sat {R : AV -> Heap -> Prop} {lo : Nat} {fr : List AV} {s : AS} (h : (swK lo s.fr fr hp fun fr hp => leSF lo fr hp s).sat R) : LeOK lo fr hp s := by
 intro C w hH hlo
 unfold swK at h
 split at h
 ·exact ⟨_, leS_sat (leSF_sat h) hH hlo⟩
 ·rename_i i j hm
  obtain ⟨h1, h2, h3, h4⟩ := misO_spec hm
  rw [forceLD_eq, forceH_eq] at h
  have hlen : (swH i j hp).length = hp.length := by unfold swH; rw [len_setB, len_setB, len_swM]
  obtain ⟨g1, g2, g3, g4⟩ := leS_sat (leSF_sat h) (sw_hr (w := w) hH h3 h4) (by rw [hlen]; exact hlo)
  exact ⟨_, g1, fun tm hF => g2 tm (sw_fr hF), g3, (sw_tr h1 h2).trans g4⟩
theorem exK_sat {lo : Nat} {A : Ann} {m : Option Nat} {fr : List AV} {R : AV -> Heap -> Prop} (h : (exK lo A m fr hp).sat R) : ∃ g, A.pre g /\ (∀ n, m = some n -> A.mu g < n) /\ LeOK lo fr hp (A.st g) := by
 obtain ⟨g, h1, h2, h3⟩ := h
 simp only [forceL_eq, forceH_eq] at h3
 exact ⟨g, h1, fun n e => by subst e; exact h2, swK_sat (s := A.st g) h3⟩
theorem nilK_sat {R : AV -> Heap -> Prop} {lo : Nat} : ∀ {l : List (Nat × TypeId × Nat)} {fr : List AV} {hp : Heap} {C : Cx} {K : List AV -> Heap -> VC} {tm : Array Value}, (nilK l fr hp K).sat R -> lo <= hp.length -> HR C hp w -> FR [] C w fr tm ->
  ∃ fr' hp' C', (K fr' hp').sat R /\ lo <= hp'.length /\ HR C' hp' w /\ FR [] C' w fr' tm /\ Tr lo C w C' w
 | [], fr, hp, C, K, tm, h, hlo, hH, hF => ⟨fr, hp, C, h, hlo, hH, hF, .refl _ _ _⟩
 | (t, e, sz) :: l, fr, hp, C, K, tm, h, hlo, hH, hF => by
   unfold nilK at h
   split at h
   ·rename_i s hn
    rw [setF_eq, forceH_eq, appH_eq] at h
    have hnone : C.ρ hp.length = none := by
     cases hc : C.ρ hp.length with
     | none => rfl
     | some p => have := hH.lt hc; omega
    have h1 : HR (C.put hp.length .nil) (hp ++ [Blk.row e (s + 1) (.lit 0) (fun _ => [])]) w := by
     refine (hH.ext _).newNil hnone ?_
     rw [show getB (hp ++ [Blk.row e (s + 1) (.lit 0) (fun _ => [])]) hp.length = .row e (s + 1) (.lit 0) (fun _ => []) by rw [getB_eq]; simp]
     exact ⟨rfl, Nat.succ_pos _⟩
    have g := Grow.newNil C w hp.length
    have h2 : FR [] (C.put hp.length .nil) w fr tm := g.frame (fun i a b => (show i = hp.length by omega) ▸ hnone) hH.ilt hF
    have h3 : FR [] (C.put hp.length .nil) w (setL fr t (.row hp.length)) tm := h2.known (.plain (by
     have := (hF.get t).1
     generalize getL fr t = a at this hn
     generalize tm.getD t undef = v at this
     unfold isNilS at hn
     split at hn
     ·cases this; exact .rown _ Cx.put_eq
     ·cases hn) trivial)
    obtain ⟨fr', hp', C', h4, h5, h6, h7, h8⟩ := nilK_sat (lo := lo) (C := C.put hp.length .nil) h (by simp; omega) h1 h3
    exact ⟨fr', hp', C', h4, h5, h6, h7, (g.tr hlo).trans h8⟩
   ·exact nilK_sat h hlo hH hF
theorem snd_ann {ro : Option Nat} {rm : Nat} {U : Nat} {I : Anns} {c : Code} (hc : Snd P S U I c) {A : Ann} {R : AV -> Heap -> Prop} {fr : List AV} {Qv : AE -> List AV -> Heap -> VC} {act : Act} {Q : Exit -> Act -> World -> Prop}
  (hlo : S.lo <= hp.length) (hH : HR C hp w) (hF : FR [] C w fr act.tmps) (hro : RO ro w)
  (h1 : ∃ g, A.pre g /\ LeOK S.lo fr hp (A.st g))
  (h2 : ∀ g, A.pre g -> (wpA P S U I c (A.st g).fr (A.st g).hp fun e fr' hp' => match e with
      | .normal => exK S.lo A (some (A.mu g)) fr' hp'
      | e => Qv e fr' hp').sat R) (hgoal : GoalE S R Qv Q C w act (mskC c)) : (Code.loop c).wpIn (fen ro) rm P Q act w := by
 obtain ⟨g, hg, hle⟩ := h1
 obtain ⟨C2, h3, h4, h5, h6⟩ := hle C w hH hlo
 refine wpIn_loop_ghost (fun k a w1 => ∃ g C1, A.pre g /\ A.mu g = k /\ S.lo <= (A.st g).hp.length /\ HR C1 (A.st g).hp w1 /\ FR [] C1 w1 (A.st g).fr a.tmps /\ RO ro w1 /\ Tr S.lo C w C1 w1 /\ Kept (mskC c) act w a w1) (A.mu g)
  ⟨g, _, hg, rfl, h5, h3, h4 _ hF, hro, h6, .refl _ _ _ _⟩ ?_
 rintro k a w1 ⟨g, C1, hg, rfl, hlo, hH, hF, hro, ht, hk⟩
 refine hc ro rm R _ _ _ C1 w1 a _ hlo hH hF hro (h2 g hg) ?_
 intro e fr' hp' C' w' act' h1 h2 h3 h4 h5 h6
 have hk' := hk.trans h6 ht.size fun _ _ hi ho => h5.others hH hi ho
 cases e with
 | normal =>
   obtain ⟨g', hg', hlt, hle⟩ := exK_sat h1
   have hlt := hlt _ rfl
   obtain ⟨C3, h7, h8, h9, h10⟩ := hle C' w' h3 h2
   exact ⟨A.mu g', hlt, g', _, hg', rfl, h9, h7, h8 _ h4, hro.tr h5 hH, (ht.trans h5).trans h10, hk'⟩
 | exit id => exact hgoal (.exit id) fr' hp' C' w' act' h1 h2 h3 h4 (ht.trans h5) hk'
 | ret => exact hgoal .ret fr' hp' C' w' act' h1 h2 h3 h4 (ht.trans h5) hk'
theorem exR_sat {lo i : Nat} {A : Ann} {fr : List AV} {R : AV -> Heap -> Prop} (h : (exR lo A i fr hp).sat R) : ∃ g, A.pre g /\ A.mu g = i /\ LeOK lo fr hp (A.st g) := by
 obtain ⟨g, h1, _, h2, h3⟩ := h
 simp only [forceL_eq, forceH_eq] at h3
 exact ⟨g, h1, h2, swK_sat (s := A.st g) h3⟩
def codeOf : AE -> Code
 | .exit id => .exit id
 | _ => .ret
structure Mid (P : Program) (S : Sums) (C : Cx) (w : World) (act : Act) (A : Ann) (l : Nat) (rec : Loop) (ms : List Nat) (k : Nat) (W : World) : Prop where
 ex : ∃ g C2, A.mu g = k /\ A.pre g /\ S.lo <= (A.st g).hp.length /\ HR C2 (A.st g).hp W /\ FR [] C2 W (A.st g).fr act.tmps /\ Tr S.lo C w C2 W
 lr : W.heap[l]? = some (.loop rec)
 ms : ∀ D ∈ ms, W.heap[D]? = some (.deferred (some []))
structure Gone (P : Program) (S : Sums) (R : AV -> Heap -> Prop) (Qv : AE -> List AV -> Heap -> VC) (C : Cx) (w : World) (act : Act) (l : Nat) (rec : AE -> Loop) (ms : List Nat) (W : World) : Prop where
 ex : ∃ e fr' hp' C2, e ≠ AE.normal /\ (Qv e fr' hp').sat R /\ S.lo <= hp'.length /\ HR C2 hp' W /\ FR [] C2 W fr' act.tmps /\ Tr S.lo C w C2 W /\ W.heap[l]? = some (.loop (rec e))
 ms : ∀ D ∈ ms, W.heap[D]? = some (.deferred (some []))
theorem Quiet.at {W W' : World} (q : Quiet W W') {k : Nat} {o : Obj} (h : W.heap[k]? = some o) : W'.heap[k]? = some o := (q.keep k (Array.getElem?_eq_some_iff.1 h).1).trans h
theorem Mid.quiet {act : Act} {A : Ann} {l : Nat} {rec : Loop} {ms : List Nat} {k : Nat} {W W' : World} (h : Mid P S C w act A l rec ms k W) (q : Quiet W W') : Mid P S C w act A l rec ms k W' := by
 obtain ⟨g, C2, h1, h2, h3, h4, h5, h6⟩ := h.ex
 exact ⟨⟨g, C2, h1, h2, h3, h4.cb q.cb, h5.cb q.cb, h6.quiet q⟩, q.at h.lr, fun D hD => q.at (h.ms D hD)⟩
theorem Gone.quiet {R : AV -> Heap -> Prop} {Qv : AE -> List AV -> Heap -> VC} {act : Act} {l : Nat} {rec : AE -> Loop} {ms : List Nat} {W W' : World} (h : Gone P S R Qv C w act l rec ms W) (q : Quiet W W') : Gone P S R Qv C w act l rec ms W' := by
 obtain ⟨e, fr', hp', C2, h0, h1, h2, h3, h4, h5, h6⟩ := h.ex
 exact ⟨⟨e, fr', hp', C2, h0, h1, h2, h3.cb q.cb, h4.cb q.cb, h5.quiet q, q.at h6⟩, fun D hD => q.at (h.ms D hD)⟩
set_option maxHeartbeats 800000 in
theorem snd_range (hS : SumsOK P S) {ro : Option Nat} {rm : Nat} {U : Nat} {I : Anns} {g : Operand} {ps : Array Tmp} {ca cb : Code} (hca : Snd P S U I ca) (hcb : Snd P S U I cb) {R : AV -> Heap -> Prop} {fr : List AV} {Qv : AE -> List AV -> Heap -> VC} {act : Act} {Q : Exit -> Act -> World -> Prop}
  (hlo : S.lo <= hp.length) (hH : HR C hp w) (hF : FR [] C w fr act.tmps) (hro : RO ro w) (h : (wpA P S U I (.rangeFunc g ps ca cb) fr hp Qv).sat R) (hgoal : GoalE S R Qv Q C w act 0) : (Code.rangeFunc g ps ca cb).wpIn (fen ro) rm P Q act w := by
 simp only [wpA] at h
 unfold callIt at h
 split at h
 case h_2 => exact h.elim
 rename_i d
 split at h
 case h_2 => exact h.elim
 rename_i gf caps hd
 split at h
 case h_2 => exact h.elim
 rename_i it hit hown
 split at h
 case h_2 => exact h.elim
 rename_i x hx
 obtain ⟨hpre, h⟩ := needs_sat h
 split at h
 ·exact h.elim
 rename_i nils ann _
 obtain ⟨hiter, fn0, hfn0, hname0, hbody0⟩ := hS.its _ _ hit
 obtain ⟨ws, hev, hws⟩ : ∃ ws, act.tmps.getD d undef = .func (.func gf) ⟨[]⟩ ⟨ws⟩ /\ RelL C w caps ws := by
  have := (hF.get d).1
  rw [hd] at this
  generalize act.tmps.getD d undef = u at this
  cases this with
  | fn _ _ _ vs ws h1 h2 => cases h1; exact ⟨ws, rfl, h2⟩
 obtain ⟨Ci, hCi⟩ : ∃ Ci : Cx, Ci = ⟨fun _ => none, C.I⟩ := ⟨_, rfl⟩
 have hCiI : ∀ b, Ci.I b ↔ C.I b := fun b => by rw [hCi]
 have hwsI : RelL Ci w caps ws := hws.change (fun b hb => (hCiI b).2 hb) hown
 obtain ⟨fr, hp1, C1, h, hlo1, hH1, hF1, htr1⟩ := nilK_sat h hlo hH hF
 obtain ⟨A, hA⟩ : ∃ A, A = ann fr hp1 := ⟨_, rfl⟩
 obtain ⟨h0, h⟩ := h
 rw [<- hA] at h0
 have h : ∀ g, A.pre g -> (VC.branch (nlt (A.mu g) x.n)
     (setPs ps.toList (x.it (A.mu g)) (A.st g).fr fun fr1 => wpA P S U I ca fr1 (A.st g).hp fun e fr2 hp2 => match e with
      | .normal => wpA P S U I cb fr2 hp2 fun e fr3 hp3 => topM (Nat.lor (mskP ps.toList) (Nat.lor (mskC ca) (mskC cb))) fr3 0 fun fr4 => match e with
        | .normal => exR S.lo A (nadd (A.mu g) 1) fr4 hp3
        | e => Qv e fr4 hp3
      | _ => .fail)
     (Qv .normal (A.st g).fr (A.st g).hp)).sat R := by
  subst hA
  intro g hg
  have := h g hg
  simp only [forceL_eq, forceH_eq] at this
  exact this
 obtain ⟨g0, hg0, hmu0, hle0⟩ := exR_sat h0
 obtain ⟨C2, hH2, hF2, hlo2, htr2⟩ := hle0 C1 _ hH1 hlo1
 have hF2 := hF2 _ hF1
 have htr := htr1.trans htr2
 clear hle0 h0 htr2 htr1 hF1 hH1
 refine wpIn_rangeFunc ?_
 intro fn hfn
 obtain ⟨l, ms, w1, rec, henter, hq, hl, hrec0, hrecl, hms, hnd⟩ : ∃ (l : Nat) (ms : List Nat) (w1 : World) (rec : LoopState -> Option Code -> Loop), (Instr.enterLoop fn act.tmps ps ca cb ro).run P w = .ok (l, ms.map mkOf) w1 /\ Quiet w w1 /\ w.heap.size <= l /\
   (∃ D0, rec = fun st pe => { state := st, pending := pe, fn, tmps := act.tmps, params := ps, assign := ca, body := cb, defers := D0 }) /\ w1.heap[l]? = some (.loop (rec .ready none)) /\
   (∀ D ∈ ms, w.heap.size <= D /\ D ≠ l /\ w1.heap[D]? = some (.deferred (some []))) /\ ms.Nodup := by
  cases ro with
  | none =>
    refine ⟨w.heap.size + 1, [w.heap.size], _, fun st pe => { state := st, pending := pe, fn, tmps := act.tmps, params := ps, assign := ca, body := cb, defers := w.heap.size }, run_enterLoop_outer fn act.tmps ps ca cb, (Quiet.alloc _ _).trans (Quiet.alloc _ _), by omega, ⟨_, rfl⟩, ?_, fun D hD => ?_, by simp⟩
    ·have := World.alloc_heap_new (w.alloc (.deferred (some []))) (.loop { state := .ready, pending := none, fn, tmps := act.tmps, params := ps, assign := ca, body := cb, defers := w.heap.size })
     rwa [World.size_alloc] at this
    ·simp at hD; subst hD
     exact ⟨Nat.le_refl _, by omega, (Below.heap_alloc _ _ _ (by simp)).trans (World.alloc_heap_new w _)⟩
  | some l₀ =>
    obtain ⟨r₀, hr₀⟩ := hro l₀ rfl
    refine ⟨w.heap.size, [], _, fun st pe => { state := st, pending := pe, fn, tmps := act.tmps, params := ps, assign := ca, body := cb, defers := r₀.defers }, run_enterLoop_inner hr₀ fn act.tmps ps ca cb, Quiet.alloc _ _, Nat.le_refl _, ⟨_, rfl⟩, World.alloc_heap_new w _, fun D hD => by simp at hD, by simp⟩
 obtain ⟨D0, hrec⟩ := hrec0
 have hrun : ∀ (args : Array Value) (W : World), (callFunc gf args).run P W = .ok (.enter gf args) W := fun args W => run_callFunc (P := P) hfn0 hname0 hbody0 args W
 refine ⟨l, ms.map mkOf, w1, { target := .fn (.func gf) ⟨ws⟩, args := #[.func (.yield l) #[] #[]] }, w1, gf, ⟨.func (.yield l) #[] #[] :: ws⟩, w1, henter, ?_, fun _ _ => trivial, ?_, (fun (hh : (none : Option Nat).isSome = true) => by simp at hh), ?_⟩
 ·have hev' : act.eval (.tmp d) = .func (.func gf) ⟨[]⟩ ⟨ws⟩ := hev
  simp only [resolve, hev']
  simp [go_sem]
 ·have e1 : #[Value.func (.yield l) #[] #[]] ++ (⟨ws⟩ : Array Value) = ⟨.func (.yield l) #[] #[] :: ws⟩ := by apply Array.ext'; simp
  simp [invoke, go_sem, hrun, e1]
 have hinv0 : Mid P S C w act A l (rec .ready none) ms 0 w1 := ⟨⟨g0, C2, hmu0, hg0, hlo2, hH2.cb hq.cb, hF2.cb hq.cb, htr.quiet hq⟩, hrecl, fun D hD => (hms D hD).2.2⟩
 have hrecC : ∀ e : AE, rec .done (some (codeOf e)) = rec .done (some (codeOf e)) := fun _ => rfl
 refine fen_calls ro (callsIn_wide.1 ((hiter caps x hx hpre Ci w1 ws (fun i => by rw [hCi]) (fun b hb => Nat.lt_of_lt_of_le (hH.ilt b ((hCiI b).1 hb)) hq.size) (hwsI.cb hq.cb) l
  (fun k W => Mid P S C w act A l (rec .ready none) ms k W) (fun _ W => Gone P S R Qv C w act l (fun e => rec .done (some (codeOf e))) ms W) (fun _ _ _ h q => h.quiet q) (fun _ _ _ h q => h.quiet q) ?_ hinv0).mono ?_))
 ·-- one round
  intro k W0 W I1 vs hk hmid hqw hI1 hI1' hvs
  have hmid := hmid
  obtain ⟨gh, C3, hmu, hpg, hlo3, hH3, hF3, ht3⟩ := hmid.ex
  have hsat := h gh hpg
  have hsat := hsat.1 (by unfold nlt; simpa [hmu] using hk)
  rw [hmu] at hsat
  obtain ⟨C4, hC4⟩ : ∃ C4 : Cx, C4 = ⟨C3.ρ, fun b => C3.I b \/ I1 b⟩ := ⟨_, rfl⟩
  have hx4 : Cext C3 W C4 W := by rw [hC4]; exact ⟨fun _ _ h => h, fun _ h => .inl h, fun _ _ => rfl⟩
  have hCI3 : ∀ b, Ci.I b -> C3.I b := fun b hb => ht3.imm b ((hCiI b).1 hb)
  have hH3W : HR C3 (A.st gh).hp W := hH3.cb hqw.cb
  have hH4 : HR C4 (A.st gh).hp W := by
   refine ⟨fun i p hi => ?_, fun i j b c n b' c' n' h h' => ?_, fun i b c n hi => ?_, fun b hb => ?_⟩
   ·rw [hC4] at hi; exact (hH3W.live i p hi).mono hx4 fun _ _ _ _ => rfl
   ·rw [hC4] at h h'; exact hH3W.inj _ _ _ _ _ _ _ _ h h'
   ·rw [hC4] at hi ⊢
    refine ⟨(hH3W.fresh _ _ _ _ hi).1, fun hb => ?_⟩
    rcases hb with hb | hb
    ·exact (hH3W.fresh _ _ _ _ hi).2 hb
    ·rcases hI1' b hb with h1 | h1
     ·exact (hH3W.fresh _ _ _ _ hi).2 (hCI3 b h1)
     ·have := (hH3.fresh _ _ _ _ hi).1; omega
   ·rw [hC4] at hb
    rcases hb with hb | hb
    ·exact hH3W.ilt b hb
    ·rcases hI1' b hb with h1 | h1
     ·exact hH3W.ilt b (hCI3 b h1)
     ·exact h1.2
  have hF4 : FR [] C4 W (A.st gh).fr act.tmps := (hF3.cb hqw.cb).mono hx4
  have ht4 : Tr S.lo C w C4 W := by
   have t := ht3.quiet hqw
   rw [hC4]
   refine ⟨t.os, t.tape, t.output, t.size, t.keep, fun b hb => .inl (t.imm b hb), fun b hb => ?_, t.rho, t.own⟩
   rcases hb with hb | hb
   ·exact t.imm' b hb
   ·rcases hI1' b hb with h1 | h1
    ·exact .inl ((hCiI b).1 h1)
    ·exact .inr (.inl (Nat.le_trans ht3.size h1.1))
  have hvs4 : RelL C4 W (x.it k) vs := hvs.mono ⟨fun i p h => by simp at h, fun b hb => by rw [hC4]; exact .inr hb, fun _ _ => rfl⟩
  obtain ⟨hlen, fr1, hsat, hFr1⟩ := setPs_sat hsat hvs4 hF4
  have hlW : W.heap[l]? = some (.loop (rec .ready none)) := hqw.at hmid.lr
  have hmsW : ∀ D ∈ ms, W.heap[D]? = some (.deferred (some [])) := fun D hD => hqw.at (hmid.ms D hD)
  have hy := run_yield (P := P) (args := ⟨vs⟩) hlW (by rw [hrec]; simp; simpa using hlen.symm)
  have htm : ∀ t, Nat.testBit (mskP ps.toList) t = false -> ((ps.toList.zip vs).foldl (fun t (p, v) => t.setIfInBounds p v) act.tmps).getD t undef = act.tmps.getD t undef := fun t ht => by
   refine fold_get _ _ _ fun hm => ?_
   obtain ⟨⟨p, v⟩, hm1, rfl⟩ := List.mem_map.1 hm
   rw [mskP_mem (List.of_mem_zip hm1).1] at ht; cases ht
  have htz := fold_size (ps.toList.zip vs) act.tmps
  have hfold : (ps.zip (⟨vs⟩ : Array Value)).foldl (fun t (p, v) => t.setIfInBounds p v) act.tmps = (ps.toList.zip vs).foldl (fun t (p, v) => t.setIfInBounds p v) act.tmps := by
   rw [<- Array.foldl_toList]; simp
  generalize (ps.toList.zip vs).foldl (fun t (p, v) => t.setIfInBounds p v) act.tmps = tm1 at hFr1 htm htz hfold
  refine ⟨fn, tm1, ca, cb, ?_, roundIn_of_wpIn trivial ?_⟩
  ·rw [hy, hrec]; simp only; rw [<- hfold]
  refine hca (some l) 0 R fr1 _ _ C4 W ⟨tm1, []⟩ _ hlo3 hH4 hFr1 (fun l' hl' => by injection hl' with hl'; subst hl'; exact ⟨_, hlW⟩) hsat ?_
  intro e fr2 hp2 C5 W2 act2 h1 h2 h3 h4 h5 h6
  cases e with
  | exit id => exact h1.elim
  | ret => exact h1.elim
  | normal =>
  have hl2 : W2.heap[l]? = some (.loop (rec .ready none)) := h5.others hH4 hlW rfl
  have hms2 : ∀ D ∈ ms, W2.heap[D]? = some (.deferred (some [])) := fun D hD => h5.others hH4 (hmsW D hD) rfl
  refine ⟨_, run_beginRound hl2 (by rw [hrec]), ?_⟩
  have hcb1 := CB.putObj (.loop { rec .ready none with state := .busy }) hl2 rfl
  have hl3 : (W2.putObj l (.loop { rec .ready none with state := .busy })).heap[l]? = some (.loop { rec .ready none with state := .busy }) := World.putObj_heap_same (Array.getElem?_eq_some_iff.1 hl2).1
  have hms3 : ∀ D ∈ ms, (W2.putObj l (.loop { rec .ready none with state := .busy })).heap[D]? = some (.deferred (some [])) := fun D hD => (World.putObj_heap_other (hms D hD).2.1).trans (hms2 D hD)
  have hk3 : ∀ b, b ≠ l -> (W2.putObj l (.loop { rec .ready none with state := .busy })).heap[b]? = W2.heap[b]? := fun b hb => World.putObj_heap_other hb
  have ht5 : Tr S.lo C w C5 (W2.putObj l (.loop { rec .ready none with state := .busy })) := (ht4.trans h5).putObj hl _
  have hs3 : (W2.putObj l (.loop { rec .ready none with state := .busy })).heap.size = W2.heap.size := World.putObj_size
  have hH5 := h3.cb hcb1
  have hF5 := h4.cb hcb1
  generalize W2.putObj l (.loop { rec .ready none with state := .busy }) = W3 at *
  refine hcb (some l) 0 R fr2 hp2 _ C5 W3 act2 _ h2 hH5 hF5 (fun l' hl' => by injection hl' with hl'; subst hl'; exact ⟨_, hl3⟩) h1 ?_
  intro e fr3 hp3 C6 W4 act3 g1 g2 g3 g4 g5 g6
  have ht6 : Tr S.lo C w C6 W4 := ht5.trans g5
  have hl4 : W4.heap[l]? = some (.loop { rec .ready none with state := .busy }) := g5.others hH5 hl3 rfl
  have hms4 : ∀ D ∈ ms, W4.heap[D]? = some (.deferred (some [])) := fun D hD => g5.others hH5 (hms3 D hD) rfl
  obtain ⟨K, g7, hK1, hK2⟩ : ∃ K : List AV -> VC, (topM (Nat.lor (mskP ps.toList) (Nat.lor (mskC ca) (mskC cb))) fr3 0 K).sat R /\ (e = .normal -> K = fun fr4 => exR S.lo A (nadd k 1) fr4 hp3) /\ (e ≠ .normal -> K = fun fr4 => Qv e fr4 hp3) := by
   cases e with
   | normal => exact ⟨_, g1, fun _ => rfl, fun h => absurd rfl h⟩
   | exit id => exact ⟨_, g1, (fun h => by cases h), fun _ => rfl⟩
   | ret => exact ⟨_, g1, (fun h => by cases h), fun _ => rfl⟩
  obtain ⟨fr4, e4, hlen4, hget4⟩ := topM_eq (Nat.lor (mskP ps.toList) (Nat.lor (mskC ca) (mskC cb))) fr3 0 K
  rw [e4] at g7
  have hF6 : FR [] C6 W4 fr4 act.tmps := by
   refine ⟨by rw [hlen4, g4.len, g6.sz, h6.sz, htz], fun t => ?_⟩
   rw [hget4 t]
   split
   ·exact .plain (.top _) trivial
   ·rename_i hb
    by_cases hlt : t < fr3.length
    ·have hbit : Nat.testBit (Nat.lor (mskP ps.toList) (Nat.lor (mskC ca) (mskC cb))) t = false := by
      rw [Nat.zero_add] at hb
      cases hbb : Nat.testBit (Nat.lor (mskP ps.toList) (Nat.lor (mskC ca) (mskC cb))) t with
      | false => rfl
      | true => exact absurd ⟨hbb, hlt⟩ hb
     obtain ⟨b1, b2⟩ := msk_or hbit
     obtain ⟨b2, b3⟩ := msk_or b2
     have := g4.get t
     rwa [g6.tm t b3, h6.tm t b2, htm t b1] at this
    ·have hl3' := g4.len
     have e1 : getL fr3 t = .tup [] := by rw [getL_eq, List.getD_eq_getElem?_getD, List.getElem?_eq_none (by omega)]; rfl
     have e2 : act.tmps.getD t undef = undef := by
      rw [Array.getD_eq_getD_getElem?, Array.getElem?_eq_none (by rw [<- htz, <- h6.sz, <- g6.sz]; omega)]; rfl
     rw [e1, e2]; exact .plain (.tup _ _ .nil) trivial
  have hkeep : ∀ b, Ci.I b -> W4.heap[b]? = W.heap[b]? := fun b hb => by
   have hbl : b < w.heap.size := hH.ilt b ((hCiI b).1 hb)
   have hb4 : C4.I b := by rw [hC4]; exact .inl (hCI3 b hb)
   exact (g5.imms hH5 (h5.imm b hb4)).trans ((hk3 b (by omega)).trans (h5.imms hH4 hb4))
  have hsize : W.heap.size <= W4.heap.size := Nat.le_trans h5.size (by rw [<- hs3]; exact g5.size)
  have fin : ∀ (jump : Option Code), (Instr.endRound l jump).run P W4 = .ok (.bool jump.isNone) (W4.putObj l (.loop (rec (if jump.isNone then .ready else .done) jump))) /\
    CB W4 (W4.putObj l (.loop (rec (if jump.isNone then .ready else .done) jump))) /\ (W4.putObj l (.loop (rec (if jump.isNone then .ready else .done) jump))).heap[l]? = some (.loop (rec (if jump.isNone then .ready else .done) jump)) /\
    (∀ D ∈ ms, (W4.putObj l (.loop (rec (if jump.isNone then .ready else .done) jump))).heap[D]? = some (.deferred (some []))) /\
    (∀ b, Ci.I b -> (W4.putObj l (.loop (rec (if jump.isNone then .ready else .done) jump))).heap[b]? = W.heap[b]?) /\ W.heap.size <= (W4.putObj l (.loop (rec (if jump.isNone then .ready else .done) jump))).heap.size := fun jump => by
   have := run_endRound (P := P) jump hl4
   rw [hrec] at this ⊢
   refine ⟨this, CB.putObj _ hl4 rfl, World.putObj_heap_same (Array.getElem?_eq_some_iff.1 hl4).1, fun D hD => (World.putObj_heap_other (hms D hD).2.1).trans (hms4 D hD), fun b hb => ?_, by simpa using hsize⟩
   have hbl : b < w.heap.size := hH.ilt b ((hCiI b).1 hb)
   exact (World.putObj_heap_other (by omega)).trans (hkeep b hb)
  cases e with
  | normal =>
    rw [hK1 rfl] at g7
    obtain ⟨gh', hpg', hmu', hle⟩ := exR_sat g7
    obtain ⟨C7, k1, k2, k3, k4⟩ := hle _ _ g3 g2
    obtain ⟨f1, f2, f3, f4, f5, f6⟩ := fin none
    exact ⟨_, _, f1, f5, f6, .inl ⟨rfl, ⟨gh', _, by rw [hmu']; unfold nadd; rfl, hpg', k3, k1.cb f2, (k2 _ hF6).cb f2, (ht6.trans k4).putObj hl _⟩, f3, f4⟩⟩
  | exit id =>
    rw [hK2 (by simp)] at g7
    obtain ⟨f1, f2, f3, f4, f5, f6⟩ := fin (some (.exit id))
    exact ⟨_, _, f1, f5, f6, .inr ⟨rfl, ⟨.exit id, fr4, hp3, C6, by simp, g7, g2, g3.cb f2, hF6.cb f2, ht6.putObj hl _, f3⟩, f4⟩⟩
  | ret =>
    rw [hK2 (by simp)] at g7
    obtain ⟨f1, f2, f3, f4, f5, f6⟩ := fin (some .ret)
    exact ⟨_, _, f1, f5, f6, .inr ⟨rfl, ⟨.ret, fr4, hp3, C6, by simp, g7, g2, g3.cb f2, hF6.cb f2, ht6.putObj hl _, f3⟩, f4⟩⟩
 ·-- behind the iterator
  have hkept : ∀ (W : World) (o : Obj), (∀ D ∈ ms, W.heap[D]? = some (.deferred (some []))) -> Kept 0 act w { act with defers := ms.map mkOf ++ act.defers } (W.putObj l o) := fun W o hm =>
   ⟨rfl, fun _ _ => rfl, ms, rfl, hnd, fun b hb => ⟨(hms b hb).1, (World.putObj_heap_other (hms b hb).2.1).trans (hm b hb)⟩⟩
  rintro e W ⟨⟨v, rfl⟩, hmid | ⟨k, hk, hgone⟩⟩
  ·obtain ⟨gh, C3, hmu, hpg, hlo3, hH3, hF3, ht3⟩ := hmid.ex
   have hl3 := hmid.lr
   have hend := run_endLoop (P := P) hl3 (by rw [hrec]; simp)
   have hcb1 := fun o => CB.putObj (.loop o) hl3 rfl
   rw [hrec] at hend
   refine ⟨none, _, hend, ?_⟩
   have hsat := (h gh hpg).2 (by unfold nlt; simp [hmu])
   exact hgoal .normal _ _ C3 _ _ hsat hlo3 (hH3.cb (hcb1 _)) (hF3.cb (hcb1 _)) (ht3.putObj hl _) (hkept _ _ hmid.ms)
  ·obtain ⟨e, fr', hp', C3, hne, hsat, hlo3, hH3, hF3, ht3, hl3⟩ := hgone.ex
   have hend := run_endLoop (P := P) hl3 (by rw [hrec]; simp)
   have hcb1 := fun o => CB.putObj (.loop o) hl3 rfl
   rw [hrec] at hend
   refine ⟨some (codeOf e), _, hend, ?_⟩
   cases e with
   | normal => exact absurd rfl hne
   | exit id => exact wpIn_exit (hgoal (.exit id) fr' hp' C3 _ { act with defers := ms.map mkOf ++ act.defers } hsat hlo3 (hH3.cb (hcb1 _)) (hF3.cb (hcb1 _)) (ht3.putObj hl _) (hkept _ _ hgone.ms))
   | ret => exact wpIn_ret (hgoal .ret fr' hp' C3 _ { act with defers := ms.map mkOf ++ act.defers } hsat hlo3 (hH3.cb (hcb1 _)) (hF3.cb (hcb1 _)) (ht3.putObj hl _) (hkept _ _ hgone.ms))
theorem wpA_sound (hS : SumsOK P S) (hm : P.follows .mixedOrders = true) {U : Nat} {I : Anns} : ∀ (c : Code), codeOK c = true -> Snd P S U I c := by
 intro c
 induction c with
 | skip =>
   intro _ ro rm R fr hp Qv C w act Q hlo hH hF hro h hgoal
   exact wpIn_skip (hgoal .normal fr hp C w act h hlo hH hF (.refl _ _ _) (.refl _ _ _ _))
 | region id ops dr =>
   intro hok ro rm R fr hp Qv C w act Q hlo hH hF hro h hgoal
   simp only [wpA] at h
   simp only [codeOK, regOK, Bool.and_eq_true] at hok
   obtain ⟨fr, hp, C1, h, hlo, hH, hF, htr⟩ := giveI_sat h hlo hH hF
   replace hgoal := hgoal.step htr (.refl _ _ _ _) hH
   have hg : Goal P S R (Qv .normal) Q C1 w (RegKept (mskO ops.toList) act) := fun fr' hp' C' w' act' h1 h2 h3 h4 h5 h6 => hgoal .normal fr' hp' C' w' act' h1 h2 h3 h4 h5 (h6.kept _ _)
   have hds : RegKept (mskO ops.toList) act act := ⟨rfl, fun _ _ => rfl, rfl⟩
   have hput := regKept_put ops.toList act
   cases dr with
   | false =>
     simp only at h
     split at h
     ·rename_i s a b n hc
      obtain ⟨h1, h2⟩ := h
      refine region_nil hc hF fun bb hb act' hk hF' => hgoal .normal _ hp C1 w act' ?_ hlo hH hF' (.refl _ _ _) (hk.kept _ _)
      cases bb with
      | true =>
        have := h1.1 (by unfold ieq icast; simp [hb rfl])
        simpa only [setF_eq] using this
      | false =>
        have := h2 () trivial
        simpa only [setF_eq] using this
     ·exact region_text hS hok.1.1 hlo hH hF h hput hds hg
   | true =>
     have h2 := hok.1.2
     simp only [Bool.and_eq_true] at h2
     simp only at h
     have h3 := hok.2
     simp only [Bool.and_eq_true] at h3
     split at h
     ·split at h
      ·rename_i hsel
       exact region_each hS hm hsel (back_spec h2.2) hlo hH hF h hput hds hg
      ·exact h.elim
     split at h
     ·rename_i hsw
      split at h
      ·rename_i hn
       have h4 := h3.2
       have htry : prTry ops.toList = true := by
        unfold needP at hn
        split at hn
        ·assumption
        ·cases hn
       rw [htry] at h4
       exact region_pre hS hm h4 hlo hH hF (back_spec h2.2) h hput hds hg
      split at h
      ·exact region_draw hS hm hok.1.1 h2.1 (back_spec h2.2) hlo hH hF h hput hds hg
      ·rename_i hn
       have h4 := h3.1.2
       have htry : hoTry ops.toList = true := by
        unfold needH at hn
        split at hn
        ·assumption
        ·cases hn
       rw [htry] at h4
       exact region_hoist hS hm h4 hlo hH hF (back_spec h2.2) h hput hds hg
     ·rename_i z hz
      split at h
      ·rename_i hb
       rw [setF_eq] at h
       exact region_sw hS hm (.of hz h3.1.1) hlo (by simpa [Nat.blt_eq] using hb) hH hF h hput hds hg
      ·exact h.elim
 | seq a b iha ihb =>
   intro hok ro rm R fr hp Qv C w act Q hlo hH hF hro h hgoal
   simp only [codeOK, Bool.and_eq_true] at hok
   simp only [wpA] at h
   cases hcut : findS I (cutK b) with
   | some x =>
     obtain ⟨nl, ann⟩ := x
     rw [hcut] at h
     dsimp only at h
     obtain ⟨ha, hb⟩ := h
     refine wpIn_seq (iha hok.1 ro rm R fr hp _ C w act _ hlo hH hF hro ha ?_)
     intro e fr' hp' C' w' act' h1 h2 h3 h4 h5 h6
     have h6' := h6.sub (W' := mskC (.seq a b)) fun t ht => (msk_or ht).1
     cases e with
     | normal =>
       obtain ⟨g, hg, _, hle⟩ := exK_sat h1
       obtain ⟨C3, h7, h8, h9, h10⟩ := hle C' w' h3 h2
       have hb := hb g hg
       simp only [forceL_eq, forceH_eq] at hb
       exact ihb hok.2 ro rm R _ _ Qv C3 w' act' Q h9 h7 (h8 _ h4) (hro.tr h5 hH) hb ((hgoal.step (h5.trans h10) h6' h7).sub fun t ht => (msk_or ht).2)
     | exit id => exact hgoal (.exit id) fr' hp' C' w' act' h1 h2 h3 h4 h5 h6'
     | ret => exact hgoal .ret fr' hp' C' w' act' h1 h2 h3 h4 h5 h6'
   | none =>
     rw [hcut] at h
     dsimp only at h
     refine wpIn_seq (iha hok.1 ro rm R fr hp _ C w act _ hlo hH hF hro h ?_)
     intro e fr' hp' C' w' act' h1 h2 h3 h4 h5 h6
     have h6' := h6.sub (W' := mskC (.seq a b)) fun t ht => (msk_or ht).1
     cases e with
     | normal => exact ihb hok.2 ro rm R fr' hp' Qv C' w' act' Q h2 h3 h4 (hro.tr h5 hH) h1 ((hgoal.step h5 h6' h3).sub fun t ht => (msk_or ht).2)
     | exit id => exact hgoal (.exit id) fr' hp' C' w' act' h1 h2 h3 h4 h5 h6'
     | ret => exact hgoal .ret fr' hp' C' w' act' h1 h2 h3 h4 h5 h6'
 | cond c a b iha ihb =>
   intro hok ro rm R fr hp Qv C w act Q hlo hH hF hro h hgoal
   simp only [codeOK, Bool.and_eq_true] at hok
   simp only [wpA] at h
   have hga := hgoal.sub (W' := mskC a) fun t ht => (msk_or ht).1
   have hgb := hgoal.sub (W' := mskC b) fun t ht => (msk_or ht).2
   split at h
   ·rename_i d
    unfold branchK at h
    have hd := (hF.get d).1
    split at h
    ·rename_i hv
     rw [hv] at hd
     refine wpIn_cond_true (c := .tmp d) ?_ (iha hok.1 ro rm R fr hp Qv C w act Q hlo hH hF hro h hga)
     show act.tmps.getD d undef = _
     generalize act.tmps.getD d undef = u at hd; cases hd; rfl
    ·rename_i hv
     rw [hv] at hd
     refine wpIn_cond_false (c := .tmp d) ?_ (ihb hok.2 ro rm R fr hp Qv C w act Q hlo hH hF hro h hgb)
     show act.tmps.getD d undef = _
     generalize act.tmps.getD d undef = u at hd; cases hd; rfl
    ·rename_i t hv
     rw [hv] at hd
     have hvt : act.tmps.getD d undef = .bool t := by generalize act.tmps.getD d undef = u at hd; cases hd; rfl
     refine wpIn_cond_split (c := .tmp d) hvt (fun ht => ?_) (fun ht => ?_)
     ·have h1 := h.1 ht
      rw [setF_eq] at h1
      exact iha hok.1 ro rm R _ hp Qv C w act Q hlo hH (hF.known (a := .lb true) (.plain (by rw [hvt, ht]; exact .lb _) trivial)) hro h1 hga
     ·have h1 := h.2 ht
      rw [setF_eq] at h1
      exact ihb hok.2 ro rm R _ hp Qv C w act Q hlo hH (hF.known (a := .lb false) (.plain (by rw [hvt, ht]; exact .lb _) trivial)) hro h1 hgb
    ·exact h.elim
   ·exact wpIn_cond_true rfl (iha hok.1 ro rm R fr hp Qv C w act Q hlo hH hF hro h hga)
   ·exact wpIn_cond_false rfl (ihb hok.2 ro rm R fr hp Qv C w act Q hlo hH hF hro h hgb)
   ·exact h.elim
 | block id c ih =>
   intro hok ro rm R fr hp Qv C w act Q hlo hH hF hro h hgoal
   simp only [wpA] at h
   refine wpIn_block (ih hok ro rm R fr hp _ C w act _ hlo hH hF hro h ?_)
   intro e fr' hp' C' w' act' h1 h2 h3 h4 h5 h6
   cases e with
   | normal => exact hgoal .normal fr' hp' C' w' act' h1 h2 h3 h4 h5 h6
   | exit j =>
     simp only at h1
     show (if j = id then Q .normal act' w' else Q (.exit j) act' w')
     split at h1
     ·rename_i hj
      rw [if_pos (Nat.eq_of_beq_eq_true hj).symm]
      exact hgoal .normal fr' hp' C' w' act' h1 h2 h3 h4 h5 h6
     ·rename_i hj
      rw [if_neg (fun e => by subst e; simp at hj)]
      exact hgoal (.exit j) fr' hp' C' w' act' h1 h2 h3 h4 h5 h6
   | ret => exact hgoal .ret fr' hp' C' w' act' h1 h2 h3 h4 h5 h6
 | loop c ih =>
   intro hok ro rm R fr hp Qv C w act Q hlo hH hF hro h hgoal
   simp only [wpA] at h
   split at h
   ·exact snd_iter (ih hok) U hlo hH hF hro h hgoal
   ·rename_i nils ann hann
    obtain ⟨fr, hp, C1, h, hlo, hH, hF, htr⟩ := nilK_sat h hlo hH hF
    obtain ⟨h0, h3⟩ := h
    obtain ⟨g, h1, _, h2⟩ := exK_sat h0
    exact snd_ann (ih hok) (A := ann fr hp) hlo hH hF hro ⟨g, h1, h2⟩ (fun g hg => by have := h3 g hg; simp only [forceL_eq, forceH_eq] at this; exact this) (hgoal.step htr (.refl _ _ _ _) hH)
 | rangeFunc g ps a b iha ihb =>
   intro hok ro rm R fr hp Qv C w act Q hlo hH hF hro h hgoal
   simp only [codeOK, Bool.and_eq_true] at hok
   exact snd_range hS (iha hok.1) (ihb hok.2) hlo hH hF hro h hgoal
 | exit id =>
   intro _ ro rm R fr hp Qv C w act Q hlo hH hF hro h hgoal
   exact wpIn_exit (hgoal (.exit id) fr hp C w act h hlo hH hF (.refl _ _ _) (.refl _ _ _ _))
 | ret =>
   intro _ ro rm R fr hp Qv C w act Q hlo hH hF hro h hgoal
   exact wpIn_ret (hgoal .ret fr hp C w act h hlo hH hF (.refl _ _ _) (.refl _ _ _ _))
 | _ =>
   intro _ ro rm R fr hp Qv C w act Q hlo hH hF hro h hgoal
   exact h.elim
theorem resK_sat {R : AV -> Heap -> Prop} {fr : List AV} {tm : Array Value} {F : ResultVar -> Sem Value} (hF1 : ∀ t, F (.tmp t) = pure (tm.getD t undef)) (hF2 : ∀ a t, F (.cell a t) = (do loadVar t (<- asAddr (tm.getD a undef)))) (hH : HR C hp w) (hF : FR [] C w fr tm) :
  ∀ {l : List ResultVar} {k : List AV -> VC}, (resK P fr hp l k).sat R -> ∃ bs vs, (k bs).sat R /\ RelL C w bs vs /\ (l.mapM F).run P w = .ok vs w
 | [], k, h => ⟨[], [], h, .nil, by simp⟩
 | .tmp t :: l, k, h => by
   obtain ⟨bs, vs, h1, h2, h3⟩ := resK_sat hF1 hF2 hH hF (l := l) h
   refine ⟨_, tm.getD t undef :: vs, h1, .cons _ _ _ _ (hF.get t).1 h2, ?_⟩
   rw [List.mapM_cons, hF1, Sem.run_bind, Sem.run_pure, Result.andThen_ok, Sem.run_bind, h3, Result.andThen_ok, Sem.run_pure]
 | .cell a ty :: l, k, h => by
   simp only [resK] at h
   split at h
   ·rename_i x hx
    obtain ⟨bs, vs, h1, h2, h3⟩ := resK_sat hF1 hF2 hH hF (l := l) h
    obtain ⟨u, hu, hr⟩ := run_load (P := P) hH (fun _ _ => rfl) (hF.get a).1 hx
    have hp' : ∃ ad, tm.getD a undef = .pointer (some ad) := by
     have hra := (hF.get a).1
     generalize getL fr a = b at hra hx
     generalize tm.getD a undef = v at hra
     cases hra <;> first | exact ⟨_, rfl⟩ | simp [loadA] at hx
    obtain ⟨ad, hp'⟩ := hp'
    rw [hp'] at hu
    have hu' : (loadVar ty ad).run P w = .ok u w := by simpa [Instr.loadAt, Instr.sureAddr] using hu
    refine ⟨_, u :: vs, h1, .cons _ _ _ _ hr h2, ?_⟩
    have hcell : (F (.cell a ty)).run P w = .ok u w := by
     rw [hF2, hp']; simpa [asAddr] using hu'
    rw [List.mapM_cons, Sem.run_bind, hcell, Result.andThen_ok, Sem.run_bind, h3, Result.andThen_ok, Sem.run_pure]
   ·exact h.elim
theorem calls_wpF (hS : SumsOK P S) (hm : P.follows .mixedOrders = true) {U : Nat} {I : Anns} {f : FuncId} {fn : Func} {c : Code} (hf : P.funcs[f]? = some fn) (hb : fn.body = some c) (hok : codeOK c = true) {R : AV -> Heap -> Prop} {args : List AV} {vs : List Value}
  (hlo : S.lo <= hp.length) (hH : HR C hp w) (ha : RelL C w args vs) (hng : ∀ t, notGd (getL args t)) (hn : args.length <= fn.ntmps) (h : (wpF P S U I fn args hp).sat R) :
  Calls P f ⟨vs⟩ w fun e w' => ∃ v a hp' C', e = .returned v /\ R a hp' /\ S.lo <= hp'.length /\ HR C' hp' w' /\ Rel C' w' a v /\ Tr S.lo C w C' w' := by
 refine callsIn_wide.1 (callsIn_of_wp_marks (F := fen none) (n := 0) hf hb trivial ?_ rfl)
 unfold wpF at h
 simp only [hb, forceL_eq] at h
 have hpad : ∀ (l : List AV) (n : Nat), l.length <= n -> padL l n = l ++ List.replicate (n - l.length) (.tup []) := by
  intro l
  induction l with
  | nil =>
    intro n _
    induction n with
    | zero => rfl
    | succ n ih => simp only [padL, ih (by simp)]; simp [List.replicate_succ]
  | cons a l ih =>
    intro n hn
    cases n with
    | zero => simp at hn
    | succ n => simp only [padL, ih n (by simpa using hn)]; simp
 rw [hpad _ _ hn] at h
 have hle := ha.len
 have hF : FR [] C w (args ++ List.replicate (fn.ntmps - args.length) (.tup [])) ((⟨vs⟩ : Array Value) ++ Array.replicate (fn.ntmps - (⟨vs⟩ : Array Value).size) undef) := by
  refine ⟨by simp [hle], fun t => ?_⟩
  rw [getL_eq, List.getD_eq_getElem?_getD, Array.getD_eq_getD_getElem?]
  by_cases ht : t < args.length
  ·rw [List.getElem?_append_left ht, Array.getElem?_append_left (by simp; omega)]
   have h1 : args[t]? = some (args[t]'ht) := List.getElem?_eq_getElem _
   obtain ⟨v, h2, h3⟩ := ha.get h1
   rw [h1]
   simp only [List.getElem?_toArray, h2, Option.getD_some]
   refine .plain h3 ?_
   have := hng t
   rwa [getL_eq, List.getD_eq_getElem?_getD, h1] at this
  ·rw [List.getElem?_append_right (by omega), Array.getElem?_append_right (by simp; omega)]
   refine .plain ?_ ?_
   ·have e1 : ((List.replicate (fn.ntmps - args.length) (AV.tup []))[t - args.length]?).getD (.tup []) = .tup [] := by
     rw [List.getElem?_replicate]; split <;> rfl
    have e2 : ((Array.replicate (fn.ntmps - (⟨vs⟩ : Array Value).size) undef)[t - (⟨vs⟩ : Array Value).size]?).getD undef = undef := by
     rw [Array.getElem?_replicate]; split <;> rfl
    rw [e1, e2]
    exact .tup _ _ .nil
   ·rw [List.getElem?_replicate]; split <;> trivial
 refine wpA_sound hS hm c hok none 0 R _ hp _ C w ⟨_, []⟩ _ hlo hH hF (fun l hl => by cases hl) h ?_
 intro e fr' hp' C' w' act' h1 h2 h3 h4 h5 h6
 have key : (resK P fr' hp' fn.results.toList fun l => outK l hp').sat R -> LeavesInM (fen none) 0 P fn act'.tmps (fun e w' => ∃ v a hp' C', e = .returned v /\ R a hp' /\ S.lo <= hp'.length /\ HR C' hp' w' /\ Rel C' w' a v /\ Tr S.lo C w C' w') act'.defers .returning w' := by
  intro hk
  obtain ⟨ms, hms, hnd, hat⟩ := h6.dfs
  rw [hms, List.append_nil]
  clear hms
  revert h3 h4 h5 hat
  generalize w' = w1
  intro h3 h4 h5 hat
  induction ms generalizing w1 with
  | cons b ms ih =>
    have hb := hat b (List.mem_cons_self ..)
    rw [List.nodup_cons] at hnd
    have hcb := CB.putObj (.deferred none) hb.2 rfl
    refine ⟨by simp, .inl ⟨b, _, rfl, run_takeDeferred hb.2, ih hnd.2 _ (h3.cb hcb) (h4.cb hcb) (h5.putObj hb.1 _) fun c hc => ?_⟩⟩
    have h7 := hat c (List.mem_cons_of_mem _ hc)
    exact ⟨h7.1, (World.putObj_heap_other fun e => hnd.1 (by rw [<- e]; exact hc)).trans h7.2⟩
  | nil =>
  have hres : ∃ F : ResultVar -> Sem Value, (∀ t, F (.tmp t) = pure (act'.tmps.getD t undef)) /\ (∀ a t, F (.cell a t) = (do loadVar t (<- asAddr (act'.tmps.getD a undef)))) /\
    results fn act'.tmps = (do let vs <- fn.results.mapM F; pure (if h : vs.size = 1 then vs[0] else .tuple vs)) :=
   ⟨fun x => match x with | .tmp t => pure (act'.tmps.getD t undef) | .cell a t => do loadVar t (<- asAddr (act'.tmps.getD a undef)), fun _ => rfl, fun _ _ => rfl, rfl⟩
  obtain ⟨F, hF1, hF2, hres⟩ := hres
  obtain ⟨bs, us, h7, h8, h9⟩ := resK_sat (P := P) hF1 hF2 h3 h4 hk
  have hrun : (results fn act'.tmps).run P w1 = .ok (if h : us.length = 1 then us[0] else .tuple ⟨us⟩) w1 := by
   rw [hres]
   have e1 : fn.results.mapM F = (List.toArray <$> fn.results.toList.mapM F) := by
    rw [<- List.mapM_toArray]
   rw [e1]
   simp [h9]
  refine ⟨_, hrun, ?_⟩
  unfold outK at h7
  split at h7
  ·rename_i a
   cases h8 with
   | cons _ _ v _ h10 h11 =>
     cases h11
     rw [forceD_eq] at h7
     exact ⟨_, a, hp', C', rfl, h7, h2, h3, by simpa using h10, h5⟩
  ·rename_i hne
   rw [forceLD_eq] at h7
   have : us.length ≠ 1 := by
    rw [<- h8.len]
    intro hl
    obtain ⟨a, rfl⟩ := List.length_eq_one_iff.1 hl
    exact hne a rfl
   rw [dif_neg this]
   exact ⟨_, .tup bs, hp', C', rfl, h7, h2, h3, .tup _ _ h8, h5⟩
 cases e with
 | normal => exact key h1
 | ret => exact key h1
 | exit id => exact h1.elim
end
end Abs
end Go.Proofs.YtlabbaglbcmofaaGreat

namespace Go.Proofs.YtlabbaglbcmofaaGreat
namespace Abs
open Go Go.RowKit
noncomputable section
def forceLDP : {g : List AV -> (List AV -> VC) -> VC // forceLD = g} := ⟨_, by delta forceLD; rfl⟩
def forceLDN : List AV -> (List AV -> VC) -> VC := forceLDP.1
theorem forceLDN_eq : forceLDN = forceLD := forceLDP.2.symm
def forceHP : {g : Heap -> (Heap -> VC) -> VC // forceH = g} := ⟨_, by delta forceH; rfl⟩
def forceHN : Heap -> (Heap -> VC) -> VC := forceHP.1
theorem forceHN_eq : forceHN = forceH := forceHP.2.symm
def needsP : {g : List Cd -> VC -> VC // needs = g} := ⟨_, by delta needs; rfl⟩
def needsN : List Cd -> VC -> VC := needsP.1
theorem needsN_eq : needsN = needs := needsP.2.symm
def needsCP : {g : Bool -> List Cd -> VC -> VC // needsC = g} := ⟨_, by delta needsC; rfl⟩
def needsCN : Bool -> List Cd -> VC -> VC := needsCP.1
theorem needsCN_eq : needsCN = needsC := needsCP.2.symm
def forceTP : {g : List Cnd -> (List Cnd -> VC) -> VC // forceT = g} := ⟨_, by delta forceT; rfl⟩
def forceTN : List Cnd -> (List Cnd -> VC) -> VC := forceTP.1
theorem forceTN_eq : forceTN = forceT := forceTP.2.symm
def lenKP : {g : List Cnd -> (Nat -> VC) -> VC // lenK = g} := ⟨_, by delta lenK; rfl⟩
def lenKN : List Cnd -> (Nat -> VC) -> VC := lenKP.1
theorem lenKN_eq : lenKN = lenK := lenKP.2.symm
def topMP : {g : Nat -> List AV -> Nat -> (List AV -> VC) -> VC // topM = g} := ⟨_, by delta topM; rfl⟩
def topMN : Nat -> List AV -> Nat -> (List AV -> VC) -> VC := topMP.1
theorem topMN_eq : topMN = topM := topMP.2.symm
def setPsP : {g : List Nat -> List AV -> List AV -> (List AV -> VC) -> VC // setPs = g} := ⟨_, by delta setPs; rfl⟩
def setPsN : List Nat -> List AV -> List AV -> (List AV -> VC) -> VC := setPsP.1
theorem setPsN_eq : setPsN = setPs := setPsP.2.symm
def misOP : {g : Nat -> Nat -> List AV -> List AV -> Option (Nat × Nat) // misO = g} := ⟨_, by delta misO; rfl⟩
def misON : Nat -> Nat -> List AV -> List AV -> Option (Nat × Nat) := misOP.1
theorem misON_eq : misON = misO := misOP.2.symm
def leAFP : {g : Nat -> Nat -> Heap -> Heap -> AV -> AV -> VC -> VC // leAF = g} := ⟨_, by delta leAF; rfl⟩
def leAFN : Nat -> Nat -> Heap -> Heap -> AV -> AV -> VC -> VC := leAFP.1
theorem leAFN_eq : leAFN = leAF := leAFP.2.symm
def leBFn (lo n : Nat) (src tgt : Heap) (a b : Blk) (k : VC) : VC :=
 match b with
 | .dead => (match Nat.ble lo n with | true => k | false => (match a with | .dead => k | _ => .fail))
 | .cells t m => (match a with | .cells t' l => (match decide (t = t') with | true => leLW (leAFN 6 lo src tgt) l m k | false => .fail) | _ => .fail)
 | .row e sz n el => (match a with
   | .row e' sz' n' el' => (match decide (e = e' /\ sz = sz') with | true => .need ⟨fun z : Nat × Nat => z.1 = z.2, (n'.val, n.val)⟩ (.need ⟨ElEq, (n.val, el', el)⟩ k) | false => .fail)
   | _ => .fail)
theorem leBFn_eq : leBFn = leBF := by
 funext lo n src tgt a b k
 unfold leBFn leBF
 rw [leAFN_eq]
 rfl
def leHFn (lo : Nat) (src tgt : Heap) : Nat -> Heap -> Heap -> VC -> VC
 | _, [], [], k => k
 | n, _ :: _, [], k => (match Nat.ble lo n with | true => k | false => .fail)
 | n, a :: l, b :: m, k => leBFn lo n src tgt a b (leHFn lo src tgt (n + 1) l m k)
 | _, [], _ :: _, _ => .fail
theorem leHFn_eq (lo : Nat) (src tgt : Heap) : ∀ (n : Nat) (l m : Heap) (k : VC), leHFn lo src tgt n l m k = leHF lo src tgt n l m k
 | n, [], [], k => by simp only [leHFn, leHF]
 | n, _ :: _, [], k => by simp only [leHFn, leHF]; rfl
 | n, a :: l, b :: m, k => by simp only [leHFn, leHF, leBFn_eq, leHFn_eq lo src tgt (n + 1) l m k]
 | n, [], _ :: _, k => by simp only [leHFn, leHF]
def leHFnP : {g : Nat -> Heap -> Heap -> Nat -> Heap -> Heap -> VC -> VC // leHFn = g} := ⟨_, by delta leHFn; rfl⟩
def leHFnN : Nat -> Heap -> Heap -> Nat -> Heap -> Heap -> VC -> VC := leHFnP.1
theorem leHFnN_eq : leHFnN = leHFn := leHFnP.2.symm
def leSFn (lo : Nat) (fr : List AV) (hp : Heap) (s : AS) : VC := leLW (leAFN 6 lo hp s.hp) fr s.fr (leHFnN lo hp s.hp 0 hp s.hp .done)
theorem leSFn_eq (lo : Nat) (fr : List AV) (hp : Heap) (s : AS) : leSFn lo fr hp s = leSF lo fr hp s := by
 unfold leSFn leSF
 rw [leAFN_eq, leHFnN_eq, leHFn_eq]
def hpLenK (hp : Heap) (k : Nat -> VC) : VC := match hp with
 | [] => k 0
 | [_] => k 1
 | [_, _] => k 2
 | [_, _, _] => k 3
 | [_, _, _, _] => k 4
 | [_, _, _, _, _] => k 5
 | [_, _, _, _, _, _] => k 6
 | [_, _, _, _, _, _, _] => k 7
 | [_, _, _, _, _, _, _, _] => k 8
 | [_, _, _, _, _, _, _, _, _] => k 9
 | [_, _, _, _, _, _, _, _, _, _] => k 10
 | [_, _, _, _, _, _, _, _, _, _, _] => k 11
 | [_, _, _, _, _, _, _, _, _, _, _, _] => k 12
 | [_, _, _, _, _, _, _, _, _, _, _, _, _] => k 13
 | [_, _, _, _, _, _, _, _, _, _, _, _, _, _] => k 14
 | [_, _, _, _, _, _, _, _, _, _, _, _, _, _, _] => k 15
 | [_, _, _, _, _, _, _, _, _, _, _, _, _, _, _, _] => k 16
 | l => k l.length
theorem hpLenK_eq (hp : Heap) (k : Nat -> VC) : hpLenK hp k = k hp.length := by
 unfold hpLenK
 split <;> rfl
def swKn (lo : Nat) (f2 fr : List AV) (hp : Heap) (K : List AV -> Heap -> VC) : VC := match misON lo hp.length f2 fr with
 | none => K fr hp
 | some (i, j) => forceLDN (swA.swL i j fr) fun fr' => forceHN (swH i j hp) fun hp' => K fr' hp'
theorem swKn_eq (lo : Nat) (f2 fr : List AV) (hp : Heap) (K : List AV -> Heap -> VC) : swKn lo f2 fr hp K = swK lo f2 fr hp K := by
 unfold swKn swK
 rw [misON_eq, forceLDN_eq, forceHN_eq]
 rfl
def exKn (lo : Nat) (A : Ann) (m : Option Nat) (fr : List AV) (hp : Heap) : VC :=
 .ex (A := A) A.dat m fun g => forceL (A.st g).fr fun f2 => forceHN (A.st g).hp fun h2 => swKn lo f2 fr hp fun fr hp => leSFn lo fr hp ⟨f2, h2⟩
theorem exKn_eq (lo : Nat) (A : Ann) (m : Option Nat) (fr : List AV) (hp : Heap) : exKn lo A m fr hp = exK lo A m fr hp := by
 unfold exKn exK
 congr 1
 funext g
 simp only [forceHN_eq, swKn_eq, leSFn_eq]
def exRn (lo : Nat) (A : Ann) (i : Nat) (fr : List AV) (hp : Heap) : VC :=
 .ex (A := A) A.dat none fun g => .need ⟨fun z : Nat × Nat => z.1 = z.2, (A.mu g, i)⟩ (forceL (A.st g).fr fun f2 => forceHN (A.st g).hp fun h2 => swKn lo f2 fr hp fun fr hp => leSFn lo fr hp ⟨f2, h2⟩)
theorem exRn_eq (lo : Nat) (A : Ann) (i : Nat) (fr : List AV) (hp : Heap) : exRn lo A i fr hp = exR lo A i fr hp := by
 unfold exRn exR
 congr 1
 funext g
 simp only [forceHN_eq, swKn_eq, leSFn_eq]
def nilKn : List (Nat × TypeId × Nat) -> List AV -> Heap -> (List AV -> Heap -> VC) -> VC
 | [], fr, hp, K => K fr hp
 | (t, e, sz) :: l, fr, hp, K => (match isNilS (getL fr t), sz with
   | true, _ + 1 => hpLenK hp fun n => setF fr t (.row n) fun fr' => forceHN (appH hp [.row e sz (.lit 0) (fun _ => [])]) fun hp' => nilKn l fr' hp' K
   | _, _ => nilKn l fr hp K)
theorem nilKn_eq : ∀ (l : List (Nat × TypeId × Nat)) (fr : List AV) (hp : Heap) (K : List AV -> Heap -> VC), nilKn l fr hp K = nilK l fr hp K
 | [], _, _, _ => rfl
 | (t, e, sz) :: l, fr, hp, K => by
   have ih : ∀ fr hp, nilKn l fr hp K = nilK l fr hp K := fun fr hp => nilKn_eq l fr hp K
   simp only [nilKn, nilK, forceHN_eq, hpLenK_eq, ih]
   rfl
def nilKnP : {g : List (Nat × TypeId × Nat) -> List AV -> Heap -> (List AV -> Heap -> VC) -> VC // nilKn = g} := ⟨_, by delta nilKn; rfl⟩
def nilKnN : List (Nat × TypeId × Nat) -> List AV -> Heap -> (List AV -> Heap -> VC) -> VC := nilKnP.1
theorem nilKnN_eq : nilKnN = nilKn := nilKnP.2.symm
def shiftAP : {g : Nat -> AV -> AV // shiftA = g} := ⟨_, by delta shiftA; rfl⟩
def shiftAN : Nat -> AV -> AV := shiftAP.1
theorem shiftAN_eq : shiftAN = shiftA := shiftAP.2.symm
def shiftA_shiftLP : {g : Nat -> List AV -> List AV // shiftA.shiftL = g} := ⟨_, by delta shiftA.shiftL; rfl⟩
def shiftA_shiftLN : Nat -> List AV -> List AV := shiftA_shiftLP.1
theorem shiftA_shiftLN_eq : shiftA_shiftLN = shiftA.shiftL := shiftA_shiftLP.2.symm
def shBP : {g : AV -> Bool // shB = g} := ⟨_, by delta shB; rfl⟩
def shBN : AV -> Bool := shBP.1
theorem shBN_eq : shBN = shB := shBP.2.symm
def shB_shBLP : {g : List AV -> Bool // shB.shBL = g} := ⟨_, by delta shB.shBL; rfl⟩
def shB_shBLN : List AV -> Bool := shB_shBLP.1
theorem shB_shBLN_eq : shB_shBLN = shB.shBL := shB_shBLP.2.symm
def plainAP : {g : AV -> Bool // plainA = g} := ⟨_, by delta plainA; rfl⟩
def plainAN : AV -> Bool := plainAP.1
theorem plainAN_eq : plainAN = plainA := plainAP.2.symm
def plainA_plainLP : {g : List AV -> Bool // plainA.plainL = g} := ⟨_, by delta plainA.plainL; rfl⟩
def plainA_plainLN : List AV -> Bool := plainA_plainLP.1
theorem plainA_plainLN_eq : plainA_plainLN = plainA.plainL := plainA_plainLP.2.symm
def shiftHn (b : Nat) : Heap -> Heap
 | [] => []
 | .cells t c :: l => .cells t (shiftA_shiftLN b c) :: shiftHn b l
 | x :: l => x :: shiftHn b l
theorem shiftHn_eq (b : Nat) : ∀ l, shiftHn b l = shiftH b l
 | [] => rfl
 | .cells t c :: l => by simp only [shiftHn, shiftH, shiftA_shiftLN_eq, shiftHn_eq b l]
 | .row _ _ _ _ :: l => by simp only [shiftHn, shiftH, shiftHn_eq b l]
 | .dead :: l => by simp only [shiftHn, shiftH, shiftHn_eq b l]
def plainHn : Heap -> Bool
 | [] => true
 | .dead :: l => plainHn l
 | .cells _ c :: l => plainA_plainLN c && plainHn l
 | .row _ _ _ _ :: l => plainHn l
theorem plainHn_eq : ∀ l, plainHn l = plainH l
 | [] => rfl
 | .cells t c :: l => by simp only [plainHn, plainH, plainA_plainLN_eq, plainHn_eq l]
 | .row _ _ _ _ :: l => by simp only [plainHn, plainH, plainHn_eq l]
 | .dead :: l => by simp only [plainHn, plainH, plainHn_eq l]
def shBHn : Heap -> Bool
 | [] => true
 | .dead :: l => shBHn l
 | .cells _ c :: l => shB_shBLN c && shBHn l
 | .row _ _ _ _ :: l => shBHn l
theorem shBHn_eq : ∀ l, shBHn l = shBH l
 | [] => rfl
 | .cells t c :: l => by simp only [shBHn, shBH, shB_shBLN_eq, shBHn_eq l]
 | .row _ _ _ _ :: l => by simp only [shBHn, shBH, shBHn_eq l]
 | .dead :: l => by simp only [shBHn, shBH, shBHn_eq l]
def callOKn (args : List AV) (res : AV) (new : Heap) : Bool := match ownIn.ownInL args with | false => shBN res && shBHn new | true => plainAN res && plainHn new
theorem callOKn_eq : callOKn = callOK := by
 funext args res new
 unfold callOKn callOK
 simp only [shBN_eq, shBHn_eq, plainAN_eq, plainHn_eq]
 rfl
def vcCn (S : Sums) (k : Nat) (c : Bool) (r : AR) (hp : Heap) (K : Heap -> AV -> VC) : VC :=
 match r with
 | .val a => forceD a fun a' => K hp (.gd k a')
 | .need p r => .need (p.under c) (vcCn S k c r hp K)
 | .br b t e => .branch b (vcCn S k c t hp K) (vcCn S k c e hp K)
 | .blk b mk => hpLenK hp fun n => forceHN (appH hp [b]) fun hp' => K hp' (.gd k (mk n))
 | .call f args => (match findS S.two f with
   | some _ => .fail
   | none => (match findS S.one f with
     | some s1 => forceLDN (mapE hp args) fun args' => (match s1 args' with
       | some ⟨pre, res, new⟩ => (match callOKn args res new with
         | true => needsCN c pre (needsCN c (callNeeds args new) (hpLenK hp fun n => forceHN (appH hp (shiftHn n new)) fun hp' => forceD (shiftAN n res) fun a => K hp' (.gd k a)))
         | false => .fail)
       | none => .fail)
     | none => .fail))
 | _ => .fail
theorem vcCn_eq (S : Sums) (k : Nat) (c : Bool) : ∀ (r : AR) (hp : Heap) (K : Heap -> AV -> VC), vcCn S k c r hp K = r.vcC S k c hp K
 | .fail, _, _ => rfl
 | .val a, _, _ => rfl
 | .need p r, hp, K => by simp only [vcCn, AR.vcC, vcCn_eq S k c r hp K]
 | .br b t e, hp, K => by simp only [vcCn, AR.vcC, vcCn_eq S k c t hp K, vcCn_eq S k c e hp K]
 | .blk b mk, hp, K => by simp only [vcCn, AR.vcC, forceHN_eq, hpLenK_eq]
 | .upd _ _, _, _ => rfl
 | .grow _ _, _, _ => rfl
 | .frz _ _ _, _, _ => rfl
 | .call f args, hp, K => by simp only [vcCn, AR.vcC, forceHN_eq, hpLenK_eq, forceLDN_eq, needsCN_eq, callOKn_eq, shiftHn_eq, shiftAN_eq]; rfl
def vcCnP : {g : Sums -> Nat -> Bool -> AR -> Heap -> (Heap -> AV -> VC) -> VC // vcCn = g} := ⟨_, by delta vcCn; rfl⟩
def vcCnN : Sums -> Nat -> Bool -> AR -> Heap -> (Heap -> AV -> VC) -> VC := vcCnP.1
theorem vcCnN_eq : vcCnN = vcCn := vcCnP.2.symm
end
end Abs
end Go.Proofs.YtlabbaglbcmofaaGreat
