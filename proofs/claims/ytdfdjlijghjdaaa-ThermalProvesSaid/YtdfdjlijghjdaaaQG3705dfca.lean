/- A part of the proof: no statement of its own. -/
import Derived.Test.YtdfdjlijghjdaaaQG935bb13b
set_option linter.unusedSimpArgs false
set_option linter.unusedVariables false
namespace Go.Proofs.Ytdfdjlijghjdaaa
namespace Abs
open Go Go.RowKit
section
variable {P : Program} {S : Sums} {C C' C1 : Cx} {w w' : World} {H hp : Heap}
theorem FnJ.focus {f : FuncId} {args : List AV} {js : List Nat} {res : AV} {h1 : Heap} (hnd : nodupB js = true) (hoa : okR.okRL (fun i => memN i js) args = true) (hoh : okSub js hp js = true)
  (hor : okR (fun _ => true) res = true) (ho1 : okRH (fun _ => true) h1 = true) {m jc : Nat} (hjm : js[m]? = some jc) (hml : m + 1 = js.length) (hjc : jc < hp.length)
  (h : FnJ P f (renA.renL (posD js) args) (subH js hp js) res h1 m) :
  FnJ P f args hp (renA (outN js hp.length) res) (putH js (outN js hp.length) h1 0 (mapH (at1 jc .top) hp) ++ newH (outN js hp.length) js.length h1) jc := by
 intro C w vs hO hH ha
 have hpos : ∀ i q, memN i js = true -> C.ρ i = some q -> (⟨fun k => match js[k]? with | some i => C.ρ i | none => none, C.I, fun _ => none⟩ : Cx).ρ (posD js i) = some q := fun i q hm hq => by
  simp only [pos_mem hm]; exact hq
 have hC0 : ∀ k q, (⟨fun k => match js[k]? with | some i => C.ρ i | none => none, C.I, fun _ => none⟩ : Cx).ρ k = some q -> ∃ i, js[k]? = some i /\ C.ρ i = some q := fun k q hq => by
  simp only at hq
  split at hq
  ·rename_i i hi; exact ⟨i, hi, hq⟩
  ·cases hq
 have hH0 : HR (⟨fun k => match js[k]? with | some i => C.ρ i | none => none, C.I, fun _ => none⟩ : Cx) (subH js hp js) w := by
  refine ⟨fun k q hq => ?_, fun k k' b c n b' c' n' hq hq' hne => ?_, fun k b c n hq => ?_, hH.ilt, fun b x h => by cases h⟩
  ·obtain ⟨i, hi, hq⟩ := hC0 k q hq
   rw [getB_sub js hp js k i hi]
   exact ren_brel hpos (fun _ h => h) (hH.live i q hq) (ok_sub js hp js k i hoh hi)
  ·obtain ⟨i, hi, hq⟩ := hC0 _ _ hq
   obtain ⟨i', hi', hq'⟩ := hC0 _ _ hq'
   exact hH.inj i i' _ _ _ _ _ _ hq hq' fun e => hne (by subst e; exact nodup_inj hnd hi hi')
  ·obtain ⟨i, hi, hq⟩ := hC0 _ _ hq
   exact hH.fresh _ _ _ _ hq
 have hm0 : (⟨fun k => match js[k]? with | some i => C.ρ i | none => none, C.I, fun _ => none⟩ : Cx).ρ m = C.ρ jc := by simp only [hjm]
 refine (h _ w vs (fun _ => rfl) hH0 (ren_relL hpos (fun _ h => h) ha hoa)).mono ?_
 rintro e w' ⟨v, C1, he, h2, h3, h4⟩
 rw [len_sub] at h4
 have hlt : ∀ {i : Nat} {p : Pl}, C.ρ i = some p -> i < hp.length := fun hi => hH.lt hi
 obtain ⟨C', hC'⟩ : ∃ C' : Cx, C' = ⟨fun i => if i < hp.length then (if i = jc then C1.ρ m else C.ρ i) else C1.ρ (i - hp.length + js.length), C1.I, C1.O⟩ := ⟨_, rfl⟩
 have hI' : C'.I = C1.I := by rw [hC']
 have hO' : C'.O = C1.O := by rw [hC']
 have hold : ∀ {i : Nat}, i < hp.length -> i ≠ jc -> C'.ρ i = C.ρ i := fun hi hne => by rw [hC']; simp [hi, hne]
 have hrow : C'.ρ jc = C1.ρ m := by rw [hC']; simp [hjc]
 have hnew : ∀ {i : Nat}, hp.length <= i -> C'.ρ i = C1.ρ (i - hp.length + js.length) := fun {i} hi => by rw [hC']; show (if i < hp.length then _ else _) = _; rw [if_neg (by omega)]
 have hn1 : ∀ {i : Nat}, (i = jc \/ hp.length <= i) -> ∃ k, C'.ρ i = C1.ρ k /\ (k = m \/ js.length <= k) /\ ((i = jc /\ k = m) \/ (hp.length <= i /\ k = i - hp.length + js.length)) := fun {i} hi => by
  rcases hi with rfl | hi
  ·exact ⟨m, hrow, .inl rfl, .inl ⟨rfl, rfl⟩⟩
  ·exact ⟨_, hnew hi, .inr (by omega), .inr ⟨hi, rfl⟩⟩
 have hρ1 : ∀ k i, js[k]? = some i -> k ≠ m -> C1.ρ k = C.ρ i := fun k i hi hk => by
  rw [h4.rho k (List.getElem?_eq_some_iff.1 hi).1 hk]; simp only [hi]
 have hjk : ∀ {k i : Nat}, js[k]? = some i -> k ≠ m -> i ≠ jc := fun hi hk e => hk (by subst e; exact nodup_inj hnd hi hjm)
 have hs : SinceJ jc hp.length C w C' w' := by
  refine ⟨hjc, h4.os, h4.tape, h4.output, h4.size, fun k hk hn => h4.keep k hk fun k' b c n hq => ?_, fun b hb => by rw [hI']; exact h4.imm b hb, fun b hb => ?_, fun i hi hne => hold hi hne, fun i b c n hi hq => ?_, fun b x hb => ?_⟩
  ·obtain ⟨i, _, hq⟩ := hC0 _ _ hq
   exact hn i b c n hq
  ·rw [hI'] at hb
   rcases h4.imm' b hb with h5 | h5 | ⟨c, n, h5⟩
   ·exact .inl h5
   ·exact .inr (.inl h5)
   ·exact .inr (.inr ⟨c, n, by rw [<- hm0]; exact h5⟩)
  ·obtain ⟨k, e1, e2, _⟩ := hn1 hi
   rw [e1] at hq
   rcases h4.own k b c n e2 hq with ⟨c', n', h5⟩ | h5
   ·exact .inl ⟨c', n', by rw [<- hm0]; exact h5⟩
   ·exact .inr h5
  ·rw [hO'] at hb
   rcases h4.sub b x hb with h5 | ⟨c, n, h5⟩
   ·exact .inl h5
   ·exact .inr ⟨c, n, by rw [<- hm0]; exact h5⟩
 have hout : ∀ k q, (fun _ : Nat => true) k = true -> C1.ρ k = some q -> C'.ρ (outN js hp.length k) = some q := fun k q _ hq => by
  unfold outN
  cases hk : js[k]? with
  | some i =>
    by_cases hkm : k = m
    ·subst hkm
     rw [hjm] at hk; injection hk with hk; subst hk
     rw [hrow]; exact hq
    ·rw [hρ1 k i hk hkm] at hq
     rw [hold (hlt hq) (hjk hk hkm)]; exact hq
  | none =>
    have := List.getElem?_eq_none_iff.1 hk
    show C'.ρ (hp.length + (k - js.length)) = some q
    rw [hnew (by omega), show hp.length + (k - js.length) - hp.length + js.length = k by omega]; exact hq
 have hlen := len_put js (outN js hp.length) h1 0 (mapH (at1 jc .top) hp)
 rw [len_mapH] at hlen
 obtain ⟨ht, hx⟩ := hs.turn hH
 refine ⟨v, C', he, ⟨fun i q hi => ?_, fun i j b c n b' c' n' hi hj hne => ?_, fun i b c n hi => ?_, fun b hb => h2.ilt b (by rw [hI'] at hb; exact hb), fun b x hb => ?_⟩, ren_rel hout (fun _ h => by rw [hI']; exact h) h3 hor, hs⟩
 ·by_cases hin : i < hp.length
  ·rw [getB_eq, List.getD_eq_getElem?_getD, List.getElem?_append_left (by omega), <- List.getD_eq_getElem?_getD, <- getB_eq, getB_put _ _ _ _ _ _ (by rw [len_mapH]; exact hin), Nat.zero_add]
   cases hm : memN i js with
   | true =>
     have hk := pos_mem hm
     have hq : C1.ρ (posD js i) = some q := by
      by_cases hij : i = jc
      ·subst hij
       have : posD js i = m := nodup_inj hnd hk hjm
       rw [this, <- hrow]; exact hi
      ·have hpm : posD js i ≠ m := fun e => hij (by rw [e, hjm] at hk; injection hk with hk; exact hk.symm)
       rw [hρ1 _ _ hk hpm, <- hold hin hij]; exact hi
     exact ren_brel hout (fun _ h => by rw [hI']; exact h) (h2.live (posD js i) q hq) (okRH_get ho1)
   | false =>
     have hij : i ≠ jc := fun e => by subst e; rw [mem_get hjm] at hm; cases hm
     have hq : C.ρ i = some q := by rw [<- hold hin hij]; exact hi
     rw [getB_mapH]
     refine ((ht.brel (fun b c n e => ?_) (fun b x hb => by rw [hO b] at hb; cases hb) (hH.live i q hq))).mono hx (fun _ _ _ _ => rfl) fun b x hb => ⟨hb, rfl⟩
     subst e
     refine h4.keep b (hH.fresh _ _ _ _ hq).1 fun k b' c' n' hq' e => ?_
     obtain ⟨i', hi', hq'⟩ := hC0 _ _ hq'
     subst e
     have : i ≠ i' := fun e => by subst e; rw [mem_get hi'] at hm; cases hm
     exact hH.inj _ _ _ _ _ _ _ _ hq hq' this rfl
  ·rw [getB_eq, List.getD_eq_getElem?_getD, List.getElem?_append_right (by omega), <- List.getD_eq_getElem?_getD, <- getB_eq, hlen, getB_new]
   exact ren_brel hout (fun _ h => by rw [hI']; exact h) (h2.live _ q (by rw [<- hnew (by omega)]; exact hi)) (okRH_get ho1)
 ·have two : ∀ {i j b c n b' c' n'}, i < hp.length -> i ≠ jc -> (j = jc \/ hp.length <= j) -> C'.ρ i = some (.at b c n) -> C'.ρ j = some (.at b' c' n') -> b ≠ b' := fun {i j b c n b' c' n'} hi hne hj h5 h6 => by
   rw [hold hi hne] at h5
   rcases hs.own j b' c' n' hj h6 with ⟨c2, n2, h7⟩ | h7
   ·exact hH.inj _ _ _ _ _ _ _ _ h5 h7 hne
   ·have := (hH.fresh _ _ _ _ h5).1; omega
  by_cases hi' : i = jc \/ hp.length <= i <;> by_cases hj' : j = jc \/ hp.length <= j
  ·obtain ⟨k, e1, _, e2⟩ := hn1 hi'
   obtain ⟨k', e1', _, e2'⟩ := hn1 hj'
   rw [e1] at hi; rw [e1'] at hj
   exact h2.inj _ _ _ _ _ _ _ _ hi hj (by omega)
  ·exact fun e => two (by omega) (by omega) hi' hj hi e.symm
  ·exact two (by omega) (by omega) hj' hi hj
  ·rw [hold (by omega) (by omega)] at hi hj
   exact hH.inj _ _ _ _ _ _ _ _ hi hj hne
 ·rw [hI']
  by_cases hi' : i = jc \/ hp.length <= i
  ·obtain ⟨k, e1, _⟩ := hn1 hi'
   rw [e1] at hi
   exact h2.fresh _ _ _ _ hi
  ·rw [hold (by omega) (by omega)] at hi
   have h5 := hH.fresh _ _ _ _ hi
   refine ⟨Nat.lt_of_lt_of_le h5.1 h4.size, fun hI => ?_⟩
   rcases h4.imm' b hI with h6 | h6 | ⟨c2, n2, h6⟩
   ·exact h5.2 h6
   ·omega
   ·rw [hm0] at h6
    exact hH.inj i jc _ _ _ _ _ _ hi h6 (by omega) rfl
 ·rw [hO'] at hb
  obtain ⟨s1, s2, s3, s4⟩ := h2.sub b x hb
  refine ⟨s1, by rw [hI']; exact s2, fun i b' c n hi => ?_, s4⟩
  by_cases hi' : i = jc \/ hp.length <= i
  ·obtain ⟨k, e1, _⟩ := hn1 hi'
   rw [e1] at hi
   exact s3 _ _ _ _ hi
  ·rw [hold (by omega) (by omega)] at hi
   have h5 := hH.fresh _ _ _ _ hi
   rcases h4.sub b x hb with h6 | ⟨c2, n2, h6⟩
   ·omega
   ·rw [hm0] at h6
    exact hH.inj i jc _ _ _ _ _ _ hi h6 (by omega)
theorem FnJ.weaken {f : FuncId} {args args' : List AV} {r : AV} {H' : Heap} {j : Nat} (h : FnJ P f args' H r H' j) (hw : ∀ (C : Cx) (w : World) (vs : List Value), RelL C w args vs -> RelL C w args' vs) : FnJ P f args H r H' j :=
 fun C w vs hO hH ha => h C w vs hO hH (hw C w vs ha)
theorem FnJ.weakenH {f : FuncId} {args : List AV} {H0 : Heap} {r : AV} {H' : Heap} {j : Nat} (h : FnJ P f args H0 r H' j) (hl : H0.length = H.length) (hw : ∀ (C : Cx) (w : World) (i : Nat) (q : Pl), BRel C w q (getB H i) -> BRel C w q (getB H0 i)) : FnJ P f args H r H' j :=
 fun C w vs hO hH ha => (h C w vs hO ⟨fun i q hi => hw C w i q (hH.live i q hi), hH.inj, hH.fresh, hH.ilt, hH.sub⟩ ha).mono fun _e _w' ⟨v, C', h1, h2, h3, h4⟩ => ⟨v, C', h1, h2, h3, hl ▸ h4⟩
def FnSatJ (P : Program) (S : Sums) (U : Nat) (I : Anns) (fn : Func) (args : List AV) (H : Heap) (r : AV) (H' : Heap) : Prop :=
 (wpFT P S U I fn args H).sat fun a hp => (leS S.lo [a] hp ⟨[r], H'⟩).sat fun _ _ => True
theorem FnJ.of (hS : SumsOK P S) (hm : P.follows .mixedOrders = true) {U : Nat} {I : Anns} {f : FuncId} {fn : Func} {c : Code} (hf : P.funcs[f]? = some fn) (hb : fn.body = some c) (hok : codeOK c = true) {args : List AV} {r : AV} {H' : Heap}
  (hlo : S.lo + 1 = H.length) (hng : ∀ t, notGd (getL args t)) (hn : args.length <= fn.ntmps) (h : FnSatJ P S U I fn args H r H') : FnJ P f args H r H' S.lo := by
 intro C w vs hO hH ha
 refine (calls_wpF hS hm hf hb hok (by omega) hH ha hng hn (wpFT_sat h)).mono ?_
 rintro e w' ⟨v, a, hp', C1, he, hle, h1, h2, h3, h4⟩
 obtain ⟨h5, h6, h7, h8⟩ := leS_sat hle h2 h1
 have h9 : Rel (C1.cut S.lo H') w' r v := by
  unfold leS at hle
  unfold leL at hle
  exact ((leA_sat hle).2 C1 w' h2 v h3).1
 have t := h4.trans h8
 have hj : ∀ {i b c n}, S.lo <= i -> C.ρ i = some (.at b c n) -> i = S.lo := fun hi hq => by have := hH.lt hq; omega
 refine ⟨v, _, he, h5, h9, by omega, t.os, t.tape, t.output, t.size, fun k hk hn => t.keep k hk hn (hO k), t.imm, fun b hb => ?_, fun i hi hne => t.rho i (by omega), fun i b c n hi hq => ?_, fun b x hb => ?_⟩
 ·rcases t.imm' b hb with h | (h | ⟨x, h⟩) | ⟨i, c, n, hi, hq⟩
  ·exact .inl h
  ·exact .inr (.inl h)
  ·rw [hO b] at h; cases h
  ·obtain rfl := hj hi hq
   exact .inr (.inr ⟨c, n, hq⟩)
 ·rcases t.own i b c n (by omega) hq with ⟨j, c', n', hj', hq'⟩ | h | ⟨x, h⟩
  ·obtain rfl := hj hj' hq'
   exact .inl ⟨c', n', hq'⟩
  ·exact .inr h
  ·rw [hO b] at h; cases h
 ·rcases t.sub b x hb with ⟨y, h⟩ | h | ⟨i, c, n, hi, hq⟩
  ·rw [hO b] at h; cases h
  ·exact .inl h
  ·obtain rfl := hj hi hq
   exact .inr ⟨c, n, hq⟩
end
noncomputable section
def isRowB : Blk -> Bool
 | .row _ _ _ _ => true
 | _ => false
def rowsN (hp : Heap) : List Nat -> List Nat
 | [] => []
 | j :: l => (match isRowB (getB hp j) with | true => j :: rowsN hp l | false => rowsN hp l)
def restN (hp : Heap) (r : List Nat) : List Nat -> List Nat
 | [] => r
 | j :: l => (match isRowB (getB hp j) with | true => restN hp r l | false => j :: restN hp r l)
def lastN : List Nat -> Nat
 | [] => 0
 | j :: l => (match l with | [] => j | _ => lastN l)
def mkSumJ (obs : List OB) (shs : List Sh) (sp : SpecF obs shs) : Summ2 := fun args hp =>
 forceN (addJ [] (refsA_refsLN args)) fun j1 => forceN (addJ j1 (refsH hp j1)) fun j2 => forceN (restN hp (rowsN hp j2) j2) fun js =>
 match nodupB js && okR_okRLN (fun i => memN i js) args && okSub js hp js && okHB obs (subH js hp js) && okShLN shs (renA_renLN (posD js) args) && (Nat.blt 0 js.length && Nat.blt (lastN js) hp.length) with
 | true => decHK obs (subH js hp js) fun o => decKLN shs (renA_renLN (posD js) args) fun x =>
   (match okRN (fun _ => true) (sp.res o x) && okRH (fun _ => true) (sp.after o x) with
   | true => some ⟨appP (canHB obs (subH js hp js)) (appP (canShLN shs (renA_renLN (posD js) args)) [⟨fun z : DatH obs × DatL shs => sp.pre z.1 z.2, (o, x)⟩]),
     renAN (outN js hp.length) (sp.res o x), putH js (outN js hp.length) (sp.after o x) 0 (mapH (at1 (lastN js) .top) hp) ++ newH (outN js hp.length) js.length (sp.after o x), some (lastN js)⟩
   | false => none)
 | false => none
end
section
variable {P : Program} {S : Sums}
theorem lastN_get : ∀ {js : List Nat}, 0 < js.length -> js[js.length - 1]? = some (lastN js)
 | [], h => by simp at h
 | [j], _ => rfl
 | j :: k :: l, _ => by
   have := lastN_get (js := k :: l) (by simp)
   simpa [lastN] using this
def FnSpecJ (P : Program) (f : FuncId) (obs : List OB) (shs : List Sh) (sp : SpecF obs shs) : Prop :=
 ∀ o x, sp.pre o x -> FnJ P f (encL shs x) (encH obs o) (sp.res o x) (sp.after o x) (obs.length - 1)
theorem mkSumJ_ok {f : FuncId} {obs : List OB} {shs : List Sh} {sp : SpecF obs shs} (h : FnSpecJ P f obs shs sp) : Summ2OK P f (mkSumJ obs shs sp) := by
 intro args hp pre res hp' mv hm hpre
 unfold mkSumJ at hm
 simp only [okShLN_eq, decKLN_eq, canShLN_eq, okR_okRLN_eq, okRN_eq, renA_renLN_eq, renAN_eq, refsA_refsLN_eq] at hm
 rw [forceN_eq, forceN_eq, forceN_eq] at hm
 generalize restN hp _ _ = js at hm
 split at hm
 ·rename_i hok
  simp only [Bool.and_eq_true] at hok
  obtain ⟨⟨⟨⟨⟨h1, h2⟩, h3⟩, h4⟩, h5⟩, hjl, hjc⟩ := hok
  have hjl : 0 < js.length := by simpa [Nat.blt_eq] using hjl
  have hjc : lastN js < hp.length := by simpa [Nat.blt_eq] using hjc
  have hlen : obs.length = js.length := by
   have := len_encH h4
   rw [encH_len, len_sub] at this
   exact this
  rw [decHK_eq h4, decKL_eq h5] at hm
  split at hm
  ·rename_i h6
   simp only [Bool.and_eq_true] at h6
   injection hm with hm; injection hm with e1 e2 e3 e4
   subst e1 e2 e3 e4
   obtain ⟨h7, h8⟩ := appP_mem hpre
   obtain ⟨h9, h10⟩ := appP_mem h8
   have := h _ _ (h10 _ (List.mem_singleton.2 rfl))
   rw [hlen] at this
   refine FnJ.focus h1 h2 h3 h6.1 h6.2 (lastN_get hjl) (by omega) hjc ?_
   exact (this.weakenH (len_encH h4) fun C w i q => enc_decH h4 h7 i).weaken fun C w vs ha => encL_dec (can_shL h5 h9) ha
  ·cases hm
 ·cases hm
theorem FnSpecJ.of {one : List (Nat × Summ)} {two : List (Nat × Summ2)} {lo : Nat} {eqs : List (Nat × List (Option IntKind))} {its : List (Nat × Iter)} {imm : List Nat} (hS : SumsOK P ⟨one, two, lo, eqs, its, imm⟩) (hm : P.follows .mixedOrders = true) {obs : List OB} {shs : List Sh} {U : Nat} {I : DatH obs -> DatL shs -> Anns} {f : FuncId} {fn : Func} {c : Code} (hf : P.funcs[f]? = some fn) (hb : fn.body = some c) (hok : codeOK c = true) {sp : SpecF obs shs}
  (hany : noAny shs = true) (hn : shs.length <= fn.ntmps) (ho : 0 < obs.length) (h : ∀ o x, sp.pre o x -> FnSatJ P ⟨one, two, obs.length - 1, eqs, its, imm⟩ U (I o x) fn (encL shs x) (encH obs o) (sp.res o x) (sp.after o x)) : FnSpecJ P f obs shs sp :=
 fun o x hx => FnJ.of (hS.setLo (obs.length - 1)) hm hf hb hok (by rw [encH_len]; show obs.length - 1 + 1 = _; omega) (encL_ng hany) (by rw [encL_len]; exact hn) (h o x hx)
end
end Abs
end Go.Proofs.Ytdfdjlijghjdaaa

namespace Go.Proofs.Ytdfdjlijghjdaaa
namespace Abs
open Go Go.RowKit
@[reducible] def ndCells : List Sh := [.int .i64, spansSh, .int .i64]
structure Nd where
 s : Int
 b : Bx
 v : Int
@[irreducible] def Nd.slot (x : Nd) : Int := x.s
@[irreducible] def Nd.box (x : Nd) : Bx := x.b
@[irreducible] def Nd.val (x : Nd) : Int := x.v
@[simp] theorem Nd.slot_mk (s : Int) (b : Bx) (v : Int) : (Nd.mk s b v).slot = s := by unfold Nd.slot; rfl
@[simp] theorem Nd.box_mk (s : Int) (b : Bx) (v : Int) : (Nd.mk s b v).box = b := by unfold Nd.box; rfl
@[simp] theorem Nd.val_mk (s : Int) (b : Bx) (v : Int) : (Nd.mk s b v).val = v := by unfold Nd.val; rfl
abbrev NdD := Int × (Nat × (Nat -> Int × Int × Unit)) × Int × Unit
@[reducible] def ndD (x : Nd) : NdD := (x.slot, (x.box.len, fun k => (x.box.lo k, x.box.hi k, ())), x.val, ())
@[irreducible] def ndOf (x : NdD) : Nd := ⟨x.1, bxOf x.2.1, x.2.2.1⟩
@[simp] theorem ndOf_mk (x : Nd) : ndOf (x.slot, (x.box.len, fun k => (x.box.lo k, x.box.hi k, ())), x.val, ()) = x := by unfold ndOf Nd.slot Nd.box Nd.val; simp
@[simp] theorem ndOf_D (x : Nd) : ndOf (ndD x) = x := ndOf_mk x
theorem nd_ex (x : DatL ndCells) : ∃ y : Nd, x = ndD y := ⟨ndOf x, by unfold ndD ndOf Nd.slot Nd.box Nd.val bxOf Bx.len Bx.lo Bx.hi; rfl⟩
theorem nds_ex (x : Nat -> DatL ndCells) : ∃ y : Nat -> Nd, x = fun k => ndD (y k) := ⟨fun k => ndOf (x k), by funext k; show x k = ndD (ndOf (x k)); obtain ⟨y, h⟩ := nd_ex (x k); rw [h, ndOf_D]⟩
@[irreducible] def kLo (b : Bx) (j : Nat) : Int := if j < b.len then b.lo j else 0
@[irreducible] def kHi (b : Bx) (j : Nat) : Int := if j < b.len then b.hi j else 0
@[simp] theorem cpI_lo (b : Bx) (j : Nat) : cpI b.len j (b.lo j) 0 = kLo b j := by unfold cpI kLo; rfl
@[simp] theorem cpI_hi (b : Bx) (j : Nat) : cpI b.len j (b.hi j) 0 = kHi b j := by unfold cpI kHi; rfl
@[reducible] def kyL (s : Int) (b : Bx) : List AV := [.si .i64 s, .si .i64 (kLo b 0), .si .i64 (kHi b 0), .si .i64 (kLo b 1), .si .i64 (kHi b 1), .si .i64 (kLo b 2), .si .i64 (kHi b 2)]
def keyS : Spec [.int .i64, spansSh] := ⟨fun (_, b, _) => b.1 <= maxLen, fun (s, b, _) => .agg (kyL s (bxOf b))⟩
set_option maxRecDepth 100000 in
theorem key_ok : FnSpec Try.prog 33 _ keyS := by
 refine FnSpec.of SM1_ok mixed (U := 0) (I := fun _ => []) Try.func33 rfl (by kernel_rfl) rfl rfl (by decide +kernel) ?_
 rintro ⟨(s : Int), b, ⟨⟩⟩ hpre
 obtain ⟨b, rfl⟩ := bx_ex b
 have hpre : b.len <= maxLen := hpre
 unfold FnSat
 conv => arg 2; reduce
 simp [keyS]
@[irreducible] def kyE (y : Nd) (s : Int) (b : Bx) : Bool := decide (s = y.slot) && (decide (kLo b 0 = kLo y.box 0) && (decide (kHi b 0 = kHi y.box 0) && (decide (kLo b 1 = kLo y.box 1) && (decide (kHi b 1 = kHi y.box 1) && (decide (kLo b 2 = kLo y.box 2) && decide (kHi b 2 = kHi y.box 2))))))
@[irreducible] def fdN (nd : Nat -> Nd) (s : Int) (b : Bx) (n : Nat) : Nat := firstN (fun k => kyE (nd k) s b) n
@[irreducible] def fdB (nd : Nat -> Nd) (s : Int) (b : Bx) (n : Nat) : Bool := decide (fdN nd s b n < n)
@[irreducible] def fdV (nd : Nat -> Nd) (s : Int) (b : Bx) (n : Nat) : Int := if fdN nd s b n < n then (fdN nd s b n : Int) else 0
@[reducible] def ixL (y : Nd) (k : Nat) : List AV := [.si .i64 y.slot, .si .i64 (kLo y.box 0), .si .i64 (kHi y.box 0), .si .i64 (kLo y.box 1), .si .i64 (kHi y.box 1), .si .i64 (kLo y.box 2), .si .i64 (kHi y.box 2), .si .i64 (icast k)]
theorem keyQ_ix (nd : Nat -> Nd) (s : Int) (b : Bx) : keyQ (fun k => ixL (nd k) k) 7 (kyL s b) = fun k => kyE (nd k) s b := by
 funext k
 unfold keyQ kyE
 simp [takeL, eqCells, eqC, eqA, eqI, kindOf, intOf]
 rfl
theorem fst_first (q : Nat -> Bool) (n : Nat) : fstN q n = firstN q n := (firstN_uniq (fst_le q n) (fun j hj => fst_not j hj) (fun h => fst_lt h)).symm
@[simp] theorem lkB_ix (nd : Nat -> Nd) (s : Int) (b : Bx) (n : Nat) : lkB n (keyQ (fun k => ixL (nd k) k) 7 (kyL s b)) = fdB nd s b n := by
 unfold lkB fdB fdN
 rw [keyQ_ix, fst_first, Bool.eq_iff_iff, Nat.blt_eq, decide_eq_true_iff]
@[simp] theorem lkV_ix (nd : Nat -> Nd) (s : Int) (b : Bx) (n : Nat) : lkV n (keyQ (fun k => ixL (nd k) k) 7 (kyL s b)) (valQ (fun k => ixL (nd k) k) 7) = fdV nd s b n := by
 unfold lkV fdV fdN
 rw [keyQ_ix, fst_first]
 by_cases h : firstN (fun k => kyE (nd k) s b) n < n
 ·rw [if_pos h, show Nat.blt (firstN (fun k => kyE (nd k) s b) n) n = true by rw [Nat.blt_eq]; exact h]
  unfold valQ
  simp [getL, intOf]
 ·rw [if_neg h]
  have : Nat.blt (firstN (fun k => kyE (nd k) s b) n) n = false := by
   cases hb : Nat.blt (firstN (fun k => kyE (nd k) s b) n) n with
   | false => rfl
   | true => exact absurd (by rwa [Nat.blt_eq] at hb) h
  rw [this]
theorem icast_eq' (k : Nat) : icast k = (k : Int) := by unfold icast; rfl
@[simp] theorem lkB_ix' (nd : Nat -> Nd) (s : Int) (b : Bx) (n : Nat) : lkB n (keyQ (fun k => [.si .i64 (nd k).slot, .si .i64 (kLo (nd k).box 0), .si .i64 (kHi (nd k).box 0), .si .i64 (kLo (nd k).box 1), .si .i64 (kHi (nd k).box 1), .si .i64 (kLo (nd k).box 2), .si .i64 (kHi (nd k).box 2), .si .i64 (k : Int)]) 7 (kyL s b)) = fdB nd s b n := by
 have := lkB_ix nd s b n
 simp only [ixL, icast_eq'] at this
 exact this
@[simp] theorem lkV_ix' (nd : Nat -> Nd) (s : Int) (b : Bx) (n : Nat) : lkV n (keyQ (fun k => [.si .i64 (nd k).slot, .si .i64 (kLo (nd k).box 0), .si .i64 (kHi (nd k).box 0), .si .i64 (kLo (nd k).box 1), .si .i64 (kHi (nd k).box 1), .si .i64 (kLo (nd k).box 2), .si .i64 (kHi (nd k).box 2), .si .i64 (k : Int)]) 7 (kyL s b))
  (valQ (fun k => [.si .i64 (nd k).slot, .si .i64 (kLo (nd k).box 0), .si .i64 (kHi (nd k).box 0), .si .i64 (kLo (nd k).box 1), .si .i64 (kHi (nd k).box 1), .si .i64 (kLo (nd k).box 2), .si .i64 (kHi (nd k).box 2), .si .i64 (k : Int)]) 7) = fdV nd s b n := by
 have := lkV_ix nd s b n
 simp only [ixL, icast_eq'] at this
 exact this
@[simp] theorem ky_ok (a b c d e f g h : Int) : okKs [some .i64, some .i64, some .i64, some .i64, some .i64, some .i64, some .i64] (takeL [.si .i64 a, .si .i64 b, .si .i64 c, .si .i64 d, .si .i64 e, .si .i64 f, .si .i64 g, .si .i64 h] 7) = true := rfl
@[simp] theorem ky_val (a b c d e f g h : Int) : getL [.si .i64 a, .si .i64 b, .si .i64 c, .si .i64 d, .si .i64 e, .si .i64 f, .si .i64 g, .si .i64 h] 7 = .si .i64 h := rfl
@[irreducible] def adN (nd : Nat -> Nd) (n : Nat) (x : Nd) : Nat := if fdB nd x.slot x.box n = true then n else n + 1
@[irreducible] def adE (nd : Nat -> Nd) (n : Nat) (x : Nd) (k : Nat) : Nd := if k < n then nd k else x
theorem adN_no {nd : Nat -> Nd} {n : Nat} {x : Nd} (h : fdB nd x.slot x.box n = false) : adN nd n x = n + 1 := by unfold adN; simp [h]
theorem adN_yes {nd : Nat -> Nd} {n : Nat} {x : Nd} (h : fdB nd x.slot x.box n = true) : adN nd n x = n := by unfold adN; simp [h]
theorem adE_lt {nd : Nat -> Nd} {n : Nat} {x : Nd} {k : Nat} (h : k < n) : adE nd n x k = nd k := by unfold adE; simp [h]
theorem adE_at {nd : Nat -> Nd} {n : Nat} {x : Nd} : adE nd n x n = x := by unfold adE; simp
@[reducible] def kyCells : List Sh := [.int .i64, .int .i64, .int .i64, .int .i64, .int .i64, .int .i64, .int .i64, .int .i64]
@[reducible] def ixD (y : Nd) (k : Nat) : DatL kyCells := (y.slot, kLo y.box 0, kHi y.box 0, kLo y.box 1, kHi y.box 1, kLo y.box 2, kHi y.box 2, icast k, ())
@[reducible] def sysCs : List Sh := [spansSh, spansSh, .slice 3 modeCells, .slice 1 [spansSh]]
@[reducible] def grSh (r m : Nat) : List Sh := [spansSh, spansSh, .slice 3 modeCells, .slice 1 [spansSh], .rowr r, .mpr m]
@[reducible] def grL (s : Sys) (r m : Nat) : List AV := [.slc (.sym s.lim.len) 2 (fun k => [.si .i64 (s.lim.lo k), .si .i64 (s.lim.hi k)]), .slc (.sym s.st.len) 2 (fun k => [.si .i64 (s.st.lo k), .si .i64 (s.st.hi k)]),
 .slc (.sym s.nmd) 3 (fun k => [.si .i64 (s.md k).cost, .slc (.sym (s.md k).nsh) 1 (fun j => [.si .i64 ((s.md k).sh j)]), .slc (.sym (s.md k).nfl) 3 (fun j => [.si .i64 ((s.md k).ff j), .si .i64 ((s.md k).ft j), .si .i64 ((s.md k).fp j)])]),
 .slc (.sym s.nld) 1 (fun k => [.slc (.sym (s.ld k).len) 2 (fun j => [.si .i64 ((s.ld k).lo j), .si .i64 ((s.ld k).hi j)])]), .row r, .mp m]
@[reducible] def ndL (y : Nd) : List AV := [.si .i64 y.slot, .slc (.sym y.box.len) 2 (fun k => [.si .i64 (y.box.lo k), .si .i64 (y.box.hi k)]), .si .i64 y.val]
abbrev GrD := (Nat × (Nat -> Int × Int × Unit)) × (Nat × (Nat -> Int × Int × Unit)) × (Nat × (Nat -> MoD)) × (Nat × (Nat -> (Nat × (Nat -> Int × Int × Unit)) × Unit)) × Unit × Unit × Unit
@[irreducible] def grOf (g : GrD) : Sys := sysOf (g.1, g.2.1, g.2.2.1, g.2.2.2.1, ())
@[reducible] def grD (s : Sys) : GrD := ((sysD s).1, (sysD s).2.1, (sysD s).2.2.1, (sysD s).2.2.2.1, (), (), ())
@[simp] theorem grOf_D (s : Sys) : grOf (grD s) = s := by
 unfold grOf grD
 exact sysOf_D s
@[simp] theorem grOf_mk (s : Sys) : grOf ((s.lim.len, fun k => (s.lim.lo k, s.lim.hi k, ())), (s.st.len, fun k => (s.st.lo k, s.st.hi k, ())),
  (s.nmd, fun k => ((s.md k).cost, ((s.md k).nsh, fun j => ((s.md k).sh j, ())), ((s.md k).nfl, fun j => ((s.md k).ff j, (s.md k).ft j, (s.md k).fp j, ())), ())),
  (s.nld, fun k => (((s.ld k).len, fun j => ((s.ld k).lo j, (s.ld k).hi j, ())), ())), (), (), ()) = s := grOf_D s
theorem gr_ex {r m : Nat} (g : DatL (grSh r m)) : ∃ s : Sys, g = grD s := by
 obtain ⟨g1, g2, g3, g4, ⟨⟩, ⟨⟩, ⟨⟩⟩ := g
 obtain ⟨s, hs⟩ := sys_ex (g1, g2, g3, g4, ())
 refine ⟨s, ?_⟩
 unfold grD
 rw [<- hs]
@[reducible] def adO : List OB := [.cells 64 (grSh 2 1), .tab 7 kyCells, .row 31 3 ndCells]
@[reducible] def grH (s : Sys) (n : Nat) (nd : Nat -> Nd) : Heap := [.cells 64 (grL s 2 1), .tab (.sym n) 7 (fun k => ixL (nd k) k), .row 31 3 (.sym n) (fun k => ndL (nd k))]
def adF : SpecF adO [.own 0 0, .agg ndCells] := ⟨fun (_, (m, te), (n, el), _) (_, x, _) => n <= 6000 /\ (ndOf x).box.len <= maxLen /\ m = n /\ te = fun k => ixD (ndOf (el k)) k, fun _ _ => .tup [],
 fun (g, _, (n, el), _) (_, x, _) => grH (grOf g) (adN (fun k => ndOf (el k)) n (ndOf x)) (adE (fun k => ndOf (el k)) n (ndOf x))⟩
def keyKs : List (Option IntKind) := [some .i64, some .i64, some .i64, some .i64, some .i64, some .i64, some .i64]
def eqsG : List (Nat × List (Option IntKind)) := [(69, keyKs), (48, spanKs)]
theorem eqsG_ok : ∀ t ks, findS eqsG t = some ks -> EqOK Try.prog t ks := by
 intro t ks h
 unfold eqsG at h
 simp only [findS] at h
 split at h
 ·rename_i e
  obtain rfl := Nat.eq_of_beq_eq_true e
  injection h with h; subst h
  exact EqOK.of 5 (by decide) (by kernel_rfl) (by kernel_rfl) (by kernel_rfl)
 ·split at h
  ·rename_i e
   obtain rfl := Nat.eq_of_beq_eq_true e
   injection h with h; subst h
   exact EqOK.of 3 (by decide) (by kernel_rfl) (by kernel_rfl) (by kernel_rfl)
  ·cases h
noncomputable def SYa0 : Sums := ⟨SM1.one, SM1.two, SM1.lo, eqsG, SM1.its, [31]⟩
theorem SYa0_ok : SumsOK Try.prog SYa0 := (SM1_ok.setEqs eqsG_ok).setImm _
noncomputable def SYa1 : Sums := ⟨(33, mkSum _ keyS) :: SYa0.one, SYa0.two, SYa0.lo, SYa0.eqs, SYa0.its, SYa0.imm⟩
theorem SYa1_ok : SumsOK Try.prog SYa1 := (SYa0_ok.cons Try.func33 (by kernel_rfl) (by kernel_rfl) key_ok)
end Abs
end Go.Proofs.Ytdfdjlijghjdaaa

namespace Go.Proofs.Ytdfdjlijghjdaaa
namespace Abs
open Go Go.RowKit
set_option maxRecDepth 100000 in
theorem add_ok : FnSpecJ Try.prog 32 _ _ adF := by
 refine FnSpecJ.of SYa1_ok mixed (U := 0) (I := fun _ _ => []) Try.func32 rfl (by kernel_rfl) (sp := adF) rfl (by decide +kernel) (by decide) ?_
 rintro ⟨g, ⟨m, te⟩, ⟨n, el⟩, ⟨⟩⟩ ⟨⟨⟩, x, ⟨⟩⟩ ⟨hn, hx, rfl, rfl⟩
 obtain ⟨x, rfl⟩ := nd_ex x
 obtain ⟨nd, rfl⟩ := nds_ex el
 obtain ⟨s, rfl⟩ := gr_ex g
 simp only [ndOf_D] at hx hn ⊢
 unfold FnSatJ
 conv => arg 2; reduce
 simp [adF, keyS, encH, encB, ElEq, aliveB, getB, goneB, maxRow, and_assoc]
 have en : (fun k => nd k) = nd := rfl
 refine ⟨hx, fun h => ?_, fun h => ?_⟩
 ·rw [en, adN_no h]
  refine ⟨h, by omega, rfl, fun j hj => ?_, rfl, fun j hj => ?_⟩
  ·rw [catE_eq]
   by_cases e : j < m
   ·rw [if_pos e, adE_lt e]; rfl
   ·obtain rfl : j = m := by omega
    rw [if_neg e, adE_at]; rfl
  ·rw [catE_eq]
   by_cases e : j < m
   ·rw [if_pos e, adE_lt e]; rfl
   ·obtain rfl : j = m := by omega
    rw [if_neg e, adE_at, Nat.sub_self]; rfl
 ·rw [en, adN_yes h]
  refine ⟨rfl, fun j hj => ?_, rfl, fun j hj => ?_⟩
  ·rw [adE_lt hj]; exact ⟨rfl, rfl, rfl, rfl, rfl, rfl, rfl⟩
  ·rw [adE_lt hj]; exact ⟨rfl, rfl, rfl, rfl⟩
end Abs
end Go.Proofs.Ytdfdjlijghjdaaa

namespace Go.Proofs.Ytdfdjlijghjdaaa
namespace Abs
open Go Go.RowKit
def cntP (p : Nat -> Bool) : Nat -> Nat
 | 0 => 0
 | n + 1 => cntP p n + (if p n = true then 1 else 0)
theorem cntP_zero (p : Nat -> Bool) : cntP p 0 = 0 := rfl
theorem cntP_succ (p : Nat -> Bool) (n : Nat) : cntP p (n + 1) = cntP p n + (if p n = true then 1 else 0) := rfl
attribute [irreducible] cntP
theorem cntP_yes {p : Nat -> Bool} {n : Nat} (h : p n = true) : cntP p (n + 1) = cntP p n + 1 := by rw [cntP_succ, if_pos h]
theorem cntP_no {p : Nat -> Bool} {n : Nat} (h : p n = false) : cntP p (n + 1) = cntP p n := by rw [cntP_succ, h]; simp
theorem cntP_mono {p : Nat -> Bool} {m : Nat} : ∀ {n : Nat}, m <= n -> cntP p m <= cntP p n
 | 0, h => by obtain rfl : m = 0 := by omega
              exact Nat.le_refl _
 | n + 1, h => by
   rcases Nat.lt_or_ge m (n + 1) with h1 | h1
   ·have := cntP_mono (p := p) (show m <= n by omega)
    rw [cntP_succ]; omega
   ·obtain rfl : m = n + 1 := by omega
    exact Nat.le_refl _
@[irreducible] def selN (p : Nat -> Bool) (n j : Nat) : Nat := firstN (fun g => decide (cntP p (g + 1) = j + 1)) n
theorem selN_at {p : Nat -> Bool} {n i : Nat} (hi : i < n) (h : p i = true) : selN p n (cntP p i) = i := by
 unfold selN
 refine firstN_uniq (by omega) (fun j hj => ?_) (fun _ => by simp [cntP_yes h])
 have := cntP_mono (p := p) (show j + 1 <= i by omega)
 simp; omega
theorem selN_ex {p : Nat -> Bool} : ∀ {n j : Nat}, j < cntP p n -> ∃ i, i < n /\ p i = true /\ cntP p i = j
 | 0, j, h => by rw [cntP_zero] at h; omega
 | n + 1, j, h => by
   by_cases hj : j < cntP p n
   ·obtain ⟨i, h1, h2, h3⟩ := selN_ex hj
    exact ⟨i, by omega, h2, h3⟩
   ·cases hp : p n with
    | true => rw [cntP_yes hp] at h; exact ⟨n, by omega, hp, by omega⟩
    | false => rw [cntP_no hp] at h; omega
theorem selN_spec {p : Nat -> Bool} {n j : Nat} (h : j < cntP p n) : selN p n j < n /\ p (selN p n j) = true /\ cntP p (selN p n j) = j := by
 obtain ⟨i, h1, h2, h3⟩ := selN_ex h
 subst h3
 rw [selN_at h1 h2]
 exact ⟨h1, h2, rfl⟩
theorem cntP_lt {p : Nat -> Bool} {n i : Nat} (hi : i < n) (h : p i = true) : cntP p i < cntP p n := by
 have := cntP_mono (p := p) (show i + 1 <= n by omega)
 rw [cntP_yes h] at this; omega
@[irreducible] def wyB (s : Sys) (y : Nd) (k : Nat) : Bool := inV s.lim (adV s y.slot k y.box)
@[irreducible] def wyN (s : Sys) (y : Nd) : Nat := if y.slot < s.nld then cntP (wyB s y) s.nmd else 0
@[irreducible] def wyM (s : Sys) (y : Nd) (j : Nat) : Nat := selN (wyB s y) s.nmd j
structure WyOK (s : Sys) (y : Nd) : Prop where
 ch : checkB s = true
 sl : 0 <= y.slot
 ln : y.box.len = s.lim.len
 nr : nearV y.box 1073741824 = true
@[reducible] def wySh : List Sh := [.ptr ndCells, .ptr [.ptr sysCs]]
def wyI : SpecI wySh := ⟨fun (x, (g, _), _) => SysMax (sysOf g) /\ WyOK (sysOf g) (ndOf x), fun (x, (g, _), _) => wyN (sysOf g) (ndOf x),
 fun (x, (g, _), _) j => [.si .i64 (icast (wyM (sysOf g) (ndOf x) j)), .slc (.sym (ndOf x).box.len) 2 (fun k => [.si .i64 ((adV (sysOf g) (ndOf x).slot (icast (wyM (sysOf g) (ndOf x) j)) (ndOf x).box).lo k), .si .i64 ((adV (sysOf g) (ndOf x).slot (icast (wyM (sysOf g) (ndOf x) j)) (ndOf x).box).hi k)])]⟩
noncomputable def wyA (_Y : Value) : DatL wySh -> List AV -> Heap -> AK := fun (x, (g, _), _) fr hp =>
 ⟨⟨Nat, fun i => ⟨frI [.k 3, .t 17, .k 1, .s (.si .i64 (icast i)), .t 26] fr, hp⟩, Nat × Nat, fun i => (i, g.2.2.1.1), fun (i, n) => i <= n, fun i => nsub g.2.2.1.1 i⟩, fun i => cntP (wyB (sysOf g) (ndOf x)) i⟩
noncomputable def SYc0 : Sums := ⟨SYa1.one, (32, mkSumJ _ _ adF) :: SYa1.two, SYa1.lo, SYa1.eqs, SYa1.its, SYa1.imm⟩
theorem SYc0_ok : SumsOK Try.prog SYc0 := SYa1_ok.addTwo Try.func32 (by kernel_rfl) (by kernel_rfl) (mkSumJ_ok add_ok)
set_option maxRecDepth 100000 in
theorem ways_it : IterOK2 Try.prog 56 (mkIt wySh wyI) := by
 refine IterOK2.of SYc0_ok mixed rfl Try.func56 rfl rfl (by kernel_rfl) rfl (by decide +kernel) (I := wyA) ?_
 rintro Y ⟨x, ⟨g, ⟨⟩⟩, ⟨⟩⟩ ⟨hm, hw⟩
 obtain ⟨x, rfl⟩ := nd_ex x
 obtain ⟨s, rfl⟩ := sys_ex g
 conv => arg 2; reduce
 simp [wyA, unitA, ElEq, insS, advS, and_assoc]
 have hm : SysMax s := by rwa [sysOf_D] at hm
 have hw : WyOK s x := by rwa [sysOf_D, ndOf_D] at hw
 have c := checkB_iff.1 hw.ch
 have hN : x.slot < s.nld -> wyN s x = cntP (wyB s x) s.nmd := fun h => by unfold wyN; rw [if_pos h]
 refine ⟨fun h => ?_, fun h => ⟨⟨0, by rw [cntP_zero], rfl, by omega⟩, fun g hg => ⟨fun hlt => ?_, fun hge => ?_⟩⟩⟩
 ·unfold wyN; rw [if_neg (by omega)]
 ·refine ⟨adOK_of hw.ch hw.sl h (by omega) (by omega) hw.ln hw.nr, by rw [hw.ln]; exact Nat.le_refl _, by unfold maxLen; have := hw.ln; omega, c.2.2.2.2.2.1, fun hi => ?_, fun hi => ?_⟩
  ·have hb : wyB s x g = true := by unfold wyB; exact hi
   have hM : wyM s x (cntP (wyB s x) g) = g := by unfold wyM; exact selN_at hlt hb
   rw [hM, hN h]
   exact ⟨cntP_lt hlt hb, rfl, fun _ _ => ⟨rfl, rfl⟩, by omega, by omega, g + 1, cntP_yes hb, by omega, by omega, by omega⟩
  ·have hb : wyB s x g = false := by unfold wyB; exact hi
   exact ⟨by omega, by omega, g + 1, cntP_no hb, by omega, by omega, by omega⟩
 ·obtain rfl : g = s.nmd := by omega
  exact (hN h).symm
end Abs
end Go.Proofs.Ytdfdjlijghjdaaa

namespace Go.Proofs.Ytdfdjlijghjdaaa
namespace Abs
open Go Go.RowKit
theorem fdN_congr {nd nd' : Nat -> Nd} {s : Int} {b : Bx} {n : Nat} (h : ∀ k, k < n -> nd k = nd' k) : fdN nd s b n = fdN nd' s b n := by
 unfold fdN
 have h1 := firstN_le (fun k => kyE (nd' k) s b) n
 refine firstN_uniq h1 (fun j hj => ?_) (fun hlt => ?_)
 ·have := firstN_not (fun k => kyE (nd' k) s b) n j hj
  simpa [h j (by omega)] using this
 ·have := firstN_is (fun k => kyE (nd' k) s b) n hlt
  simpa [h _ hlt] using this
theorem fdB_congr {nd nd' : Nat -> Nd} {s : Int} {b : Bx} {n : Nat} (h : ∀ k, k < n -> nd k = nd' k) : fdB nd s b n = fdB nd' s b n := by unfold fdB; rw [fdN_congr h]
theorem fdV_congr {nd nd' : Nat -> Nd} {s : Int} {b : Bx} {n : Nat} (h : ∀ k, k < n -> nd k = nd' k) : fdV nd s b n = fdV nd' s b n := by unfold fdV; rw [fdN_congr h]
theorem fdB_iff {nd : Nat -> Nd} {s : Int} {b : Bx} {n : Nat} : fdB nd s b n = true ↔ fdN nd s b n < n := by unfold fdB; simp
theorem fdV_of {nd : Nat -> Nd} {s : Int} {b : Bx} {n : Nat} (h : fdB nd s b n = true) : fdV nd s b n = (fdN nd s b n : Int) := by unfold fdV; rw [if_pos (fdB_iff.1 h)]
def gsP (nd : Nat -> Nd) : Nat -> Nat × (Nat -> Nd)
 | 0 => (0, fun _ => ⟨0, ⟨0, fun _ => 0, fun _ => 0⟩, 0⟩)
 | g + 1 => (adN (gsP nd g).2 (gsP nd g).1 (nd g), adE (gsP nd g).2 (gsP nd g).1 (nd g))
@[irreducible] def gsN (nd : Nat -> Nd) (g : Nat) : Nat := (gsP nd g).1
@[irreducible] def gsE (nd : Nat -> Nd) (g : Nat) : Nat -> Nd := (gsP nd g).2
theorem gsN_zero (nd : Nat -> Nd) : gsN nd 0 = 0 := by unfold gsN gsP; rfl
theorem gsN_succ (nd : Nat -> Nd) (g : Nat) : gsN nd (g + 1) = adN (gsE nd g) (gsN nd g) (nd g) := by unfold gsN gsE; rw [gsP]
theorem gsE_succ (nd : Nat -> Nd) (g : Nat) : gsE nd (g + 1) = adE (gsE nd g) (gsN nd g) (nd g) := by unfold gsN gsE; rw [gsP]
theorem adN_le (nd : Nat -> Nd) (n : Nat) (x : Nd) : n <= adN nd n x /\ adN nd n x <= n + 1 := by unfold adN; split <;> omega
theorem gsN_le (nd : Nat -> Nd) : ∀ g, gsN nd g <= g
 | 0 => by rw [gsN_zero]; exact Nat.le_refl _
 | g + 1 => by
   rw [gsN_succ]
   have := gsN_le nd g
   have := adN_le (gsE nd g) (gsN nd g) (nd g)
   omega
theorem gsN_gap (nd : Nat -> Nd) {g : Nat} (h : gsN nd g < g) : ∀ n, g <= n -> gsN nd n < n := by
 intro n
 induction n with
 | zero => intro hn; omega
 | succ n ih =>
   intro hn
   rcases Nat.lt_or_ge g (n + 1) with h1 | h1
   ·have := ih (by omega)
    rw [gsN_succ]
    have := adN_le (gsE nd n) (gsN nd n) (nd n)
    omega
   ·obtain rfl : g = n + 1 := by omega
    exact h
@[irreducible] def pvD (nd : Nat -> Nd) (k : Nat) : Bool := fdB nd (nd k).slot (nd k).box k
theorem gs_eq {nd : Nat -> Nd} : ∀ {g : Nat}, (∀ k, k < g -> pvD nd k = false) -> gsN nd g = g /\ ∀ k, k < g -> gsE nd g k = nd k
 | 0, _ => ⟨gsN_zero nd, fun k hk => by omega⟩
 | g + 1, h => by
   obtain ⟨h1, h2⟩ := gs_eq (g := g) fun k hk => h k (by omega)
   have hd : fdB (gsE nd g) (nd g).slot (nd g).box g = false := by
    have := h g (by omega)
    unfold pvD at this
    rw [fdB_congr h2]; exact this
   rw [gsN_succ, gsE_succ, h1]
   refine ⟨adN_no hd, fun k hk => ?_⟩
   by_cases e : k < g
   ·rw [adE_lt e]; exact h2 k e
   ·obtain rfl : k = g := by omega
    exact adE_at
theorem gs_lt {nd : Nat -> Nd} {n : Nat} (h : anyN (pvD nd) n = true) : gsN nd n < n := by
 obtain ⟨k, hk, hd⟩ := anyN_iff.1 h
 have hf : ∃ k, k < n /\ pvD nd k = true /\ ∀ j, j < k -> pvD nd j = false := by
  refine ⟨firstN (pvD nd) n, ?_, ?_, fun j hj => firstN_not _ _ j hj⟩
  ·rcases Nat.lt_or_ge (firstN (pvD nd) n) n with h1 | h1
   ·exact h1
   ·have := firstN_not (pvD nd) n k (by omega); rw [hd] at this; cases this
  ·refine firstN_is _ _ ?_
   rcases Nat.lt_or_ge (firstN (pvD nd) n) n with h1 | h1
   ·exact h1
   ·have := firstN_not (pvD nd) n k (by omega); rw [hd] at this; cases this
 obtain ⟨k, hk, hd, hno⟩ := hf
 obtain ⟨h1, h2⟩ := gs_eq hno
 have hd' : fdB (gsE nd k) (nd k).slot (nd k).box (gsN nd k) = true := by
  unfold pvD at hd
  rw [h1, fdB_congr h2]; exact hd
 refine gsN_gap nd (g := k + 1) ?_ n (by omega)
 rw [gsN_succ, adN_yes hd', h1]; omega
theorem gs_all {nd : Nat -> Nd} {n : Nat} (h : n <= gsN nd n) : ∀ k, k < n -> pvD nd k = false := by
 have : anyN (pvD nd) n = false := by
  cases ha : anyN (pvD nd) n with
  | false => rfl
  | true => have := gs_lt ha; omega
 exact anyN_false.1 this
@[irreducible] def pvF (s : Sys) (y : Nd) : Bool := decide (y.slot < 0) || decide ((s.nld : Int) < y.slot) || decide (y.box.len ≠ s.lim.len) || decide (y.val < 0) || decide (1125899906842624 < y.val)
theorem pvF_iff {s : Sys} {y : Nd} : pvF s y = false ↔ 0 <= y.slot /\ y.slot <= s.nld /\ y.box.len = s.lim.len /\ 0 <= y.val /\ y.val <= 1125899906842624 := by
 unfold pvF; simp [and_assoc]
@[irreducible] def pvB (s : Sys) (nd : Nat -> Nd) (n : Nat) (y : Nd) (k : Nat) : Bool :=
 wyB s y k && (!(fdB nd (y.slot + 1) (adV s y.slot k y.box) n) || decide ((nd (fdN nd (y.slot + 1) (adV s y.slot k y.box) n)).val < y.val - (s.md k).cost))
@[irreducible] def pvX (s : Sys) (nd : Nat -> Nd) (n : Nat) (y : Nd) : Bool := if y.slot = s.nld then decide (y.val ≠ 0) else inV s.lim y.box && anyN (pvB s nd n y) s.nmd
@[irreducible] def pvA (s : Sys) (c : Int) (nd : Nat -> Nd) (n : Nat) : Bool := !(fdB nd 0 s.st n) || decide ((nd (fdN nd 0 s.st n)).val < c)
@[irreducible] def pvE (s : Sys) (c : Int) (nd : Nat -> Nd) (n : Nat) : Int :=
 if checkB s = true then (if n <= 5000 then (if anyN (fun k => pvF s (nd k)) n = true \/ anyN (pvD nd) n = true then 8 else (if pvA s c nd n = true then 19 else (if anyN (fun k => pvX s nd n (nd k)) n = true then 19 else 0))) else 6) else 2
theorem wyM_spec {s : Sys} {y : Nd} {j : Nat} (h : j < wyN s y) : y.slot < s.nld /\ wyM s y j < s.nmd /\ wyB s y (wyM s y j) = true := by
 unfold wyN at h
 split at h
 ·rename_i hs
  unfold wyM
  have := selN_spec h
  exact ⟨hs, this.1, this.2.1⟩
 ·omega
theorem wyM_ex {s : Sys} {y : Nd} {m : Nat} (hs : y.slot < s.nld) (hm : m < s.nmd) (hb : wyB s y m = true) : ∃ j, j < wyN s y /\ wyM s y j = m := by
 refine ⟨cntP (wyB s y) m, ?_, by unfold wyM; exact selN_at hm hb⟩
 unfold wyN
 rw [if_pos hs]
 exact cntP_lt hm hb
theorem pvB_true {s : Sys} {nd : Nat -> Nd} {n : Nat} {y : Nd} {k : Nat} : pvB s nd n y k = true ↔ wyB s y k = true /\ (fdB nd (y.slot + 1) (adV s y.slot k y.box) n = false \/ (nd (fdN nd (y.slot + 1) (adV s y.slot k y.box) n)).val < y.val - (s.md k).cost) := by
 unfold pvB; simp
theorem pvX_in {s : Sys} {nd : Nat -> Nd} {n : Nat} {y : Nd} (hz : y.slot = s.nld -> y.val = 0) (hs : y.slot <= s.nld) (h : ∀ j, j < wyN s y -> pvB s nd n y (wyM s y j) = false) : pvX s nd n y = false := by
 unfold pvX
 split
 ·rename_i e; simpa using hz e
 ·rename_i e
  have : anyN (pvB s nd n y) s.nmd = false := anyN_false.2 fun m hm => by
   cases hb : pvB s nd n y m with
   | false => rfl
   | true =>
     obtain ⟨j, hj, rfl⟩ := wyM_ex (by omega) hm (pvB_true.1 hb).1
     rw [h j hj] at hb; cases hb
  rw [this]; simp
theorem pvX_out {s : Sys} {nd : Nat -> Nd} {n : Nat} {y : Nd} {j : Nat} (hin : inV s.lim y.box = true) (hj : j < wyN s y) (h : pvB s nd n y (wyM s y j) = true) : pvX s nd n y = true := by
 have hs := wyM_spec hj
 unfold pvX
 rw [if_neg (by omega), hin, anyN_iff.2 ⟨_, hs.2.1, h⟩]; rfl
theorem pvE_arg {s : Sys} {c : Int} {nd : Nat -> Nd} {n : Nat} (h : checkB s = false) : pvE s c nd n = 2 := by unfold pvE; rw [if_neg (by rw [h]; simp)]
theorem pvE_many {s : Sys} {c : Int} {nd : Nat -> Nd} {n : Nat} (h : checkB s = true) (h1 : 5000 < n) : pvE s c nd n = 6 := by unfold pvE; rw [if_pos h, if_neg (by omega)]
theorem pvE_form {s : Sys} {c : Int} {nd : Nat -> Nd} {n : Nat} (h : checkB s = true) (h1 : n <= 5000) (h2 : anyN (fun k => pvF s (nd k)) n = true \/ anyN (pvD nd) n = true) : pvE s c nd n = 8 := by unfold pvE; rw [if_pos h, if_pos h1, if_pos h2]
theorem pvE_first {s : Sys} {c : Int} {nd : Nat -> Nd} {n : Nat} (h : checkB s = true) (h1 : n <= 5000) (h2 : ∀ k, k < n -> pvF s (nd k) = false) (h3 : ∀ k, k < n -> pvD nd k = false) (h4 : pvA s c nd n = true) : pvE s c nd n = 19 := by
 unfold pvE
 rw [if_pos h, if_pos h1, if_neg (by rw [anyN_false.2 h2, anyN_false.2 h3]; simp), if_pos h4]
theorem pvE_sum {s : Sys} {c : Int} {nd : Nat -> Nd} {n : Nat} (h : checkB s = true) (h1 : n <= 5000) (h2 : ∀ k, k < n -> pvF s (nd k) = false) (h3 : ∀ k, k < n -> pvD nd k = false) {k : Nat} (hk : k < n) (h4 : pvX s nd n (nd k) = true) : pvE s c nd n = 19 := by
 unfold pvE
 rw [if_pos h, if_pos h1, if_neg (by rw [anyN_false.2 h2, anyN_false.2 h3]; simp)]
 split
 ·rfl
 ·rw [if_pos (anyN_iff.2 ⟨k, hk, h4⟩)]
theorem pvE_ok {s : Sys} {c : Int} {nd : Nat -> Nd} {n : Nat} (h : checkB s = true) (h1 : n <= 5000) (h2 : ∀ k, k < n -> pvF s (nd k) = false) (h3 : ∀ k, k < n -> pvD nd k = false) (h4 : pvA s c nd n = false) (h5 : ∀ k, k < n -> pvX s nd n (nd k) = false) : pvE s c nd n = 0 := by
 unfold pvE
 rw [if_pos h, if_pos h1, if_neg (by rw [anyN_false.2 h2, anyN_false.2 h3]; simp), if_neg (by rw [h4]; simp), if_neg (by rw [anyN_false.2 h5]; simp)]
end Abs
end Go.Proofs.Ytdfdjlijghjdaaa

namespace Go.Proofs.Ytdfdjlijghjdaaa
namespace Abs
open Go Go.RowKit
noncomputable section
def slK : VC -> Option Sum2
 | .need p k => (match slK k with | some ⟨ps, r, h, mv⟩ => some ⟨p :: ps, r, h, mv⟩ | none => none)
 | .out r hp => some ⟨[], r, hp, none⟩
 | _ => none
def slKP : {g : VC -> Option Sum2 // slK = g} := ⟨_, by delta slK; rfl⟩
def slKN : VC -> Option Sum2 := slKP.1
theorem slKN_eq : slKN = slK := slKP.2.symm
def ngB : AV -> Bool
 | .gd _ _ => false
 | _ => true
def ngL : List AV -> Bool
 | [] => true
 | a :: l => (match ngB a with | true => ngL l | false => false)
def lenV : List AV -> Nat
 | [] => 0
 | _ :: l => lenV l + 1
def inlS (P : Program) (S : Sums) (U : Nat) (fn : Func) : Summ2 := fun args hp =>
 match ngL args, Nat.ble (lenV args) fn.ntmps with
 | true, true => slKN (wpFT P ⟨S.one, S.two, hp.length, S.eqs, S.its, S.imm⟩ U [] fn args hp)
 | _, _ => none
end
theorem slK_sat : ∀ {v : VC} {pre : List Cd} {res : AV} {hp : Heap} {mv : Option Nat}, slK v = some ⟨pre, res, hp, mv⟩ -> (∀ p ∈ pre, p.ok) -> mv = none /\ v.sat fun r h => r = res /\ h = hp := by
 intro v
 induction v with
 | need p k ih =>
   intro pre res hp mv h hp'
   simp only [slK] at h
   split at h
   ·rename_i ps r h' mv' e
    injection h with h; injection h with h1 h2 h3 h4
    subst h1 h2 h3 h4
    have := ih e fun q hq => hp' q (List.mem_cons_of_mem _ hq)
    exact ⟨this.1, hp' _ (List.mem_cons_self ..), this.2⟩
   ·cases h
 | out r hp =>
   intro pre res hp0 mv h _
   simp only [slK] at h
   injection h with h; injection h with h1 h2 h3 h4
   exact ⟨h4.symm, h2, h3⟩
 | fail => intro pre res hp mv h; simp [slK] at h
 | branch b t e _ _ => intro pre res hp mv h; simp [slK] at h
 | done => intro pre res hp mv h; simp [slK] at h
 | loop d e b _ _ => intro pre res hp mv h; simp [slK] at h
 | ex d m k _ => intro pre res hp mv h; simp [slK] at h
theorem ngL_spec : ∀ {l : List AV}, ngL l = true -> ∀ t, notGd (getL l t)
 | [], _, t => by simp only [getL]; trivial
 | a :: l, h, 0 => by
   simp only [ngL] at h
   simp only [getL]
   split at h
   ·rename_i ha
    cases a <;> first | (simp [ngB] at ha; done) | trivial
   ·cases h
 | a :: l, h, t + 1 => by
   simp only [ngL] at h
   simp only [getL]
   split at h
   ·exact ngL_spec h t
   ·cases h
theorem lenV_eq : ∀ l : List AV, lenV l = l.length
 | [] => rfl
 | _ :: l => by simp [lenV, lenV_eq l]
theorem inlS_ok {P : Program} {S : Sums} (hS : SumsOK P S) (hm : P.follows .mixedOrders = true) {U : Nat} {f : FuncId} {fn : Func} {c : Code} (hf : P.funcs[f]? = some fn) (hb : fn.body = some c) (hok : codeOK c = true) : Summ2OK P f (inlS P S U fn) := by
 intro args hp pre res hp' mv h hpre
 unfold inlS at h
 rw [slKN_eq] at h
 split at h
 ·rename_i h1 h2
  obtain ⟨rfl, hsat⟩ := slK_sat h hpre
  intro C w vs hO hH ha
  have hS' : SumsOK P ⟨S.one, S.two, hp.length, S.eqs, S.its, S.imm⟩ := ⟨hS.one, hS.two, hS.eqs, hS.bodyOne, hS.bodyTwo, hS.its⟩
  refine (calls_wpF hS' hm hf hb hok (Nat.le_refl _) hH ha (ngL_spec h1) (by rw [lenV_eq] at h2; exact Nat.le_of_ble_eq_true h2) (wpFT_sat hsat)).mono ?_
  rintro e w' ⟨v, a, hp2, C1, he, ⟨rfl, rfl⟩, h3, h4, h5, h6⟩
  refine ⟨v, C1, he, h4, h5, (Since.refl (fun i hi => ?_) hO).step h6⟩
  cases hc : C.ρ i with
  | none => rfl
  | some p => have := hH.lt hc; omega
 ·cases h
end Abs
end Go.Proofs.Ytdfdjlijghjdaaa

namespace Go.Proofs.Ytdfdjlijghjdaaa
namespace Abs
open Go Go.RowKit
noncomputable def SYd1 : Sums := ⟨SYc0.one, SYc0.two, SYc0.lo, SYc0.eqs, (itsKey 56, mkIt wySh wyI) :: SYc0.its, SYc0.imm⟩
theorem SYd1_ok : SumsOK Try.prog SYd1 := SYc0_ok.addIt2 Try.func56 (by kernel_rfl) (by kernel_rfl) ways_it
noncomputable def SYd2 : Sums := ⟨SYd1.one, (35, inlS Try.prog SYd1 0 Try.f35) :: SYd1.two, SYd1.lo, SYd1.eqs, SYd1.its, SYd1.imm⟩
theorem SYd2_ok : SumsOK Try.prog SYd2 := SYd1_ok.addTwo Try.func35 (by kernel_rfl) (by kernel_rfl) (inlS_ok SYd1_ok mixed Try.func35 rfl (by kernel_rfl))
@[reducible] def nodesSh : Sh := .slice 3 ndCells
def proveS : Spec [sysSh, .int .i64, nodesSh] := ⟨fun (s, (_ : Int), (n, el), _) => SysMax (sysOf s) /\ n <= maxLen /\ ∀ k, k < n -> (ndOf (el k)).box.len <= maxLen, fun (s, (c : Int), (n, el), _) => .si .i64 (pvE (sysOf s) c (fun k => ndOf (el k)) n)⟩
noncomputable def unA : List AV -> Heap -> Ann := fun _ _ => ⟨Unit, fun _ => ⟨[], []⟩, Unit, fun _ => (), fun _ => True, fun _ => 0⟩
noncomputable def proveI : DatL [sysSh, .int .i64, nodesSh] -> Anns := fun (s, (_ : Int), (n, el), _) => [
 (2097152 + 7, [(30, 31 + 131072, 261)], unA),
 (8, [], fun fr hp => ⟨Nat, fun g => ⟨frI [.k 10, .t 1, .k 22, .s (.si .i64 (icast g)), .t 37] fr,
  setB (setB hp 3 (.tab (.sym (gsN (fun k => ndOf (el k)) g)) 7 (fun k => ixL (gsE (fun k => ndOf (el k)) g k) k))) 6 (.row 31 3 (.sym (gsN (fun k => ndOf (el k)) g)) (fun k => ndL (gsE (fun k => ndOf (el k)) g k)))⟩,
  Nat × Nat × (Nat -> Bool), fun g => (g, n, fun k => pvF (sysOf s) (ndOf (el k))), fun (g, n, p) => g <= n /\ ∀ k, k < g -> p k = false, fun g => nsub n g⟩),
 (20, [], fun fr hp => ⟨Nat, fun g => ⟨frI [.k 14, .t 5, .k 84, .s (.si .i64 (icast g)), .t 57] fr, hp⟩,
  Nat × Nat × (Nat -> Bool), fun g => (g, n, fun k => pvX (sysOf s) (fun k => ndOf (el k)) n (ndOf (el k))), fun (g, n, p) => g <= n /\ ∀ k, k < g -> p k = false, fun g => nsub n g⟩),
 (26, [], fun fr hp => ⟨Nat, fun g => ⟨frI [.k 15, .t 4, .k 107, .t 34] fr, hp⟩,
  Nat × Nat × (Nat -> Bool), fun g => (g, wyN (sysOf s) (ndOf (el (nat (intOf (getL fr 103))))), fun j => pvB (sysOf s) (fun k => ndOf (el k)) n (ndOf (el (nat (intOf (getL fr 103))))) (wyM (sysOf s) (ndOf (el (nat (intOf (getL fr 103))))) j)), fun (g, n, p) => g <= n /\ ∀ k, k < g -> p k = false, fun g => g⟩)]
set_option maxRecDepth 100000 in
set_option maxHeartbeats 2000000 in
theorem prove_ok : FnSpec Try.prog 12 _ proveS := by
 refine FnSpec.of SYd2_ok mixed (U := 0) (I := proveI) Try.func12 rfl (by kernel_rfl) rfl rfl (by decide +kernel) ?_
 rintro ⟨s, (c : Int), ⟨n, el⟩, ⟨⟩⟩ ⟨hm, hn, hb⟩
 obtain ⟨s, rfl⟩ := sys_ex s
 obtain ⟨nd, rfl⟩ := nds_ex el
 unfold FnSat
 conv => arg 2; reduce
 simp [proveS, checkS, keyS, adF, insS, wyI, unA, unitA, encH, encB, ElEq, aliveB, goneB, getB, maxRow, IntItems, IntItem, and_assoc]
 have hm : SysMax s := by rwa [sysOf_D] at hm
 obtain ⟨p1, p2, p3, p4, p5, p6⟩ := hm
 have en : (fun k => nd k) = nd := rfl
 simp only [en]
 refine ⟨p1, p2, p3, p4, p5, p6, fun h => ?_, fun hc => ⟨fun h => ?_, fun h5 => ⟨⟨0, rfl, (gsN_zero nd).symm, by simp [gsN_zero], (gsN_zero nd).symm, by simp [gsN_zero], by omega, fun k hk => by omega⟩, fun g hg hall => ⟨fun hlt => ⟨hlt, fun hbad => ?_, fun b1 b2 b3 b4 b5 => ?_⟩, fun hge => ⟨fun hl => ?_, fun hl => ?_⟩⟩⟩⟩⟩
 ·rw [pvE_arg h, h, errA_false]
 ·exact (pvE_many hc (by omega)).symm
 ·refine (pvE_form hc (by omega) (.inl (anyN_iff.2 ⟨g, hlt, ?_⟩))).symm
  cases hp : pvF s (nd g) with
  | true => rfl
  | false => have := pvF_iff.1 hp; omega
 ·have hF : pvF s (nd g) = false := pvF_iff.2 ⟨b1, b2, by omega, b4, b5⟩
  refine ⟨by have := gsN_le nd g; omega, by omega, by funext k; unfold ixD; rw [icast_eq'], by omega, by omega, g + 1, by omega, (gsN_succ nd g).symm, fun j hj => by rw [gsE_succ]; exact ⟨rfl, rfl, rfl, rfl, rfl, rfl, rfl⟩, (gsN_succ nd g).symm, fun j hj => by rw [gsE_succ]; exact ⟨rfl, rfl, rfl, rfl⟩, by omega, fun k hk => ?_, by omega⟩
  by_cases e : k = g
  ·subst e; exact hF
  ·exact hall k (by omega)
 ·obtain rfl : g = n := by omega
  refine (pvE_form hc (by omega) (.inr ?_)).symm
  cases ha : anyN (pvD nd) g with
  | true => rfl
  | false => have := (gs_eq (anyN_false.1 ha)).1; omega
 ·obtain rfl : g = n := by omega
  have hD := gs_all hl
  obtain ⟨e1, e2⟩ := gs_eq hD
  have B : ∀ s b, fdB (gsE nd g) s b g = fdB nd s b g := fun _ _ => fdB_congr e2
  have V : ∀ s b, fdV (gsE nd g) s b g = fdV nd s b g := fun _ _ => fdV_congr e2
  simp only [e1, B, V]
  have hv : ∀ {s : Int} {b : Bx}, fdB nd s b g = true -> 0 <= fdV nd s b g /\ fdV nd s b g < (g : Int) /\ (fdV nd s b g).toNat = fdN nd s b g := fun h => by
   rw [fdV_of h]; have := fdB_iff.1 h; omega
  have c1 := checkB_iff.1 hc
  refine ⟨p2, fun h => ⟨(hv h).1, (hv h).2.1⟩, fun h => ?_, fun h1 h2 => ⟨⟨0, rfl, by omega, fun k hk => by omega⟩, fun i hi hX => ⟨fun hlt => ?_, fun hge => ?_⟩⟩⟩
  ·refine (pvE_first hc (by omega) hall hD ?_).symm
   unfold pvA
   cases hb : fdB nd 0 s.st g with
   | false => rfl
   | true =>
     rw [hb, (hv hb).2.2] at h
     have : (nd (fdN nd 0 s.st g)).val < c := by simpa using h
     simpa using this
  ·have hA : pvA s c nd g = false := by
    unfold pvA
    rw [(hv h1).2.2] at h2
    rw [h1]; simpa using h2
   have hF := pvF_iff.1 (hall i hlt)
   refine ⟨hlt, fun a b => (pvE_sum hc (by omega) hall hD hlt (by unfold pvX; rw [if_pos a]; simpa using b)).symm, fun hz => ⟨by omega, by omega, c1.2.2.2.2.2.1, fun hin => ?_, fun hin => ?_⟩⟩
   ·have hx : pvX s nd g (nd i) = false := by
     unfold pvX
     split
     ·rename_i e; simpa using hz e
     ·rw [hin]; rfl
    refine ⟨by omega, by omega, i + 1, by omega, by omega, fun k hk => ?_, by omega⟩
    by_cases e : k = i
    ·subst e; exact hx
    ·exact hX k (by omega)
   ·have hw : WyOK s (nd i) := ⟨hc, hF.1, hF.2.2.1, near_wide (near_of_in hc hF.2.2.1 hin)⟩
    refine ⟨⟨p1, p2, p3, p4, p5, p6⟩, hw, fun k hk hB => ⟨fun hlt2 => ?_, fun hge2 => ?_⟩⟩
    ·obtain ⟨q1, q2, q3⟩ := wyM_spec hlt2
     have q4 := modeB_iff.1 (c1.2.2.2.2.2.2.2.2.2.2 _ q2)
     refine ⟨by omega, by omega, by omega, fun h => ⟨(hv h).1, (hv h).2.1⟩, fun _ => q2, fun _ => by omega, fun h => ?_, fun h h' => ⟨by omega, fun k' hk' => ?_⟩⟩
     ·refine (pvE_sum hc (by omega) hall hD hlt (pvX_out hin hlt2 (pvB_true.2 ⟨q3, ?_⟩))).symm
      cases hb : fdB nd ((nd i).slot + 1) (adV s (nd i).slot (wyM s (nd i) k) (nd i).box) g with
      | false => exact .inl rfl
      | true =>
        rw [hb, (hv hb).2.2] at h
        exact .inr (by simpa using h)
     ·by_cases e : k' = k
      ·subst e
       cases hb : pvB s nd g (nd i) (wyM s (nd i) k') with
       | false => rfl
       | true =>
         rw [(hv h).2.2] at h'
         rcases (pvB_true.1 hb).2 with h2 | h2
         ·rw [h] at h2; cases h2
         ·omega
      ·exact hB k' (by omega)
    ·refine ⟨by omega, by omega, i + 1, by omega, by omega, fun k' hk' => ?_, by omega⟩
     by_cases e : k' = i
     ·subst e
      exact pvX_in hz hF.2.1 fun j hj => hB j (by omega)
     ·exact hX k' (by omega)
  ·obtain rfl : i = g := by omega
   refine (pvE_ok hc (by omega) hall hD ?_ hX).symm
   unfold pvA
   rw [(hv h1).2.2] at h2
   rw [h1]; simpa using h2
end Abs
end Go.Proofs.Ytdfdjlijghjdaaa

namespace Go.Proofs.Ytdfdjlijghjdaaa
namespace Abs
open Go Go.RowKit
@[irreducible] def fnP (nd : Nat -> Nd) (s : Int) (b : Bx) (k : Nat) : Bool := decide ((nd k).slot = s) && eqBx (nd k).box b
@[irreducible] def fnN (nd : Nat -> Nd) (s : Int) (b : Bx) (n : Nat) : Nat := firstN (fnP nd s b) n
@[irreducible] def fnV (nd : Nat -> Nd) (s : Int) (b : Bx) (n : Nat) : Int := if fnN nd s b n < n then (fnN nd s b n : Int) else -1
theorem kyE_box {y : Nd} {s : Int} {b : Bx} {m : Nat} (h1 : y.box.len = m) (h2 : b.len = m) (h3 : m <= 3) : kyE y s b = (decide (y.slot = s) && eqBx y.box b) := by
 rw [Bool.eq_iff_iff]
 unfold kyE
 simp only [Bool.and_eq_true, decide_eq_true_eq, eqBx_iff]
 unfold kLo kHi
 constructor
 ·rintro ⟨e, a0, b0, a1, b1, a2, b2⟩
  refine ⟨e.symm, by omega, fun k hk => ?_⟩
  have : k = 0 \/ k = 1 \/ k = 2 := by omega
  rcases this with rfl | rfl | rfl
  ·rw [if_pos (by omega), if_pos (by omega)] at a0 b0; exact ⟨a0.symm, b0.symm⟩
  ·rw [if_pos (by omega), if_pos (by omega)] at a1 b1; exact ⟨a1.symm, b1.symm⟩
  ·rw [if_pos (by omega), if_pos (by omega)] at a2 b2; exact ⟨a2.symm, b2.symm⟩
 ·rintro ⟨e, hl, hk⟩
  have key : ∀ j, (if j < b.len then b.lo j else 0) = (if j < y.box.len then y.box.lo j else 0) /\ (if j < b.len then b.hi j else 0) = (if j < y.box.len then y.box.hi j else 0) := fun j => by
   rw [hl]
   by_cases hj : j < b.len
   ·simp only [if_pos hj]
    exact ⟨(hk j (by omega)).1.symm, (hk j (by omega)).2.symm⟩
   ·simp only [if_neg hj]; exact ⟨trivial, trivial⟩
  exact ⟨e.symm, (key 0).1, (key 0).2, (key 1).1, (key 1).2, (key 2).1, (key 2).2⟩
theorem fn_fd {nd : Nat -> Nd} {s : Int} {b : Bx} {n m : Nat} (h1 : ∀ k, k < n -> (nd k).box.len = m) (h2 : b.len = m) (h3 : m <= 3) : fnN nd s b n = fdN nd s b n := by
 unfold fnN fdN
 have h4 := firstN_le (fun k => kyE (nd k) s b) n
 refine firstN_uniq h4 (fun j hj => ?_) (fun hlt => ?_)
 ·have := firstN_not (fun k => kyE (nd k) s b) n j hj
  unfold fnP
  rw [<- kyE_box (h1 j (by omega)) h2 h3]; exact this
 ·have := firstN_is (fun k => kyE (nd k) s b) n hlt
  unfold fnP
  rw [<- kyE_box (h1 _ hlt) h2 h3]; exact this
theorem fnV_neg {nd : Nat -> Nd} {s : Int} {b : Bx} {n m : Nat} (h1 : ∀ k, k < n -> (nd k).box.len = m) (h2 : b.len = m) (h3 : m <= 3) : fnV nd s b n < 0 ↔ fdB nd s b n = false := by
 unfold fnV fdB
 rw [fn_fd h1 h2 h3]
 by_cases h : fdN nd s b n < n
 ·rw [if_pos h]; simp [h]
 ·rw [if_neg h]; simp [h]
theorem fnV_pos {nd : Nat -> Nd} {s : Int} {b : Bx} {n m : Nat} (h1 : ∀ k, k < n -> (nd k).box.len = m) (h2 : b.len = m) (h3 : m <= 3) (h : 0 <= fnV nd s b n) : fdB nd s b n = true /\ (fnV nd s b n).toNat = fdN nd s b n /\ fnV nd s b n < n := by
 have hb : fdB nd s b n = true := by
  cases hf : fdB nd s b n with
  | true => rfl
  | false => have := (fnV_neg h1 h2 h3).2 hf; omega
 have hlt := fdB_iff.1 hb
 unfold fnV
 rw [fn_fd h1 h2 h3, if_pos hlt]
 exact ⟨hb, by omega, by omega⟩
def nfdS : Spec [nodesSh, .int .i64, spansSh] := ⟨fun ((n, el), (_ : Int), b, _) => n <= maxLen /\ ∀ k, k < n -> (ndOf (el k)).box.len <= maxLen, fun ((n, el), (s : Int), b, _) => .si .i64 (fnV (fun k => ndOf (el k)) s (bxOf b) n)⟩
noncomputable def nfdI : DatL [nodesSh, .int .i64, spansSh] -> Anns := fun ((n, el), (s : Int), b, _) => [
 (2, [], fun fr hp => ⟨Nat, fun g => ⟨frI [.k 7, .s (.si .i64 (icast g)), .t 23] fr, hp⟩, Nat × Nat × (Nat -> Bool), fun g => (g, n, fnP (fun k => ndOf (el k)) s (bxOf b)), fun (g, n, p) => g <= n /\ ∀ k, k < g -> p k = false, fun g => nsub n g⟩)]
set_option maxRecDepth 100000 in
theorem nfd_ok : FnSpec Try.prog 37 _ nfdS := by
 refine FnSpec.of SYd2_ok mixed (U := 0) (I := nfdI) Try.func37 rfl (by kernel_rfl) rfl rfl (by decide +kernel) ?_
 rintro ⟨⟨n, el⟩, (s : Int), b, ⟨⟩⟩ ⟨hn, hb⟩
 obtain ⟨nd, rfl⟩ := nds_ex el
 obtain ⟨b, rfl⟩ := bx_ex b
 have hb : ∀ k, k < n -> (nd k).box.len <= maxLen := fun k hk => by have := hb k hk; simpa using this
 unfold maxLen at hn
 unfold FnSat
 conv => arg 2; reduce
 simp [nfdS, sameBS, ElEq, and_assoc]
 have en : (fun k => nd k) = nd := rfl
 simp only [en]
 refine ⟨⟨0, rfl, by omega, fun k hk => by omega⟩, fun g hg hp => ⟨fun hlt => ⟨hlt, fun _ => hlt, fun _ => hb g hlt, fun e1 e2 => ?_, fun h => ⟨by omega, by omega, g + 1, by omega, by omega, fun k hk => ?_, by omega⟩⟩, fun hge => ?_⟩⟩
 ·have : fnN nd s b n = g := by unfold fnN; exact firstN_uniq (by omega) hp (fun _ => by unfold fnP; simp [e1, e2])
  unfold fnV; rw [this, if_pos hlt]
 ·by_cases e : k = g
  ·subst e
   unfold fnP
   by_cases e1 : (nd k).slot = s
   ·simp [e1, h e1]
   ·simp [e1]
  ·exact hp k (by omega)
 ·obtain rfl : g = n := by omega
  have : fnN nd s b g = g := by unfold fnN; exact firstN_uniq (Nat.le_refl _) hp (fun h => absurd h (Nat.lt_irrefl _))
  unfold fnV; rw [this]; simp
noncomputable def SYf0 : Sums := ⟨(12, mkSum _ proveS) :: (37, mkSum _ nfdS) :: SYd2.one, SYd2.two, SYd2.lo, SYd2.eqs, SYd2.its, SYd2.imm⟩
theorem SYf0_ok : SumsOK Try.prog SYf0 := ((SYd2_ok.cons Try.func37 (by kernel_rfl) (by kernel_rfl) nfd_ok).cons Try.func12 (by kernel_rfl) (by kernel_rfl) prove_ok)
noncomputable def rproveI : DatL [sysSh, .int .i64, nodesSh] -> Anns := fun (s, (_ : Int), (n, el), _) => [
 (7, [], fun fr hp => ⟨Nat, fun g => ⟨frI [.k 8, .s (.si .i64 (icast g)), .k 15, .t 59] fr, hp⟩,
  Nat × Nat × (Nat -> Bool) × (Nat -> Int), fun g => (g, n, fun k => pvF (sysOf s) (ndOf (el k)), fun k => fnV (fun k => ndOf (el k)) (ndOf (el k)).slot (ndOf (el k)).box k), fun (g, n, p, q) => g <= n /\ (∀ k, k < g -> p k = false) /\ ∀ k, k < g -> q k < 0, fun g => nsub n g⟩),
 (15, [], fun fr hp => ⟨Nat, fun g => ⟨frI [.k 10, .s (.si .i64 (icast g)), .t 4, .k 83, .t 67] fr, hp⟩,
  Nat × Nat × (Nat -> Bool), fun g => (g, n, fun k => pvX (sysOf s) (fun k => ndOf (el k)) n (ndOf (el k))), fun (g, n, p) => g <= n /\ ∀ k, k < g -> p k = false, fun g => nsub n g⟩),
 (22, [], fun fr hp => ⟨Nat, fun g => ⟨frI [.k 12, .s (.si .i64 (icast g)), .t 2, .k 100, .t 50] fr, hp⟩,
  Nat × Sys × (Nat -> Bool), fun g => (g, sysOf s, pvB (sysOf s) (fun k => ndOf (el k)) n (ndOf (el (nat (intOf (getL fr 10)))))), fun (g, s, p) => g <= s.nmd /\ ∀ k, k < g -> p k = false, fun g => nsub s.2.2.1.1 g⟩)]
set_option maxRecDepth 100000 in
set_option maxHeartbeats 4000000 in
theorem rprove_ok : FnSpec Try.prog 13 _ proveS := by
 refine FnSpec.of SYf0_ok mixed (U := 0) (I := rproveI) Try.func13 rfl (by kernel_rfl) rfl rfl (by decide +kernel) ?_
 rintro ⟨s, (c : Int), ⟨n, el⟩, ⟨⟩⟩ ⟨hm, hn, hb⟩
 obtain ⟨s, rfl⟩ := sys_ex s
 obtain ⟨nd, rfl⟩ := nds_ex el
 have hb : ∀ k, k < n -> (nd k).box.len <= maxLen := fun k hk => by have := hb k hk; simpa using this
 unfold FnSat
 conv => arg 2; reduce
 simp [proveS, checkS, nfdS, advS, rinsS, inS, unA, unitA, ElEq, aliveB, goneB, getB, maxRow, and_assoc]
 have hm : SysMax s := by rwa [sysOf_D] at hm
 obtain ⟨p1, p2, p3, p4, p5, p6⟩ := hm
 have en : (fun k => nd k) = nd := rfl
 simp only [en]
 refine ⟨p1, p2, p3, p4, p5, p6, fun h => (pvE_arg h).symm, fun hc => ⟨fun h => (pvE_many hc (by omega)).symm, fun h5 => ⟨⟨0, rfl, by omega, fun k hk => by omega, fun k hk => by omega⟩, fun g hg hall hdup => ?_⟩⟩⟩
 have c1 := checkB_iff.1 hc
 have hlen : ∀ k, k < g -> (nd k).box.len = s.lim.len := fun k hk => (pvF_iff.1 (hall k hk)).2.2.1
 have hD : ∀ k, k < g -> pvD nd k = false := fun k hk => by
  unfold pvD
  exact (fnV_neg (fun j hj => hlen j (by omega)) (hlen k hk) c1.2.1).1 (hdup k hk)
 refine ⟨fun hlt => ⟨hlt, fun _ => hlt, fun _ _ => hlt, fun _ _ _ => hlt, fun _ _ _ _ _ => hg, fun _ _ _ _ _ => hlt, fun _ _ _ _ _ => ⟨by omega, fun k hk => hb k (by omega)⟩, fun hbad => ?_, fun b1 b2 b3 b4 b5 b6 => ?_⟩, fun hge => ?_⟩
 ·refine (pvE_form hc (by omega) ?_).symm
  cases hp : pvF s (nd g) with
  | true => exact .inl (anyN_iff.2 ⟨g, hlt, hp⟩)
  | false =>
    have hF := pvF_iff.1 hp
    refine .inr (anyN_iff.2 ⟨g, hlt, ?_⟩)
    have h0 : 0 <= fnV nd (nd g).slot (nd g).box g := by omega
    unfold pvD
    exact (fnV_pos hlen hF.2.2.1 c1.2.1 h0).1
 ·have hF : pvF s (nd g) = false := pvF_iff.2 ⟨b1, b2, by omega, b4, b5⟩
  refine ⟨by omega, by omega, g + 1, by omega, by omega, fun k hk => ?_, fun k hk => ?_, by omega⟩
  ·by_cases e : k = g
   ·subst e; exact hF
   ·exact hall k (by omega)
  ·by_cases e : k = g
   ·subst e; exact b6
   ·exact hdup k (by omega)
 ·obtain rfl : g = n := by omega
  have N : ∀ {s' : Int} {b : Bx}, b.len = s.lim.len -> (fnV nd s' b g < 0 ↔ fdB nd s' b g = false) := fun h => fnV_neg hlen h c1.2.1
  have V : ∀ {s' : Int} {b : Bx}, b.len = s.lim.len -> 0 <= fnV nd s' b g -> fdB nd s' b g = true /\ (fnV nd s' b g).toNat = fdN nd s' b g /\ fnV nd s' b g < g := fun h => fnV_pos hlen h c1.2.1
  have hst : s.st.len = s.lim.len := c1.2.2.2.2.2.2.1
  refine ⟨hn, hb, fun h => ⟨h, (V hst h).2.2⟩, fun h => ?_, fun h1 h2 => ⟨⟨0, rfl, by omega, fun k hk => by omega⟩, fun i hi hX => ⟨fun hlt => ⟨hlt, fun e => ⟨fun hz => ?_, fun hz => ?_⟩, fun e => ⟨⟨0, rfl, by omega, fun k hk => by omega⟩, fun k hk hB => ⟨fun hkl => hb i hlt, fun hkl hin => ?_, fun hno => ?_⟩⟩⟩, fun hge => ?_⟩⟩⟩
  ·refine (pvE_first hc (by omega) hall hD ?_).symm
   unfold pvA
   cases hf : fdB nd 0 s.st g with
   | false => rfl
   | true =>
     have h0 : 0 <= fnV nd 0 s.st g := by
      rcases Int.lt_or_le (fnV nd 0 s.st g) 0 with h3 | h3
      ·rw [(N hst).1 h3] at hf; cases hf
      ·exact h3
     rw [(V hst h0).2.1] at h
     have : (nd (fdN nd 0 s.st g)).val < c := by omega
     simpa using this
  ·exact (pvE_sum hc (by omega) hall hD hlt (by unfold pvX; rw [if_pos e]; simpa using hz)).symm
  ·refine ⟨by omega, by omega, i + 1, by omega, by omega, fun k' hk' => ?_, by omega⟩
   by_cases e' : k' = i
   ·subst e'
    unfold pvX; rw [if_pos e]; simpa using hz
   ·exact hX k' (by omega)
  ·have hF := pvF_iff.1 (hall i hlt)
   have hin' := (rinV_iff.1 hin).2
   have hAd : AdOK s (nd i).slot k (nd i).box := adOK_of hc hF.1 (by omega) (by omega) (by omega) hF.2.2.1 (near_wide (near_of_in hc hF.2.2.1 hin'))
   have hal : (adV s (nd i).slot k (nd i).box).len = s.lim.len := by rw [adV_len]; exact hF.2.2.1
   have q4 := modeB_iff.1 (c1.2.2.2.2.2.2.2.2.2.2 _ hkl)
   refine ⟨hAd, by omega, by omega, hn, hb, hb i hlt, fun _ h => ⟨h, (V hal h).2.2⟩, fun _ _ => hkl, fun _ _ => by omega, fun a b => ⟨a, b⟩, fun hr hbad => ?_, fun hgood => ⟨by omega, by omega, k + 1, by omega, by omega, fun k' hk' => ?_, by omega⟩⟩
   ·have hw : wyB s (nd i) k = true := by unfold wyB; exact (rinV_iff.1 hr).2
    refine (pvE_sum hc (by omega) hall hD hlt ?_).symm
    unfold pvX
    rw [if_neg e, hin', anyN_iff.2 ⟨k, hkl, pvB_true.2 ⟨hw, ?_⟩⟩]
    ·rfl
    ·rcases Int.lt_or_le (fnV nd ((nd i).slot + 1) (adV s (nd i).slot k (nd i).box) g) 0 with h3 | h3
     ·exact .inl ((N hal).1 h3)
     ·rw [(V hal h3).2.1] at hbad
      exact .inr (by omega)
   ·by_cases e' : k' = k
    ·subst e'
     cases hf : pvB s nd g (nd i) k' with
     | false => rfl
     | true =>
       obtain ⟨hw, h3⟩ := pvB_true.1 hf
       have hr : rinV s.lim (adV s (nd i).slot k' (nd i).box) = true := rinV_iff.2 ⟨hal, by unfold wyB at hw; exact hw⟩
       obtain ⟨h4, h6⟩ := hgood hr
       obtain ⟨v1, v2, v3⟩ := V hal h4
       rw [v2] at h6
       rcases h3 with h3 | h3
       ·rw [v1] at h3; cases h3
       ·omega
    ·exact hB k' (by omega)
  ·refine ⟨by omega, by omega, i + 1, by omega, by omega, fun k' hk' => ?_, by omega⟩
   by_cases e' : k' = i
   ·subst e'
    unfold pvX
    rw [if_neg e]
    cases hiv : inV s.lim (nd k').box with
    | false => rfl
    | true =>
      have : anyN (pvB s nd g (nd k')) s.nmd = false := anyN_false.2 fun m hm' => by
       rcases Nat.lt_or_ge k s.nmd with h3 | h3
       ·have := hno h3
        have : rinV s.lim (nd k').box = true := rinV_iff.2 ⟨(pvF_iff.1 (hall k' hlt)).2.2.1, hiv⟩
        simp_all
       ·exact hB m (by omega)
      rw [this]; rfl
   ·exact hX k' (by omega)
  ·obtain rfl : i = g := by omega
   refine (pvE_ok hc (by omega) hall hD ?_ hX).symm
   unfold pvA
   obtain ⟨v1, v2, v3⟩ := V hst h1
   rw [v2] at h2
   rw [v1]; simpa using h2
end Abs
end Go.Proofs.Ytdfdjlijghjdaaa
