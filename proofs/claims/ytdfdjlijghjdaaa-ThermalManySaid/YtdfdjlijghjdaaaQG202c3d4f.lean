/- A part of the proof: no statement of its own. -/
import Derived.Test.YtdfdjlijghjdaaaQG0e6d1000
import Derived.RangeFuncNested
import Derived.RangeFuncCalls
import Derived.RangeFuncLeaves
import Derived.OrdersIn
import Derived.Sort.LoopGhostIn
set_option linter.unusedSimpArgs false
set_option linter.unusedVariables false
namespace Go.Proofs.Ytdfdjlijghjdaaa
namespace Abs
open Go Go.RowKit
section
variable {P : Program} {S : Sums} {C C' : Cx} {w : World} {H hp : Heap}
theorem Rel.change (hI : ∀ b, C.I b -> C'.I b) {a : AV} {v : Value} (h : Rel C w a v) : ownIn a = false -> Rel C' w a v := by
 refine Rel.rec (C := C) (w := w) (motive_1 := fun a v _ => ownIn a = false -> Rel C' w a v) (motive_2 := fun l vs _ => ownIn.ownInL l = false -> RelL C' w l vs)
  ?_ ?_ ?_ ?_ ?_ ?_ ?_ ?_ ?_ ?_ ?_ ?_ ?_ ?_ ?_ ?_ ?_ ?_ ?_ ?_ ?_ h
 ·exact fun v _ => .top v
 ·exact fun k a v _ => .gd k a v
 ·exact fun k n _ => .li k n
 ·exact fun k n _ => .si k n
 ·exact fun b _ => .lb b
 ·exact fun b _ => .sb b
 ·exact fun x _ => .v x
 ·exact fun l vs _ h ho => .agg l vs (h ho)
 ·exact fun l vs _ h ho => .tup l vs (h ho)
 ·exact fun i off b c n h ho => by simp [ownIn] at ho
 ·exact fun i sz k off b c n h hk ho => by simp [ownIn] at ho
 ·exact fun i b c n h ho => by simp [ownIn] at ho
 ·exact fun i n sz b c m h ho => by simp [ownIn] at ho
 ·exact fun i h ho => by simp [ownIn] at ho
 ·intro n sz el A cap vs hcap hA _ hl hn ih _
  refine .slc n sz el A cap vs hcap (fun h0 => ?_) (fun k hk => ih k hk (own_ok (hn k hk))) hl hn
  obtain ⟨ad, rfl, hI', hc⟩ := hA h0
  exact ⟨ad, rfl, hI _ hI', hc⟩
 ·exact fun l ad vs _ hI' hc hn ih _ => .xp l ad vs (ih hn) (fun h => hI _ (hI' h)) hc hn
 ·exact fun f l m vs ws _ _ h h' ho => by
   simp [ownIn] at ho
   exact .fn f l m vs ws (h ho.1) (h' ho.2)
 ·exact fun n sz el A vs hI' hc _ hl hn ih _ => .pa n sz el A vs ⟨hI'.1, fun ad e => hI _ (hI'.2 ad e)⟩ hc (fun k hk => ih k hk (own_ok (hn k hk))) hl hn
 ·exact fun i b c n h ho => by simp [ownIn] at ho
 ·exact fun _ => .nil
 ·exact fun a l v vs _ _ h h' ho => by
   simp [ownIn.ownInL] at ho
   exact .cons a l v vs (h ho.1) (h' ho.2)
theorem RelL.change (hI : ∀ b, C.I b -> C'.I b) : ∀ {l : List AV} {vs : List Value}, RelL C w l vs -> ownIn.ownInL l = false -> RelL C' w l vs
 | _, _, .nil, _ => .nil
 | _, _, .cons a l v vs h h', ho => by
   simp [ownIn.ownInL] at ho
   exact .cons a l v vs (h.change hI ho.1) (h'.change hI ho.2)
def callee (C : Cx) (w : World) (all : Bool) : Cx := ⟨fun _ => none, fun b => if all then b < w.heap.size else C.I b, fun _ => none⟩
theorem own_exp : ∀ (d : Nat) (a : AV), ownIn (expA d hp a) = false
 | 0, a => by cases a <;> simp [expA, ownIn]
 | d + 1, a => by
   have hl : ∀ l : List AV, ownIn.ownInL (l.map (expA d hp)) = false := fun l => by
    induction l with
    | nil => rfl
    | cons b l ih => simp [ownIn.ownInL, ih, own_exp d b]
   cases a <;> simp only [expA, ownIn, hl, Bool.or_false]
   ·split <;> simp [ownIn]
   ·split <;> simp [ownIn]
theorem exp_rel {all : Bool} (hH : HR C H w) (hpre : Pre hp H) : ∀ (d : Nat) {a : AV} {v : Value}, Rel C w a v -> (all = true \/ ownIn a = false) -> Rel (callee C w all) w (expA d hp a) v := by
 have hI : ∀ b, C.I b -> (callee C w all).I b := fun b hb => by
  unfold callee; cases all
  ·exact hb
  ·exact hH.ilt b hb
 intro d
 induction d with
 | zero =>
   intro a v h ho
   cases h <;> simp only [expA] <;> first | exact .top _ | exact .si _ _ | exact .sb _ | exact .v _ | skip
   ·rename_i n sz el A cap vs hcap hA hr hl hn; exact (Rel.slc n sz el A cap vs hcap hA hr hl hn).change hI rfl
   ·rename_i l ad vs hr hI' hc hn; exact (Rel.xp l ad vs hr hI' hc hn).change hI rfl
 | succ d ih =>
   have ihl : ∀ {l : List AV} {vs : List Value}, RelL C w l vs -> (all = true \/ ownIn.ownInL l = false) -> RelL (callee C w all) w (l.map (expA d hp)) vs := by
    intro l vs h
    induction l generalizing vs with
    | nil => intro _; cases h; exact .nil
    | cons b l ihl =>
      intro ho
      cases h with
      | cons _ _ u us h0 h1 =>
        refine .cons _ _ _ _ (ih h0 ?_) (ihl h1 ?_)
        ·rcases ho with ho | ho
         ·exact .inl ho
         ·simp [ownIn.ownInL] at ho; exact .inr ho.1
        ·rcases ho with ho | ho
         ·exact .inl ho
         ·simp [ownIn.ownInL] at ho; exact .inr ho.2
   intro a v h ho
   cases h with
   | top => simp only [expA]; exact .top _
   | gd => simp only [expA]; exact .top _
   | li k n => exact .si k n
   | si k n => exact .si k n
   | lb b => exact .sb b
   | sb b => exact .sb b
   | v => exact .v _
   | agg l vs h => exact .agg _ _ (ihl h (by simpa [ownIn] using ho))
   | tup l vs h => simp only [expA]; exact .top _
   | elt => simp only [expA]; exact .top _
   | lsl => simp only [expA]; exact .top _
   | slc n sz el A cap vs hcap hA hr hl hn => exact (Rel.slc n sz el A cap vs hcap hA hr hl hn).change hI rfl
   | xp l ad vs hr hI' hc hn => exact (Rel.xp l ad vs hr hI' hc hn).change hI rfl
   | pa => simp only [expA]; exact .top _
   | mp => simp only [expA]; exact .top _
   | fn f l m vs ws h h' =>
     refine .fn _ _ _ _ _ (ihl h ?_) (ihl h' ?_)
     ·rcases ho with ho | ho
      ·exact .inl ho
      ·simp [ownIn] at ho; exact .inr ho.1
     ·rcases ho with ho | ho
      ·exact .inl ho
      ·simp [ownIn] at ho; exact .inr ho.2
   | own i off b c n hρ =>
     simp only [ownIn, Bool.true_eq_false, or_false] at ho
     subst ho
     simp only [expA]
     split
     ·rename_i t l hb
      obtain ⟨hlt, hB⟩ := hpre.old hb (by simp)
      have hl := hH.live i _ hρ
      rw [hB] at hl
      obtain ⟨vs, hr, hh⟩ := hl
      rw [dropL_eq]
      refine .xp _ _ (vs.drop off) (ihl (hr.drop off) (.inl rfl)) (fun _ => ?_) (fun j hj => ?_) ?_
      ·show b < w.heap.size; exact (hH.fresh _ _ _ _ hρ).1
      ·rw [cell_add hh]; simp [List.getElem?_drop]
      ·generalize l.drop off = l'
       induction l' with
       | nil => rfl
       | cons x l' ih' => simp [ownIn.ownInL, ih', own_exp d x]
     ·exact .top _
   | row i b c n hρ =>
     simp only [ownIn, Bool.true_eq_false, or_false] at ho
     subst ho
     simp only [expA]
     split
     ·rename_i e sz m el hb
      obtain ⟨hlt, hB⟩ := hpre.old hb (by simp)
      have hl := hH.live i _ hρ
      rw [hB] at hl
      obtain ⟨hm, hcap, hs0, cs, vs, hh, hsz, hcell⟩ := hl
      subst hm
      refine .slc _ _ _ _ _ vs hcap (fun _ => ⟨_, rfl, (hH.fresh _ _ _ _ hρ).1, fun k hk j hj => ?_⟩) (fun k hk => (hcell k hk).1.change hI (own_ok (hcell k hk).2.1)) (fun k hk => (hcell k hk).2.2.1) (fun k hk => (hcell k hk).2.1)
      rw [cell_add hh, Nat.zero_add]; exact (hcell k hk).2.2.2 j hj
     ·exact .top _
   | rown i hρ =>
     simp only [expA]
     split
     ·rename_i e sz m el hb
      obtain ⟨hlt, hB⟩ := hpre.old hb (by simp)
      have hl := hH.live i _ hρ
      rw [hB] at hl
      obtain ⟨h0, _⟩ : m.val = 0 /\ _ := hl
      have := Rel.slc (C := callee C w all) (w := w) m sz el none 0 (fun _ => []) (by omega) (fun h => by omega) (fun k hk => by omega) (fun k hk => by omega) (fun k hk => by omega)
      rwa [h0] at this
     ·exact .top _
end
end Abs
end Go.Proofs.Ytdfdjlijghjdaaa

namespace Go.Proofs.Ytdfdjlijghjdaaa
namespace Abs
open Go Go.RowKit
section
variable {P : Program} {S : Sums} {C : Cx} {w : World} {H hp : Heap}
theorem fst_le (q : Nat -> Bool) : ∀ n, fstN q n <= n
 | 0 => Nat.le_refl _
 | n + 1 => by
   have := fst_le q n
   unfold fstN
   split
   ·omega
   ·split <;> omega
theorem fst_lt {q : Nat -> Bool} {n : Nat} (h : fstN q n < n) : q (fstN q n) = true := by
 induction n with
 | zero => exact absurd h (Nat.not_lt_zero _)
 | succ n ih =>
   unfold fstN at h ⊢
   cases hb : Nat.blt (fstN q n) n with
   | true => rw [hb] at h; exact ih (by simpa [Nat.blt_eq] using hb)
   | false =>
     rw [hb] at h
     cases hq : q n with
     | true => exact hq
     | false => rw [hq] at h; exact absurd h (Nat.lt_irrefl _)
theorem fst_not {q : Nat -> Bool} {n : Nat} : ∀ k, k < fstN q n -> q k = false := by
 induction n with
 | zero => intro k h; exact absurd h (Nat.not_lt_zero _)
 | succ n ih =>
   intro k h
   have hle := fst_le q n
   unfold fstN at h
   cases hb : Nat.blt (fstN q n) n with
   | true => rw [hb] at h; exact ih k h
   | false =>
     rw [hb] at h
     have hb : ¬ fstN q n < n := fun hh => by
      have : Nat.blt (fstN q n) n = true := by rw [Nat.blt_eq]; exact hh
      rw [hb] at this; cases this
     have he : fstN q n = n := by omega
     cases hq : q n with
     | true => rw [hq] at h; exact ih k (by simp only at h; omega)
     | false =>
       rw [hq] at h
       by_cases hk : k = n
       ·rw [hk]; exact hq
       ·exact ih k (by simp only at h; omega)
def seekV (q : Nat -> Bool) (v : Nat -> Value) : Nat -> Nat -> Option (Nat × Value)
 | _, 0 => none
 | i, n + 1 => match q i with | true => some (i, v i) | false => seekV q v (i + 1) n
theorem seek_fst (q : Nat -> Bool) (v : Nat -> Value) : ∀ (n i : Nat), (∀ k, k < i -> q k = false) -> seekV q v i n = if fstN q (i + n) < i + n then some (fstN q (i + n), v (fstN q (i + n))) else none
 | 0, i, h => by
   unfold seekV
   rw [Nat.add_zero, if_neg]
   intro hh
   have h1 := fst_lt hh
   rw [h _ hh] at h1; cases h1
 | n + 1, i, h => by
   unfold seekV
   cases hq : q i with
   | true =>
     have h1 : ¬ fstN q (i + (n + 1)) < i := fun hh => by
      have := fst_lt (q := q) (n := i + (n + 1)) (by omega)
      rw [h _ hh] at this; cases this
     have h2 : ¬ i < fstN q (i + (n + 1)) := fun hh => by
      rw [fst_not _ hh] at hq; cases hq
     have h3 : fstN q (i + (n + 1)) = i := by omega
     rw [h3, if_pos (by omega)]
   | false =>
     have := seek_fst q v n (i + 1) (fun k hk => by
      by_cases e : k = i
      ·subst e; exact hq
      ·exact h k (by omega))
     rw [show i + 1 + n = i + (n + 1) by omega] at this
     exact this
theorem tabT_some {t : TypeId} {ks : List (Option IntKind)} {kv : IntKind} (h : tabT P S t = some (ks, kv)) :
  ∃ kt et, P.underlying t = some (.map kt et) /\ kt < 1048576 /\ isAgg P kt = some true /\ findS S.eqs kt = some ks /\ ∃ iz, P.info? et = some iz /\ iz.zero = some (.int kv 0) := by
 unfold tabT at h
 split at h
 ·rename_i kt et hu
  split at h
  ·rename_i h1 h2 h3 h4
   injection h with h; injection h with e1 e2; subst e1 e2
   refine ⟨kt, et, hu, by simpa [Nat.blt_eq] using h1, h2, h3, ?_⟩
   unfold zeroI at h4
   split at h4
   ·rename_i iz hi
    split at h4
    ·rename_i k x hz
     split at h4
     ·rename_i hd
      injection h4 with h4; subst h4
      have hd : x = 0 := by simpa using hd
      subst hd
      exact ⟨iz, hi, hz⟩
     ·cases h4
    ·cases h4
   ·cases h4
  ·cases h
 ·cases h
theorem key_eq (hS : ∀ t ks, findS S.eqs t = some ks -> EqOK P t ks) {kt : TypeId} {ks : List (Option IntKind)} (hlt : kt < 1048576) (hf : findS S.eqs kt = some ks) {l m : List AV} {vs ws : List Value}
  (h1 : okKs ks l = true) (h2 : okKs ks m = true) (h3 : RelL C w l vs) (h4 : RelL C w m ws) : ∃ r, eqCells l m = some r /\ (Op.equal kt (.agg ⟨vs⟩) (.agg ⟨ws⟩)).run P w = .ok r w := by
 have key : ∀ {ks : List (Option IntKind)} {l m : List AV}, okKs ks l = true -> okKs ks m = true -> ∃ r, eqCells l m = some r := by
  intro ks
  induction ks with
  | nil =>
    intro l m h1 h2
    cases l <;> cases m <;> simp [okKs] at h1 h2
    exact ⟨true, rfl⟩
  | cons k ks ih =>
    intro l m h1 h2
    cases l with
    | nil => cases k <;> simp [okKs] at h1
    | cons a l => cases m with
      | nil => cases k <;> simp [okKs] at h2
      | cons b m =>
        have hc : (∃ r, eqC a b = some r) /\ okKs ks l = true /\ okKs ks m = true := by
         cases k with
         | some k =>
           simp only [okKs] at h1 h2
           split at h1
           ·rename_i k1 hk1
            split at h2
            ·rename_i k2 hk2
             simp only [Bool.and_eq_true, decide_eq_true_eq] at h1 h2
             obtain ⟨e1, h1⟩ := h1
             obtain ⟨e2, h2⟩ := h2
             subst e1 e2
             refine ⟨⟨ieq (intOf a) (intOf b), ?_⟩, h1, h2⟩
             unfold eqC eqI
             rw [hk1, hk2]
             simp
            ·cases h2
           ·cases h1
         | none =>
           simp only [okKs, Bool.and_eq_true] at h1 h2
           refine ⟨?_, h1.2, h2.2⟩
           cases a <;> simp [isBoolV] at h1 <;> cases b <;> simp [isBoolV] at h2 <;> exact ⟨_, rfl⟩
        obtain ⟨⟨r, hr⟩, h1, h2⟩ := hc
        obtain ⟨s, hs⟩ := ih h1 h2
        unfold eqCells
        cases l with
        | nil => cases m with
          | nil => exact ⟨r, hr⟩
          | cons _ _ => simp only [hr, hs]; exact ⟨_, rfl⟩
        | cons _ _ => simp only [hr, hs]; exact ⟨_, rfl⟩
 obtain ⟨r, hr⟩ := key h1 h2
 exact ⟨r, hr, ((hS _ _ hf).1 hlt).2 C w l m vs ws r h1 h2 h3 h4 hr⟩
def TabRel (C : Cx) (w : World) (n sz : Nat) (el : Nat -> List AV) (es : Array MapEntry) (vs : Nat -> List Value) : Prop :=
 es.size = n /\ ∀ k, k < n -> RelL C w (el k) (vs k) /\ okL (el k) = true /\ (vs k).length = sz + 1 /\ ∃ e, es[k]? = some e /\ e.key = .agg ⟨(vs k).take sz⟩ /\ (vs k)[sz]? = some e.val
theorem run_asking (hS : ∀ t ks, findS S.eqs t = some ks -> EqOK P t ks) {kt : TypeId} {ks : List (Option IntKind)} {kv : IntKind} (hlt : kt < 1048576) (hf : findS S.eqs kt = some ks) {n : Nat} {el : Nat -> List AV} {es : Array MapEntry} {vs : Nat -> List Value}
  (hT : TabRel C w n ks.length el es vs) (hok : TabOK (n, ks.length, ks, kv, el)) {c : List AV} {ws : List Value} (hc : okKs ks c = true) (hr : RelL C w c ws) :
  ∀ (m i : Nat), i + m = n -> (Instr.findAsking kt (.agg ⟨ws⟩) (es.toList.drop i) i).run P w = .ok (seekV (keyQ el ks.length c) (fun k => .int kv (valQ el ks.length k)) i m) w
 | 0, i, h => by
   have : es.toList.drop i = [] := List.drop_eq_nil_of_le (by rw [Array.length_toList, hT.1]; omega)
   rw [this]; simp [Instr.findAsking, seekV]
 | m + 1, i, h => by
   obtain ⟨h1, h2, h3, e, he, hk, hv⟩ := hT.2 i (by omega)
   have hd : es.toList.drop i = e :: es.toList.drop (i + 1) := by
    have : es.toList[i]? = some e := by rw [Array.getElem?_toList]; exact he
    obtain ⟨hlt, hx⟩ := List.getElem?_eq_some_iff.1 this
    rw [<- hx]; exact List.drop_eq_getElem_cons hlt
   obtain ⟨o1, o2⟩ := hok i (by omega)
   have htk : RelL C w (takeL (el i) ks.length) ((vs i).take ks.length) := by rw [takeL_eq]; exact h1.take _
   obtain ⟨r', hr1, hr4⟩ := key_eq hS hlt hf hc o1 hr htk
   have hq : keyQ el ks.length c i = r' := by unfold keyQ; rw [hr1]
   have hval : e.val = .int kv (valQ el ks.length i) := by
    have hg : Rel C w (getL (el i) ks.length) e.val := by
     have hlen := h1.len
     have : (el i)[ks.length]? = some (getL (el i) ks.length) := by
      rw [getL_eq, List.getD_eq_getElem?_getD, List.getElem?_eq_getElem (by omega)]; rfl
     obtain ⟨v, hv1, hv2⟩ := h1.get this
     rw [hv] at hv1; injection hv1 with e; rw [e]; exact hv2
    rw [kindOf_rel hg o2]
    unfold valQ; rfl
   rw [hd, Instr.findAsking, hk]
   simp only [Sem.run_bind, hr4, Result.andThen_ok]
   unfold seekV
   rw [hq]
   cases r' with
   | true => simp [hval]
   | false =>
     have := run_asking hS hlt hf hT hok hc hr m (i + 1) (by omega)
     simpa using this
theorem run_findKey (hS : ∀ t ks, findS S.eqs t = some ks -> EqOK P t ks) {kt : TypeId} {ks : List (Option IntKind)} {kv : IntKind} (hlt : kt < 1048576) (ha : isAgg P kt = some true) (hf : findS S.eqs kt = some ks) {n : Nat} {el : Nat -> List AV} {es : Array MapEntry} {vs : Nat -> List Value}
  (hT : TabRel C w n ks.length el es vs) (hok : TabOK (n, ks.length, ks, kv, el)) {c : List AV} {ws : List Value} (hc : okKs ks c = true) (hr : RelL C w c ws) :
  (Instr.findKey kt (.agg ⟨ws⟩) es.toList).run P w = .ok (if fstN (keyQ el ks.length c) n < n then some (fstN (keyQ el ks.length c) n, .int kv (valQ el ks.length (fstN (keyQ el ks.length c) n))) else none) w := by
 have h0 := run_asking hS hlt hf hT hok hc hr n 0 (by omega)
 rw [List.drop_zero, seek_fst _ _ n 0 (fun k hk => absurd hk (Nat.not_lt_zero _)), Nat.zero_add] at h0
 have hag : ∃ d, P.underlying kt = some d /\ ∀ k x, Instr.sameNow d (.agg k) x = none := by
  unfold isAgg at ha
  split at ha
  ·rename_i fs hu; exact ⟨_, hu, fun k x => by simp [Instr.sameNow]⟩
  ·rename_i m e hu; exact ⟨_, hu, fun k x => by simp [Instr.sameNow]⟩
  ·cases ha
  ·cases ha
 obtain ⟨d, hu, hsn⟩ := hag
 unfold Instr.findKey
 simp only [Sem.run_bind, run_underlying hu, Result.andThen_ok]
 cases hes : es.toList with
 | nil =>
   have hn0 : n = 0 := by rw [<- hT.1, <- Array.length_toList, hes]; rfl
   subst hn0
   simp [Instr.findNow]
 | cons e rest =>
   rw [hes] at h0
   simp only [Instr.findNow, hsn]
   exact h0
theorem run_lookup (hS : ∀ t ks, findS S.eqs t = some ks -> EqOK P t ks) (hH : HR C H w) (hpre : Pre hp H) {t : TypeId} {a c : AV} {m k : Value} {ok : Bool} (hm : Rel C w a m) (hk : Rel C w c k) :
  Vd P S C w hp (Instr.lookup t m k ok) (lookupA P S hp t a c ok) := by
 unfold lookupA
 split
 case h_2 => exact .fail _
 rename_i ks kv i c hmt
 obtain ⟨kt, et, hu, hlt, hag, hf, iz, hi, hz⟩ := tabT_some hmt
 split
 case h_2 => exact .fail _
 rename_i n sz el hb
 split
 case h_2 => exact .fail _
 rename_i hok
 simp only [Bool.and_eq_true] at hok
 obtain ⟨hok, hsz⟩ := hok
 obtain rfl := Nat.eq_of_beq_eq_true hsz
 refine .need fun hT => ?_
 cases hm with
 | mp _ b cp q hρ =>
 have hl := hH.live _ _ hρ
 rw [(hpre.old hb (by simp)).2] at hl
 obtain ⟨es, ck, vs, hh, hs, hc⟩ := hl
 cases hk with
 | agg _ ws hws =>
 have hfk := run_findKey hS hlt hag hf (kv := kv) ⟨hs, hc⟩ hT hok hws
 have hck : (Instr.checkKey es.isEmpty 10000 kt (.agg ⟨ws⟩)).run P w = .ok () w := (hS _ _ hf).2.2 hlt _ C w c ws hok hws
 have hzv : (zeroValue et).run P w = .ok (.int kv 0) w := by simp [zeroValue, typeInfo, hi, hz]
 have hrun : (Instr.lookup t (.map (some b)) (.agg ⟨ws⟩) ok).run P w = .ok (if ok then .tuple #[.int kv (lkV n.val (keyQ el ks.length c) (valQ el ks.length)), .bool (lkB n.val (keyQ el ks.length c))] else .int kv (lkV n.val (keyQ el ks.length c) (valQ el ks.length))) w := by
  unfold Instr.lookup
  simp only [Sem.run_bind, run_underlying hu, Result.andThen_ok]
  have hg : (getObj b).run P w = .ok (.map es ck) w := by simp [getObj, Sem.run, hh]
  simp only [Sem.run_bind, hg, Result.andThen_ok, hck, hfk, Sem.run_pure]
  by_cases hlt2 : fstN (keyQ el ks.length c) n.val < n.val
  ·have hb2 : Nat.blt (fstN (keyQ el ks.length c) n.val) n.val = true := by rw [Nat.blt_eq]; exact hlt2
   rw [if_pos hlt2]
   unfold lkV lkB
   rw [hb2]
   cases ok <;> simp
  ·have hb2 : Nat.blt (fstN (keyQ el ks.length c) n.val) n.val = false := by
    cases hb3 : Nat.blt (fstN (keyQ el ks.length c) n.val) n.val with
    | false => rfl
    | true => exact absurd (by simpa [Nat.blt_eq] using hb3) hlt2
   rw [if_neg hlt2]
   unfold lkV lkB
   rw [hb2]
   cases ok <;> simp [hzv]
 cases ok with
 | true => exact .val hrun (.tup _ [_, _] (.cons _ _ _ _ (.si _ _) (.cons _ _ _ _ (.sb _) .nil)))
 | false => exact .val hrun (.si _ _)
theorem md_makeMap {t : TypeId} (hH : HR C H w) : Md P S C w H hp (Instr.makeMap t none) (makeMapA P S t) := by
 unfold makeMapA
 split
 case h_2 => exact .fail _
 rename_i ks _ _
 intro a new hq hf
 cases hq
 obtain ⟨hg, hn⟩ := hf 0 (by simp)
 simp [getB] at hg hn
 have hx : Cext C w (C.put hp.length (.at w.heap.size 0 0)) (w.alloc (.map #[] 0)) := (Grow.new C w hp.length 0 0 _).cext (fun i h1 h2 => (show i = hp.length by omega) ▸ hn) hH.ilt
 refine ⟨.map (some w.heap.size), _, _, by simp [Instr.makeMap], hH.new (o := .map #[] 0) hn (by rw [hg]; exact ⟨#[], 0, fun _ => [], heap_alloc_self w _, rfl, fun k hk => absurd hk (Nat.not_lt_zero _)⟩), .mp _ _ _ _ Cx.put_eq, Grow.new C w hp.length 0 0 _⟩
theorem addLN_val (n m : LN) : (addLN n m).val = n.val + m.val := by
 cases n <;> cases m <;> simp [addLN, LN.val, nadd]
theorem catL_eq (n : LN) (f g : Nat -> List AV) (k : Nat) : catL n f g k = if k < n.val then f k else g (k - n.val) := by
 unfold catL
 split
 ·simp [LN.val]
 ·unfold catE; rfl
theorem okL_snoc : ∀ {c : List AV} {x : AV}, okL c = true -> okC x = true -> okL (c ++ [x]) = true
 | [], x, _, h => by simp [okL, h]
 | a :: c, x, h, h' => by
   simp only [okL, Bool.and_eq_true] at h
   simp only [List.cons_append, okL, h.1, okL_snoc h.2 h', Bool.and_self]
theorem okKs_ok : ∀ {ks : List (Option IntKind)} {c : List AV}, okKs ks c = true -> okL c = true
 | [], [], _ => rfl
 | [], _ :: _, h => by simp [okKs] at h
 | some k :: ks, a :: c, h => by
   simp only [okKs] at h
   split at h
   ·rename_i k' hk
    simp only [Bool.and_eq_true] at h
    simp only [okL, okKs_ok h.2, Bool.and_true]
    cases a <;> simp [kindOf] at hk <;> rfl
   ·cases h
 | none :: ks, a :: c, h => by
   simp only [okKs, Bool.and_eq_true] at h
   simp only [okL, okKs_ok h.2, Bool.and_true]
   have := h.1
   cases a <;> simp [isBoolV] at this <;> rfl
 | some _ :: _, [], h => by simp [okKs] at h
 | none :: _, [], h => by simp [okKs] at h
theorem okKs_len : ∀ {ks : List (Option IntKind)} {c : List AV}, okKs ks c = true -> c.length = ks.length
 | [], [], _ => rfl
 | [], _ :: _, h => by simp [okKs] at h
 | some k :: ks, a :: c, h => by
   simp only [okKs] at h
   split at h
   ·simp only [Bool.and_eq_true] at h; simp [okKs_len h.2]
   ·cases h
 | none :: ks, a :: c, h => by
   simp only [okKs, Bool.and_eq_true] at h; simp [okKs_len h.2]
 | some _ :: _, [], h => by simp [okKs] at h
 | none :: _, [], h => by simp [okKs] at h
theorem run_update (hS : ∀ t ks, findS S.eqs t = some ks -> EqOK P t ks) (hH : HR C hp w) {t : TypeId} {a c x : AV} {m k v : Value} {q : Cd} {r : AR} (hm : Rel C w a m) (hk : Rel C w c k) (hv : Rel C w x v)
  (h : mapUpdateA P S hp t a c x = .need q r) (hq : q.ok) : ∃ q' i B b cp n' es ck e, r = .need q' (.upd i B) /\ (q'.ok -> (Instr.mapUpdate t m k v).run P w = .ok () { w with heap := w.heap.setIfInBounds b (.map (es.push e) (ck + 1)) } /\ C.ρ i = some (.at b cp n') /\ i < hp.length /\
   w.heap[b]? = some (.map es ck) /\ ∀ (C' : Cx) (w' : World), (∀ l vs, okL l = true -> RelL C w l vs -> RelL C' w' l vs) -> w'.heap[b]? = some (.map (es.push e) (ck + 1)) -> BRel C' w' (.at b cp n') B) := by
 unfold mapUpdateA at h
 split at h
 case h_2 => cases h
 rename_i ks kv i c hmt
 obtain ⟨kt, et, hu, hlt, hag, hf, iz, hi, hz⟩ := tabT_some hmt
 split at h
 case h_2 => cases h
 rename_i n sz el kv' hb hkv
 split at h
 case h_2 => cases h
 rename_i hok
 simp only [Bool.and_eq_true, decide_eq_true_eq] at hok
 obtain ⟨⟨hok, hsz⟩, rfl⟩ := hok
 obtain rfl := Nat.eq_of_beq_eq_true hsz
 injection h with h1 h2
 subst h1 h2
 cases hm with
 | mp _ b cp n' hρ =>
 have hl := hH.live _ _ hρ
 rw [hb] at hl
 obtain ⟨es, ck, vs, hh, hs, hc⟩ := hl
 cases hk with
 | agg _ ws hws =>
 have hfk := run_findKey hS hlt hag hf (kv := kv') ⟨hs, hc⟩ hq hok hws
 have hck : (Instr.checkKey false 10000 kt (.agg ⟨ws⟩)).run P w = .ok () w := (hS _ _ hf).2.2 hlt _ C w c ws hok hws
 have hvv := kindOf_rel hv hkv
 refine ⟨_, i, _, b, cp, n', es, ck, { key := .agg ⟨ws⟩, val := v, born := ck }, rfl, fun hno => ⟨?_, hρ, ?_, hh, fun C' w' hrel hb' => ?_⟩⟩
 ·have hno : lkB n.val (keyQ el ks.length c) = false := hno
  have hnl : ¬ fstN (keyQ el ks.length c) n.val < n.val := fun hh2 => by
   unfold lkB at hno
   rw [show Nat.blt (fstN (keyQ el ks.length c) n.val) n.val = true by rw [Nat.blt_eq]; exact hh2] at hno
   cases hno
  rw [if_neg hnl] at hfk
  unfold Instr.mapUpdate
  simp only [Sem.run_bind, run_underlying hu, Result.andThen_ok]
  have hg : (getObj b).run P w = .ok (.map es ck) w := by simp [getObj, Sem.run, hh]
  simp only [Sem.run_bind, hg, Result.andThen_ok, hck, hfk]
  simp [setObj, Sem.run, hh]
 ·rcases Nat.lt_or_ge i hp.length with h | h
  ·exact h
  ·rw [getB_dead h] at hb; cases hb
 ·refine ⟨es.push _, ck + 1, fun k => if k < n.val then vs k else ws ++ [v], hb', by rw [addLN_val, Array.size_push, hs]; rfl, fun k hk => ?_⟩
  have hk : k < n.val + 1 := by rw [addLN_val] at hk; exact hk
  by_cases hkn : k < n.val
  ·obtain ⟨r1, r2, r3, e, r4, r5, r6⟩ := hc k hkn
   simp only [if_pos hkn]
   rw [catL_eq, if_pos hkn]
   exact ⟨hrel _ _ r2 r1, r2, r3, e, by rw [Array.getElem?_push_lt (by omega)]; rw [Array.getElem?_eq_getElem (by omega)] at r4; exact r4, r5, r6⟩
  ·obtain rfl : k = n.val := by omega
   simp only [if_neg (Nat.lt_irrefl n.val)]
   rw [catL_eq, if_neg (Nat.lt_irrefl _), appL_eq]
   have ho : okL (c ++ [x]) = true := by
    exact okL_snoc (okKs_ok hok) (by cases x <;> simp [kindOf] at hkv <;> rfl)
   have hlen := hws.len
   have hkl := okKs_len hok
   refine ⟨hrel _ _ ho (hws.append (.cons _ _ _ _ hv .nil)), ho, by simp [<- hlen, hkl], _, by rw [<- hs]; exact Array.getElem?_push_size, ?_, ?_⟩
   ·simp [List.take_append, <- hkl, hlen]
   ·rw [List.getElem?_append_right (by omega)]; simp [<- hkl, hlen]
end
end Abs
end Go.Proofs.Ytdfdjlijghjdaaa

namespace Go.Proofs.Ytdfdjlijghjdaaa
namespace Abs
open Go Go.RowKit
def fen (r : Option Nat) : Fence := { Fence.wide with round := r }
structure Quiet (w w' : World) : Prop where
 os : w'.os = w.os
 tape : w'.tape = w.tape
 output : w'.output = w.output
 size : w.heap.size <= w'.heap.size
 keep : ∀ k, k < w.heap.size -> w'.heap[k]? = w.heap[k]?
def IterOK (P : Program) (gf : FuncId) (it : Iter) : Prop :=
 ∀ caps x, it caps = some x -> (∀ p ∈ x.pre, p.ok) -> ∀ (C : Cx) (w : World) (lb : List Value), (∀ i, C.ρ i = none) -> (∀ b, C.I b -> b < w.heap.size) -> RelL C w caps lb ->
   ∀ (l : Nat) (J Jx : Nat -> World -> Prop), (∀ k W W', J k W -> Quiet W W' -> J k W') -> (∀ k W W', Jx k W -> Quiet W W' -> Jx k W') ->
   (∀ (k : Nat) (W0 W : World) (I1 : Nat -> Prop) (vs : List Value), k < x.n -> J k W0 -> Quiet W0 W -> (∀ b, C.I b -> I1 b) -> (∀ b, I1 b -> C.I b \/ (W0.heap.size <= b /\ b < W.heap.size)) ->
    RelL ⟨fun _ => none, I1, fun _ => none⟩ W (x.it k) vs -> YieldAt (fen none) 0 P l ⟨vs⟩ W fun e W' =>
     (∀ b, C.I b -> W'.heap[b]? = W.heap[b]?) /\ W.heap.size <= W'.heap.size /\ ((e = .returned (.bool true) /\ J (k + 1) W') \/ (e = .returned (.bool false) /\ Jx k W'))) ->
   J 0 w -> CallsIn (fen none) 0 P gf ⟨.func (.yield l) #[] #[] :: lb⟩ w fun e W' => (∃ v, e = .returned v) /\ (J x.n W' \/ ∃ k, k < x.n /\ Jx k W')
def IterOK2 (P : Program) (gf : FuncId) (it : Iter) : Prop :=
 ∀ caps x, it caps = some x -> (∀ p ∈ x.pre, p.ok) -> ∀ (lb : List Value) (l : Nat) (J Jx : Nat -> World -> Prop), (∀ k W W', J k W -> Quiet W W' -> J k W') -> (∀ k W W', Jx k W -> Quiet W W' -> Jx k W') ->
   (∀ (k : Nat) (W : World), J k W -> ∃ I0 : Nat -> Prop, (∀ b, I0 b -> b < W.heap.size) /\ RelL ⟨fun _ => none, I0, fun _ => none⟩ W caps lb /\
    (k < x.n -> ∀ (W' : World) (I1 : Nat -> Prop) (vs : List Value), Quiet W W' -> (∀ b, I1 b -> I0 b \/ (W.heap.size <= b /\ b < W'.heap.size)) -> RelL ⟨fun _ => none, I1, fun _ => none⟩ W' (x.it k) vs ->
     YieldAt (fen none) 0 P l ⟨vs⟩ W' fun e W'' => (e = .returned (.bool true) /\ J (k + 1) W'') \/ (e = .returned (.bool false) /\ Jx k W''))) ->
   ∀ w, J 0 w -> CallsIn (fen none) 0 P gf ⟨.func (.yield l) #[] #[] :: lb⟩ w fun e W' => (∃ v, e = .returned v) /\ (J x.n W' \/ ∃ k, k < x.n /\ Jx k W')
def FnAt (P : Program) (f : FuncId) : Prop := ∃ fn, P.funcs[f]? = some fn ∧ (fn.name == "runtime.NumGoroutine") = false ∧ fn.body.isNone = false
def ItsOK (P : Program) (f : Nat) (it : Iter) : Prop := (f < 1048576 -> IterOK P f it /\ FnAt P f) /\ ∀ g, f = itsKey g -> IterOK2 P g it /\ FnAt P g
structure SumsOK (P : Program) (S : Sums) : Prop where
 one : ∀ f s1, findS S.one f = some s1 -> ∀ args pre res new, s1 args = some ⟨pre, res, new⟩ -> (∀ p ∈ pre, p.ok) -> Fn P f args [] res new
 two : ∀ f s2, findS S.two f = some s2 -> ∀ args hp pre res hp' mv, s2 args hp = some ⟨pre, res, hp', mv⟩ -> (∀ p ∈ pre, p.ok) -> FnM P f args hp res hp' mv
 eqs : ∀ t ks, findS S.eqs t = some ks -> EqOK P t ks
 bodyOne : ∀ f s1, findS S.one f = some s1 → ∃ fn, P.funcs[f]? = some fn ∧ (fn.name == "runtime.NumGoroutine") = false ∧ fn.body.isNone = false
 bodyTwo : ∀ f s2, findS S.two f = some s2 → ∃ fn, P.funcs[f]? = some fn ∧ (fn.name == "runtime.NumGoroutine") = false ∧ fn.body.isNone = false
 its : ∀ f it, findS S.its f = some it -> ItsOK P f it
section
variable {P : Program} {S : Sums} {C C1 : Cx} {w w' : World} {H hp : Heap}
def Cx.join (C : Cx) (base n : Nat) (C1 : Cx) (I : Nat -> Prop) : Cx := ⟨fun i => if base <= i /\ i < base + n then C1.ρ (i - base) else C.ρ i, I, C.O⟩
theorem join_new {base n i : Nat} {I : Nat -> Prop} (h : i < n) : (C.join base n C1 I).ρ (base + i) = C1.ρ i := by
 simp [Cx.join, h]
theorem join_old {base n i : Nat} {I : Nat -> Prop} (h : i < base \/ base + n <= i) : (C.join base n C1 I).ρ i = C.ρ i := by
 unfold Cx.join; simp only; rw [if_neg (by omega)]
theorem shift_ok : ∀ {b : Nat} {a : AV}, okC a = true -> shiftA b a = a := by
 intro b a h; cases a <;> simp [okC] at h <;> rfl
theorem shift_okL : ∀ {b : Nat} {l : List AV}, okL l = true -> shiftA.shiftL b l = l
 | _, [], _ => rfl
 | b, a :: l, h => by simp [okL] at h; simp [shiftA.shiftL, shift_ok h.1, shift_okL h.2]
theorem ρ_lt {new : Heap} (hH : HR C1 new w') {i : Nat} {p : Pl} (h : C1.ρ i = some p) : i < new.length := by
 rcases Nat.lt_or_ge i new.length with hlt | hge
 ·exact hlt
 ·have := hH.live i p h; rw [getB_dead hge] at this; cases p <;> exact this.elim
theorem sh_rel {new : Heap} (hH : HR C1 new w') {base : Nat} {I : Nat -> Prop} {a : AV} {v : Value} (h : Rel C1 w' a v) :
  ((shB a = true /\ ∀ b, C1.I b -> I b) \/ plainA a = true) -> Rel (C.join base new.length C1 I) w' (shiftA base a) v := by
 refine Rel.rec (C := C1) (w := w') (motive_1 := fun a v _ => ((shB a = true /\ ∀ b, C1.I b -> I b) \/ plainA a = true) -> Rel (C.join base new.length C1 I) w' (shiftA base a) v)
  (motive_2 := fun l vs _ => ((shB.shBL l = true /\ ∀ b, C1.I b -> I b) \/ plainA.plainL l = true) -> RelL (C.join base new.length C1 I) w' (shiftA.shiftL base l) vs)
  ?_ ?_ ?_ ?_ ?_ ?_ ?_ ?_ ?_ ?_ ?_ ?_ ?_ ?_ ?_ ?_ ?_ ?_ ?_ ?_ ?_ h
 ·exact fun v _ => .top v
 ·exact fun k a v _ => .gd k a v
 ·exact fun k n _ => .li k n
 ·exact fun k n _ => .si k n
 ·exact fun b _ => .lb b
 ·exact fun b _ => .sb b
 ·exact fun x _ => .v x
 ·exact fun l vs _ h ho => .agg _ vs (h (by simpa [shB, plainA] using ho))
 ·exact fun l vs _ h ho => .tup _ vs (h (by simpa [shB, plainA] using ho))
 ·exact fun i off b c n h _ => .own _ off b c n (by rw [join_new (ρ_lt hH h)]; exact h)
 ·exact fun i sz k off b c n h hk ho => by simp [shB, plainA] at ho
 ·exact fun i b c n h _ => .row _ b c n (by rw [join_new (ρ_lt hH h)]; exact h)
 ·exact fun i n sz b c m h ho => by simp [shB, plainA] at ho
 ·exact fun i h _ => .rown _ (by rw [join_new (ρ_lt hH h)]; exact h)
 ·intro n sz el A cap vs hcap hA hr hl hn _ ho
  have hI : ∀ b, C1.I b -> I b := by
   rcases ho with ho | ho
   ·exact ho.2
   ·simp [plainA] at ho
  exact (Rel.slc n sz el A cap vs hcap hA hr hl hn).change hI rfl
 ·intro l ad vs hr hI' hc hn _ ho
  have hI : ∀ b, C1.I b -> I b := by
   rcases ho with ho | ho
   ·exact ho.2
   ·simp [plainA] at ho
  exact (Rel.xp l ad vs hr hI' hc hn).change hI rfl
 ·intro f l m vs ws h1 h2 h h' ho
  rcases ho with ⟨ho, hI⟩ | ho
  ·simp [shB] at ho
   exact (Rel.fn f l m vs ws h1 h2).change hI (by simp [ownIn, ho])
  ·simp [plainA] at ho
 ·intro n sz el ad vs hI' hc hr hl hn _ ho
  have hI : ∀ b, C1.I b -> I b := by
   rcases ho with ho | ho
   ·exact ho.2
   ·simp [plainA] at ho
  exact (Rel.pa n sz el ad vs hI' hc hr hl hn).change hI rfl
 ·exact fun i b c n h _ => .mp _ b c n (by rw [join_new (ρ_lt hH h)]; exact h)
 ·exact fun _ => .nil
 ·intro a l v vs _ _ h h' ho
  have h1 : ((shB a = true /\ ∀ b, C1.I b -> I b) \/ plainA a = true) /\ ((shB.shBL l = true /\ ∀ b, C1.I b -> I b) \/ plainA.plainL l = true) := by
   rcases ho with ⟨ho, hI⟩ | ho
   ·simp [shB.shBL] at ho; exact ⟨.inl ⟨ho.1, hI⟩, .inl ⟨ho.2, hI⟩⟩
   ·simp [plainA.plainL] at ho; exact ⟨.inr ho.1, .inr ho.2⟩
  exact .cons _ _ v vs (h h1.1) (h' h1.2)
theorem sh_relL {new : Heap} (hH : HR C1 new w') {base : Nat} {I : Nat -> Prop} : ∀ {l : List AV} {vs : List Value}, RelL C1 w' l vs ->
  ((shB.shBL l = true /\ ∀ b, C1.I b -> I b) \/ plainA.plainL l = true) -> RelL (C.join base new.length C1 I) w' (shiftA.shiftL base l) vs
 | _, _, .nil, _ => .nil
 | _, _, .cons a l v vs h h', ho => by
   have h1 : ((shB a = true /\ ∀ b, C1.I b -> I b) \/ plainA a = true) /\ ((shB.shBL l = true /\ ∀ b, C1.I b -> I b) \/ plainA.plainL l = true) := by
    rcases ho with ⟨ho, hI⟩ | ho
    ·simp [shB.shBL] at ho; exact ⟨.inl ⟨ho.1, hI⟩, .inl ⟨ho.2, hI⟩⟩
    ·simp [plainA.plainL] at ho; exact ⟨.inr ho.1, .inr ho.2⟩
   exact .cons _ _ _ _ (sh_rel hH h h1.1) (sh_relL hH h' h1.2)
theorem shiftH_len : ∀ (b : Nat) (l : Heap), (shiftH b l).length = l.length
 | _, [] => rfl
 | b, x :: l => by cases x <;> simp [shiftH, shiftH_len b l]
theorem sh_brel {new : Heap} (hH : HR C1 new w') {base : Nat} {I : Nat -> Prop} (hok : (shBH new = true /\ ∀ b, C1.I b -> I b) \/ (plainH new = true /\ ∀ p ∈ rowNeeds new, p.ok)) :
  ∀ {i : Nat} {p : Pl}, BRel C1 w' p (getB new i) -> BRel (C.join base new.length C1 I) w' p (getB (shiftH base new) i) := by
 suffices key : ∀ (l : Heap), ((shBH l = true /\ ∀ b, C1.I b -> I b) \/ (plainH l = true /\ ∀ p ∈ rowNeeds l, p.ok)) -> ∀ {i : Nat} {p : Pl}, BRel C1 w' p (getB l i) -> BRel (C.join base new.length C1 I) w' p (getB (shiftH base l) i) from
  fun {i p} => key new hok
 intro l
 induction l with
 | nil => intro _ i p h; cases p <;> exact h.elim
 | cons b l ih =>
   intro ho i p h
   have htail : (shBH l = true /\ ∀ b, C1.I b -> I b) \/ (plainH l = true /\ ∀ p ∈ rowNeeds l, p.ok) := by
    rcases ho with ⟨ho, hI⟩ | ⟨ho, hn⟩
    ·left; cases b <;> simp [shBH] at ho <;> exact ⟨by simp [ho], hI⟩
    ·right; cases b <;> simp [plainH] at ho <;> exact ⟨by simp [ho], fun p hp => hn p (by first | exact hp | exact List.mem_cons_of_mem _ hp)⟩
   cases i with
   | succ i =>
     have := ih htail (i := i) (p := p) h
     cases b <;> exact this
   | zero =>
     cases b with
     | dead => cases p <;> exact h.elim
     | tab m sz el =>
       rcases ho with ⟨ho, hI⟩ | ⟨ho, _⟩
       ·cases p with
        | nil => exact h.elim
        | «at» q cap n =>
          obtain ⟨es, ck, vs, hh, hs, hc⟩ := h
          refine ⟨es, ck, vs, hh, hs, fun k hk => ⟨?_, (hc k hk).2⟩⟩
          have hsh := sh_relL (C := C) (base := base) (I := I) hH (hc k hk).1 (by
           refine .inl ⟨?_, hI⟩
           have := (hc k hk).2.1
           generalize el k = l' at this
           induction l' with
           | nil => rfl
           | cons a l' ih' => simp [okL] at this; simp [shB.shBL, ih' this.2]; cases a <;> simp [okC] at this <;> rfl)
          rwa [shift_okL (hc k hk).2.1] at hsh
       ·simp [plainH] at ho
     | cells t c =>
       cases p with
       | nil => exact h.elim
       | «at» q cap n =>
         obtain ⟨vs, hr, hh⟩ := h
         refine ⟨vs, sh_relL hH hr ?_, hh⟩
         rcases ho with ⟨ho, hI⟩ | ⟨ho, hn⟩
         ·simp [shBH] at ho; exact .inl ⟨ho.1, hI⟩
         ·simp [plainH] at ho; exact .inr ho.1
     | row e sz m el =>
       cases p with
       | nil => exact h
       | «at» q cap n =>
         obtain ⟨h1, h2, h3, cs, vs, hh, hs, hc⟩ := h
         refine ⟨h1, h2, h3, cs, vs, hh, hs, fun k hk => ⟨?_, (hc k hk).2⟩⟩
         have hsh := sh_relL (C := C) (base := base) (I := I) hH (hc k hk).1 (by
          rcases ho with ⟨ho, hI⟩ | ⟨ho, hn⟩
          ·refine .inl ⟨?_, hI⟩
           have := (hc k hk).2.1
           generalize el k = l' at this
           induction l' with
           | nil => rfl
           | cons a l' ih' => simp [okL] at this; simp [shB.shBL, ih' this.2]; cases a <;> simp [okC] at this <;> rfl
          ·exact .inr (hn ⟨PlainEl, (m.val, el)⟩ (List.mem_cons_self ..) k (by omega)))
         rwa [shift_okL (hc k hk).2.1] at hsh
     | mat t wd m f => rcases ho with ⟨ho, _⟩ | ⟨ho, _⟩ <;> simp [shBH, plainH] at ho
     | rows e e' sz m fz ln el hol => rcases ho with ⟨ho, _⟩ | ⟨ho, _⟩ <;> simp [shBH, plainH] at ho
theorem run_callFunc {f : FuncId} {fn : Func} (hf : P.funcs[f]? = some fn) (hn : (fn.name == "runtime.NumGoroutine") = false) (hb : fn.body.isNone = false) (args : Array Value) (w : World) : (callFunc f args).run P w = .ok (.enter f args) w := by
 unfold callFunc
 simp only [Sem.run_bind, run_program, Result.andThen_ok, hf, hn, hb, Bool.false_eq_true, if_false]
 rfl
theorem since_call {w' : World} {all : Bool} (h : Since 0 (callee C w all) w C1 w') : (∀ k, k < w.heap.size -> w'.heap[k]? = w.heap[k]?) /\ ∀ i b c n, C1.ρ i = some (.at b c n) -> w.heap.size <= b :=
 ⟨fun k hk => h.keep k hk fun i b c n hi => by omega, fun i b c n hi => h.own i b c n (Nat.zero_le _) hi⟩
theorem call_merge {new : Heap} {all : Bool} {res : AV} {v : Value} (hH : HR C H w) (hf : Free C H hp (shiftH hp.length new)) (h1 : HR C1 new w') (hr : Rel C1 w' res v) (hs : Since 0 (callee C w all) w C1 w')
  (hok : (all = false /\ shB res = true /\ shBH new = true) \/ (all = true /\ plainA res = true /\ plainH new = true /\ ∀ p ∈ rowNeeds new, p.ok)) :
  ∃ C', HR C' H w' /\ Rel C' w' (shiftA hp.length res) v /\ Grow hp.length (shiftH hp.length new).length C w C' w' := by
 obtain ⟨hkeep, hown⟩ := since_call hs
 have hIall : all = false -> ∀ b, C1.I b -> C.I b \/ w.heap.size <= b := fun ha b hb => by
  subst ha; exact hs.imm' b hb
 have hIC : all = false -> ∀ b, C.I b -> C1.I b := fun ha b hb => by
  subst ha; exact hs.imm b hb
 rw [shiftH_len]
 let I : Nat -> Prop := fun b => if all then C.I b else C1.I b
 have hIlt : ∀ b, I b -> b < w'.heap.size := fun b hb => by
  cases ha : all with
  | true => simp [I, ha] at hb; exact Nat.lt_of_lt_of_le (hH.ilt b hb) hs.size
  | false => simp [I, ha] at hb; exact h1.ilt b hb
 have hIimm : ∀ b, C.I b -> I b := fun b hb => by
  cases ha : all with
  | true => simpa [I, ha] using hb
  | false => simp [I, ha]; exact hIC ha b hb
 have hIimm' : ∀ b, I b -> C.I b \/ w.heap.size <= b := fun b hb => by
  cases ha : all with
  | true => simp [I, ha] at hb; exact .inl hb
  | false => simp [I, ha] at hb; exact hIall ha b hb
 have hkey : (shB res = true /\ ∀ b, C1.I b -> I b) \/ plainA res = true := by
  rcases hok with ⟨ha, h, _⟩ | ⟨ha, h, _⟩
  ·exact .inl ⟨h, fun b hb => by simpa [I, ha] using hb⟩
  ·exact .inr h
 have hkey2 : (shBH new = true /\ ∀ b, C1.I b -> I b) \/ (plainH new = true /\ ∀ p ∈ rowNeeds new, p.ok) := by
  rcases hok with ⟨ha, _, h⟩ | ⟨ha, _, h⟩
  ·exact .inl ⟨h, fun b hb => by simpa [I, ha] using hb⟩
  ·exact .inr h
 have hg : Grow hp.length new.length C w (C.join hp.length new.length C1 I) w' :=
  ⟨hs.os, hs.tape, hs.output, hs.size, hkeep, hIimm, hIimm', fun i hi => join_old hi, fun i b c m hge hlt h => (by
   obtain ⟨t, rfl⟩ := Nat.exists_eq_add_of_le hge
   rw [join_new (by omega)] at h
   exact hown _ _ _ _ h), fun _ => rfl⟩
 have hfree : ∀ i, hp.length <= i -> i < hp.length + new.length -> C.ρ i = none := fun i hge hlt => by
  obtain ⟨t, rfl⟩ := Nat.exists_eq_add_of_le hge
  exact (hf t (by rw [shiftH_len]; omega)).2
 have hx := hg.cext hfree hH.ilt
 refine ⟨_, ⟨fun i p hi => ?_, fun i j b c n b' c' n' hi hj hne => ?_, fun i b c n hi => ?_, hIlt, fun b x hb => ?_⟩, sh_rel h1 hr hkey, hg⟩
 ·by_cases hr : hp.length <= i /\ i < hp.length + new.length
  ·obtain ⟨t, rfl⟩ := Nat.exists_eq_add_of_le hr.1
   rw [join_new (by omega)] at hi
   rw [(hf t (by rw [shiftH_len]; omega)).1]
   exact sh_brel h1 hkey2 (h1.live _ _ hi)
  ·rw [join_old (by omega)] at hi
   refine (hH.live i p hi).mono hx (fun q c m hq => hkeep q ?_) fun b x hb => ⟨hb, hkeep b (hH.sub b x hb).1⟩
   subst hq; exact (hH.fresh _ _ _ _ hi).1
 ·by_cases hr : hp.length <= i /\ i < hp.length + new.length
  ·obtain ⟨t, rfl⟩ := Nat.exists_eq_add_of_le hr.1
   rw [join_new (by omega)] at hi
   have := hown _ _ _ _ hi
   by_cases hr' : hp.length <= j /\ j < hp.length + new.length
   ·obtain ⟨t', rfl⟩ := Nat.exists_eq_add_of_le hr'.1
    rw [join_new (by omega)] at hj
    exact h1.inj _ _ _ _ _ _ _ _ hi hj (by omega)
   ·rw [join_old (by omega)] at hj
    have := (hH.fresh _ _ _ _ hj).1; omega
  ·rw [join_old (by omega)] at hi
   have := (hH.fresh _ _ _ _ hi).1
   by_cases hr' : hp.length <= j /\ j < hp.length + new.length
   ·obtain ⟨t', rfl⟩ := Nat.exists_eq_add_of_le hr'.1
    rw [join_new (by omega)] at hj
    have := hown _ _ _ _ hj; omega
   ·rw [join_old (by omega)] at hj
    exact hH.inj _ _ _ _ _ _ _ _ hi hj hne
 ·by_cases hr : hp.length <= i /\ i < hp.length + new.length
  ·obtain ⟨t, rfl⟩ := Nat.exists_eq_add_of_le hr.1
   rw [join_new (by omega)] at hi
   refine ⟨(h1.fresh _ _ _ _ hi).1, fun hI => ?_⟩
   rcases hIimm' b hI with h | h
   ·have := hH.ilt b h; have := hown _ _ _ _ hi; omega
   ·cases ha : all with
    | true =>
      simp [Cx.join, I, ha] at hI
      have := hH.ilt b hI; omega
    | false =>
      simp [Cx.join, I, ha] at hI
      exact (h1.fresh _ _ _ _ hi).2 hI
  ·rw [join_old (by omega)] at hi
   have h0 := hH.fresh _ _ _ _ hi
   refine ⟨Nat.lt_of_lt_of_le h0.1 hs.size, fun hI => ?_⟩
   rcases hIimm' b hI with h | h
   ·exact h0.2 h
   ·omega
 ·obtain ⟨s1, s2, s3, s4⟩ := hH.sub b x hb
  refine ⟨Nat.lt_of_lt_of_le s1 hs.size, fun hI => ?_, fun i b' c n hi => ?_, s4.keep (hkeep b s1)⟩
  ·rcases hIimm' b hI with h | h
   ·exact s2 h
   ·omega
  ·by_cases hr : hp.length <= i /\ i < hp.length + new.length
   ·obtain ⟨t, rfl⟩ := Nat.exists_eq_add_of_le hr.1
    rw [join_new (by omega)] at hi
    have := hown _ _ _ _ hi; omega
   ·rw [join_old (by omega)] at hi
    exact s3 i b' c n hi
end
end Abs
end Go.Proofs.Ytdfdjlijghjdaaa

namespace Go.Proofs.Ytdfdjlijghjdaaa
namespace Abs
open Go Go.RowKit
def Ran (P : Program) (o : Oper) (σ : Operand -> Value) (w : World) (K : Value -> World -> Prop) : Prop :=
 (∃ v w', (execOp σ o).run P w = .ok (.value v) w' /\ K v w') \/
 (∃ f args, (execOp σ o).run P w = .ok (.enter f args) w /\ Calls P f args w fun e w' => ∃ v, e = .returned v /\ K v w') \/
 (∃ w', (execOp σ o).run P w = .ok .skip w' /\ K undef w')
theorem Ran.mono {P : Program} {o : Oper} {σ : Operand -> Value} {w : World} {K K' : Value -> World -> Prop} (h : Ran P o σ w K) (hk : ∀ v w', K v w' -> K' v w') : Ran P o σ w K' := by
 rcases h with ⟨v, w', h1, h2⟩ | ⟨f, args, h1, h2⟩ | ⟨w', h1, h2⟩
 ·exact .inl ⟨v, w', h1, hk _ _ h2⟩
 ·exact .inr (.inl ⟨f, args, h1, h2.mono fun e w' ⟨v, he, h⟩ => ⟨v, he, hk _ _ h⟩⟩)
 ·exact .inr (.inr ⟨w', h1, hk _ _ h2⟩)
theorem fen_calls {P : Program} {f : FuncId} {args : Array Value} {w : World} {R : Ending -> World -> Prop} {n : Nat} (r : Option Nat) (h : Calls P f args w R) : CallsIn (fen r) n P f args w R := by
 cases r with
 | none => exact callsIn_wide.2 h
 | some l => exact CallsIn.inRound (F := Fence.wide) l (callsIn_wide.2 h)
theorem Ran.nodefer {P : Program} {o : Oper} {σ : Operand -> Value} {w : World} {K : Value -> World -> Prop} (h : Ran P o σ w K) : ∀ c, o.op ≠ .defer c := by
 intro c hc
 have key : ∀ x, (execOp σ o).run P w = x -> (∃ d w', x = .ok (.defer d) w') \/ ∃ hh w', x = .halt hh w' := by
  intro x hx
  unfold execOp at hx
  rw [hc] at hx
  simp only [Sem.run_bind] at hx
  cases hr : (resolve σ c o.type).run P w with
  | ok d w' => rw [hr] at hx; exact .inl ⟨d, w', by rw [<- hx]; rfl⟩
  | halt hh w' => rw [hr] at hx; exact .inr ⟨hh, w', by rw [<- hx]; rfl⟩
 rcases h with ⟨v, w', h, _⟩ | ⟨f, args, h, _⟩ | ⟨w', h, _⟩
 all_goals (rcases key _ h with ⟨d, w'', e⟩ | ⟨hh, w'', e⟩ <;> cases e)
theorem Ran.wpIn {P : Program} {o : Oper} {a : Act} {w : World} {r : Option Nat} {n : Nat} {next : Act -> World -> Prop} {Q : Exit -> Act -> World -> Prop} (h : Ran P o a.eval w fun v w' => next (a.put o.dst v) w') : o.wpIn (fen r) n P a w next Q := by
 refine ⟨fun _ _ => trivial, ?_⟩
 rw [Oper.semAt_eq _ _ _ h.nodefer]
 rcases h with ⟨v, w', h1, h2⟩ | ⟨f, args, h1, h2⟩ | ⟨w', h1, h2⟩
 ·rw [h1]; exact h2
 ·rw [h1]
  refine ⟨fun h => (by cases h), fen_calls r (h2.mono ?_)⟩
  rintro e w' ⟨v, he, h⟩
  subst he; exact h
 ·rw [h1]; exact h2
section
variable {P : Program} {S : Sums} {C : Cx} {w : World} {H hp : Heap} {ρ : Operand -> AV} {σ : Operand -> Value}
theorem evL_rel : ∀ {l : List Operand}, (∀ x ∈ l, Rel C w (ρ x) (σ x)) -> RelL C w (evL ρ l) (l.map σ)
 | [], _ => .nil
 | x :: l, h => .cons _ _ _ _ (h x (by simp)) (evL_rel fun y hy => h y (by simp [hy]))
theorem nilS_rel {a : AV} {v : Value} (h : Rel C w a v) (hn : isNilS a = true) : v = .slice none 0 0 := by
 unfold isNilS at hn
 split at hn
 ·cases h; rfl
 ·cases hn
theorem md_append {t ty : TypeId} {s x : AV} {u v : Value} (hH : HR C H w) (hpre : Pre hp H) (hs : Rel C w s u) (hx : Rel C w x v) : Md P S C w H hp (Builtin.append_ #[t, t] ty #[u, v]) (appendA P S hp t s x) := by
 unfold appendA
 split
 ·rename_i e hu
  split
  ·rename_i hn
   rw [nilS_rel hx hn]
   split
   ·rename_i k hsl hsz
    obtain ⟨i, hi⟩ := sizeT_info hsz
    have key : ∀ A (n c : Nat), n <= c -> (Builtin.append_ #[t, t] ty #[.slice A n c, .slice none 0 0]).run P w = .ok (.slice A n c) w := fun A n c hc => by
     cases A with
     | none => simp [Builtin.append_, run_underlying hu, sizeOf, typeInfo, hi, Builtin.lenOf, hc, Builtin.firstCells]
     | some a => simp [Builtin.append_, run_underlying hu, sizeOf, typeInfo, hi, Builtin.lenOf, hc, Builtin.firstCells, storeCells]
    refine Vd.md (Vd.val ?_ hs) hH
    unfold isSl at hsl
    split at hsl
    ·rename_i j
     cases hs with
     | row _ b c n hρ =>
       refine key _ _ _ ?_
       have hl := hH.live _ _ hρ
       split at hsl
       ·rename_i hb
        obtain ⟨hlt, hB⟩ := hpre.old hb (by simp)
        rw [hB] at hl; exact hl.2.1
       ·cases hsl
     | rown _ hρ => exact key _ _ _ (Nat.le_refl _)
    ·cases hs with | slc _ _ _ A cap vs hcap hA hr hl hn => exact key _ _ _ hcap
    ·rw [nilS_rel hs hsl]; exact key _ _ _ (Nat.le_refl _)
   ·exact .fail _
  ·split
   ·exact .fail _
   ·rename_i m sz elx hr
    split
    ·rename_i hsz hnz
     obtain rfl : sz = sizeT P e := Nat.eq_of_beq_eq_true hsz
     have hpos : 0 < sizeT P e := by
      rcases Nat.eq_zero_or_pos (sizeT P e) with h | h
      ·rw [h] at hnz; cases hnz
      ·exact h
     split
     ·rename_i hsn
      rw [nilS_rel hs hsn]
      split
      ·rename_i z hz
       exact .need fun hb => md_appendNil hH hpre hu hx hr rfl hpos hz hb
      ·exact .fail _
     ·intro a new hq
      exfalso
      revert hq
      repeat' split
      all_goals (intro hq; first | exact hq.fail_inv | (have := hq.need_inv.2; cases this))
    ·exact .fail _
 ·exact .fail _
theorem Md.ran {o : Oper} {m : Sem Value} {r : AR} (hm : Md P S C w H hp m r) (hx : (execOp σ o).run P w = ((m >>= fun v => pure (.value v)) : Sem Next).run P w) {a : AV} {new : Heap} (hq : PO S hp r a new) (hf : Free C H hp new) :
  Ran P o σ w fun v w' => ∃ C', HR C' H w' /\ Rel C' w' a v /\ Grow hp.length new.length C w C' w' := by
 obtain ⟨v, w', C', hr, h1, h2, h3⟩ := hm a new hq hf
 exact .inl ⟨v, w', by rw [hx]; simp [hr], C', h1, h2, h3⟩
theorem PO.callA {d : Nat} {hp0 : Heap} {g : FuncId} {args : List AV} {a : AV} {new : Heap} (h : PO S hp (Abs.callA S g d hp0 args) a new) : PO S hp (.call g args) a new := by
 cases d with
 | zero => exact h.fail_inv.elim
 | succ d =>
   rw [Abs.callA] at h
   split at h
   ·exact h
   ·cases h
theorem exec_pure (hS : SumsOK P S) (o : Oper) (hops : ∀ x ∈ o.op.operands, Rel C w (ρ x) (σ x)) (hH : HR C H w) (hpre : Pre hp H) {a : AV} {new : Heap} (hq : PO S hp (aop P S ρ hp o.op) a new) (hf : Free C H hp new) :
  Ran P o σ w fun v w' => ∃ C', HR C' H w' /\ Rel C' w' a v /\ Grow hp.length new.length C w C' w' := by
 obtain ⟨dst, op, type, pos, after, guard⟩ := o
 cases op <;> simp only [aop] at hq <;> simp only [Op.operands] at hops
 case move x => exact Md.ran (m := pure (σ x)) ((Vd.val (by simp) (hops x (by simp))).md hH) (by simp [execOp]) hq hf
 case assign x => exact Md.ran (m := pure (σ x)) ((Vd.val (by simp) (hops x (by simp))).md hH) (by simp [execOp]) hq hf
 case alloc t => exact (md_allocX hS.eqs hH).ran rfl hq hf
 case box t x => exact (md_box hH (hops x (by simp))).ran rfl hq hf
 case build t parts =>
  refine ((vd_build (P := P) (t := t) (parts := parts.map fun (i, x) => (i, σ x)) ?_).md hH).ran rfl hq hf
  rw [Array.toList_map]
  exact prel_parts _ fun x hx => hops _ (by simp; exact ⟨x.1, by simpa using hx⟩)
 case buildSlice t n parts =>
  have hp' : PRel C w (partsA ρ parts.toList) (parts.map fun (i, x) => (i, σ x)).toList := by
   rw [Array.toList_map]
   exact prel_parts _ fun x hx => hops _ (by simp; exact ⟨x.1, by simpa using hx⟩)
  cases hrow : rowIn.rowInL ((partsA ρ parts.toList).map (·.2)) with
  | none => exact (md_buildSlice hH hp' 19 hrow).ran rfl hq hf
  | some j =>
    exfalso
    rw [buildSliceA] at hq
    simp only [hrow] at hq
    cases hs : rowSlc hp j <;> simp only [hs] at hq <;> cases hq
 case load t x =>
  have hx := hops x (by simp)
  cases hl : loadA P hp t (ρ x) with
  | val b =>
    obtain ⟨u, hu, hr⟩ := run_load (P := P) hH hpre hx hl
    rw [hl] at hq
    exact ((Vd.val hu hr).md hH).ran rfl hq hf
  | fail => rw [hl] at hq; exact hq.fail_inv.elim
  | need p r =>
    rw [hl] at hq
    obtain ⟨hp', hq'⟩ := hq.need_inv
    obtain ⟨b, u, rfl, hu, hr⟩ := run_loadN (P := P) hH hpre hx hl hp'
    exact ((Vd.val hu hr).md hH).ran rfl hq' hf
  | _ =>
    exfalso
    revert hl
    unfold loadA partL
    repeat' split
    all_goals (intro hl; cases hl)
 case store t x y =>
  exfalso
  revert hq
  unfold storeA
  repeat' split
  all_goals (intro hq; first | (obtain ⟨_, h⟩ := hq.need_inv; cases h; done) | (cases hq; done))
 case nilCheck x =>
  have hx := hops x (by simp)
  cases hp' : isPtr (ρ x) with
  | true =>
    simp only [hp'] at hq
    obtain ⟨ad, hv⟩ := isPtr_rel hx hp'
    refine Md.ran (m := pure (σ x)) ((Vd.val (by simp) hx).md hH) ?_ hq hf
    simp [execOp, hv]
  | false =>
    simp only [hp'] at hq
    split at hq
    ·rename_i f l m hfn
     rw [hfn] at hx
     generalize hv : σ x = u at hx
     cases hx with
     | fn _ _ _ vs ws h h' =>
       refine Md.ran (m := pure (.func (.func f) ⟨vs⟩ ⟨ws⟩)) ((Vd.val (by simp) (.fn _ _ _ _ _ h h')).md hH) ?_ hq hf
       simp [execOp, hv]
    ·rename_i n sz el hfn
     rw [hfn] at hx
     have hn0 : 0 < n := hq.need_inv.1
     generalize hv : σ x = u at hx
     cases hx with
     | pa _ _ _ A vs hI hc hr hl hn =>
       cases A with
       | none => have := hI.1.2 rfl; omega
       | some ad =>
         refine Md.ran (m := pure (.pointer (some ad))) ((Vd.val (by simp) (.pa n sz el (some ad) vs hI hc hr hl hn)).md hH) ?_ hq.need_inv.2 hf
         simp [execOp, hv]
    ·exact hq.fail_inv.elim
 case binOp op t x y yt =>
  refine ((vd_bin (P := P) (t := t) (x := x) (y := y) hS.eqs (hops x (by simp)) (hops y (by simp))).md hH).ran ?_ hq hf
  rfl
 case unOp op t x =>
  cases op
  case neg => exact ((vd_neg (P := P) (hops x (by simp))).md hH).ran rfl hq hf
  case not => exact ((vd_not (P := P) (hops x (by simp))).md hH).ran rfl hq hf
  all_goals exact (PO.fail_inv hq).elim
 case convert s d x => exact ((vd_convert (P := P) (hops x (by simp))).md hH).ran rfl hq hf
 case fieldAddr t x f => exact ((vd_fieldAddr (P := P) (hops x (by simp))).md hH).ran rfl hq hf
 case index t x i => exact ((vd_index (P := P) (hops x (by simp)) (hops i (by simp))).md hH).ran rfl hq hf
 case field t x f => exact ((vd_field (P := P) (hops x (by simp))).md hH).ran rfl hq hf
 case indexAddr t x i => exact ((vd_indexAddr (P := P) hH hpre (hops x (by simp)) (hops i (by simp))).md hH).ran rfl hq hf
 case extract x i => exact ((vd_extract (P := P) (hops x (by simp))).md hH).ran rfl hq hf
 case makeMap t r =>
  cases r with
  | none => exact (md_makeMap (P := P) hH).ran rfl hq hf
  | some r => exact (PO.fail_inv hq).elim
 case lookup t x k ok => exact ((run_lookup (P := P) hS.eqs hH hpre (hops x (by simp)) (hops k (by simp))).md hH).ran rfl hq hf
 case mapUpdate t m k x =>
  exfalso
  revert hq
  unfold mapUpdateA
  repeat' split
  all_goals (intro hq; first | (exact hq.fail_inv; done) | (obtain ⟨_, hq⟩ := hq.need_inv; obtain ⟨_, hq⟩ := hq.need_inv; cases hq))
 case makeFunc fn first cap =>
  have h1 := evL_rel (C := C) (w := w) (ρ := ρ) (σ := σ) (l := first.toList) fun x hx => hops x (by simp at hx; simp [hx])
  have h2 := evL_rel (C := C) (w := w) (ρ := ρ) (σ := σ) (l := cap.toList) fun x hx => hops x (by simp at hx; simp [hx])
  have e1 : first.map σ = ⟨first.toList.map σ⟩ := by rw [<- Array.toList_map]
  have e2 : cap.map σ = ⟨cap.toList.map σ⟩ := by rw [<- Array.toList_map]
  refine Md.ran (m := pure (.func fn (first.map σ) (cap.map σ))) ((Vd.val (v := .func fn (first.map σ) (cap.map σ)) (by simp) ?_).md hH) rfl hq hf
  rw [e1, e2]
  exact .fn _ _ _ _ _ h1 h2
 case makeSlice t n c =>
  have hn := hops n (by simp)
  have hc := hops c (by simp)
  refine Md.ran (m := Instr.makeSlice t (σ n) (σ c)) ?_ rfl hq hf
  unfold makeSliceA
  split
  ·rename_i e hu
   split
   ·rename_i wd z hbt
    split
    ·rename_i kn kc hzz hkn hkc
     rw [kindOf_rel hn hkn, kindOf_rel hc hkc]
     obtain ⟨e2, hu2, hw⟩ := bigT_some hbt
     have hz := hasZ_ok hS.eqs hzz hbt
     exact .need fun hb => md_makeM hH hu hz (by omega) hb.1 hb.2.1 hb.2.2 (by have h0 : 0 <= intOf (ρ n) := hb.1; simp [LN.val, nat]; omega)
    ·exact .fail _
   split
   ·exact .fail _
   ·rename_i z hz
    split
    ·exact .fail _
    ·rename_i hok
     split
     ·rename_i k x hk
      split
      ·rename_i h0 hs
       rw [hk] at hn
       generalize hv : σ n = u at hn
       cases hn
       refine .need fun hb => ?_
       split
       ·rename_i kc hkc
        rw [kindOf_rel hc hkc]
        have h0' : 0 <= x := by simpa using h0
        exact md_make hH hu hz hok (Nat.pos_of_ne_zero fun h => by simp [h] at hs) h0' hb.1 hb.2 (by simp [LN.val]; omega)
       ·exact .fail _
      ·exact .fail _
     ·rename_i k x hk
      split
      ·rename_i hs
       rw [hk] at hn
       generalize hv : σ n = u at hn
       cases hn
       refine .need fun hb => ?_
       split
       ·rename_i kc hkc
        rw [kindOf_rel hc hkc]
        exact md_make hH hu hz hok (Nat.pos_of_ne_zero fun h => by simp [h] at hs) hb.1 hb.2.1 hb.2.2 (by simp [LN.val, nat]; omega)
       ·exact .fail _
      ·exact .fail _
     ·exact .fail _
  ·exact .fail _
 case slice t x lo hi mx =>
  refine Md.ran (m := Instr.sliceAt t (σ x) (lo.map σ) (hi.map σ) (mx.map σ)) ?_ rfl hq hf
  unfold sliceA
  split
  ·rename_i e hmx hu
   have hmx' : mx = none := by cases mx <;> simp_all
   subst hmx'
   have hx := hops x (by simp)
   split
   ·rename_i n sz el hxe
    split
    ·rename_i hsz hnz
     rw [hxe] at hx
     obtain rfl : sz = sizeT P e := Nat.eq_of_beq_eq_true hsz
     obtain ⟨ie, hie⟩ : ∃ ie, P.info? e = some ie := by
      cases hz : sizeT P e with
      | zero => rw [hz] at hnz; cases hnz
      | succ n => exact sizeT_info hz
     refine Vd.md (vd_bounds (P := P) hu rfl hie hx ?_ ?_) hH
     ·cases lo with
      | none => exact .inl ⟨rfl, rfl⟩
      | some a => exact .inr ⟨_, _, rfl, rfl, hops a (by simp)⟩
     ·cases hi with
      | none => exact .inl ⟨rfl, rfl⟩
      | some a => exact .inr ⟨_, _, rfl, rfl, hops a (by cases lo <;> simp)⟩
    ·exact .fail _
   ·split
    ·split
     ·intro a new hq; cases hq
     ·exact .fail _
    ·exact .fail _
   ·exact .fail _
  ·exact .fail _
 case call c =>
  obtain ⟨cal, args, tys⟩ := c
  cases cal with
  | value f =>
    simp only at hq
    have hfv := hops f (by simp [Call.operands])
    split at hq
    ·rename_i g first cap hfe
     rw [hfe] at hfv
     generalize hv : σ f = u at hfv
     cases hfv with
     | fn _ _ _ vs ws h h' =>
       have hargs := evL_rel (C := C) (w := w) (ρ := ρ) (σ := σ) (l := args.toList) fun x hx => hops x (by simp [Call.operands]; right; simpa using hx)
       have hall : RelL C w (appL first (appL (evL ρ args.toList) cap)) (vs ++ (args.toList.map σ ++ ws)) := by
        rw [appL_eq, appL_eq]; exact h.append (hargs.append h')
       replace hq := hq.callA
       cases hq with
       | call _ _ s1 pre res new h2 h1 hs hg hpre' hcn =>
         obtain ⟨fn, hfn, hname, hbody⟩ := hS.bodyOne _ _ h1
         have hfnc := hS.one _ _ h1 _ _ _ _ hs hpre'
         right; left
         refine ⟨g, ⟨vs ++ (args.toList.map σ ++ ws)⟩, ?_, ?_⟩
         ·have e1 : (⟨vs⟩ : Array Value) ++ args.map σ ++ ⟨ws⟩ = ⟨vs ++ (args.toList.map σ ++ ws)⟩ := by
           apply Array.ext'; simp
          have := run_callFunc (P := P) hfn hname hbody ⟨vs ++ (args.toList.map σ ++ ws)⟩ w
          simp only [execOp, resolve, Sem.run_bind]
          simp only [hv, Deferred.ofValue, Sem.run_pure, Result.andThen_ok, invoke, e1]
          exact this
         ·have hexp : ∀ all : Bool, (all = true \/ ownIn.ownInL (appL first (appL (evL ρ args.toList) cap)) = false) ->
            RelL (callee C w all) w ((appL first (appL (evL ρ args.toList) cap)).map (expA 5 hp)) (vs ++ (args.toList.map σ ++ ws)) := by
           intro all
           generalize appL first (appL (evL ρ args.toList) cap) = l at hall
           generalize vs ++ (args.toList.map σ ++ ws) = us at hall
           induction hall using RelL.rec (motive_1 := fun _ _ _ => True) with
           | nil => intro _; exact .nil
           | cons b l u us h0 h1 _ ih =>
             intro ho
             refine .cons _ _ _ _ (exp_rel hH hpre 5 h0 ?_) (ih ?_)
             ·rcases ho with ho | ho
              ·exact .inl ho
              ·simp [ownIn.ownInL] at ho; exact .inr ho.1
             ·rcases ho with ho | ho
              ·exact .inl ho
              ·simp [ownIn.ownInL] at ho; exact .inr ho.2
           | _ => trivial
          have hH0 : ∀ all, HR (callee C w all) [] w := fun all => ⟨fun i p h => by simp [callee] at h, fun i j b c n b' c' n' h => by simp [callee] at h, fun i b c n h => by simp [callee] at h, fun b hb => (by
           cases all
           ·exact hH.ilt b hb
           ·exact hb), fun b x h => by simp [callee] at h⟩
          unfold callOK callNeeds at *
          cases hown : ownIn.ownInL (appL first (appL (evL ρ args.toList) cap)) with
          | false =>
            simp only [hown] at hg hcn
            simp only [Bool.and_eq_true] at hg
            refine (hfnc (callee C w false) w _ (fun _ => rfl) (hH0 false) (hexp false (.inr hown))).mono fun e w' ⟨v, C1, he, h1, hr, hs⟩ => ⟨v, he, ?_⟩
            exact call_merge (all := false) hH hf h1 hr hs (.inl ⟨rfl, hg⟩)
          | true =>
            simp only [hown] at hg hcn
            simp only [Bool.and_eq_true] at hg
            refine (hfnc (callee C w true) w _ (fun _ => rfl) (hH0 true) (hexp true (.inl rfl))).mono fun e w' ⟨v, C1, he, h1, hr, hs⟩ => ⟨v, he, ?_⟩
            exact call_merge (all := true) hH hf h1 hr hs (.inr ⟨rfl, hg.1, hg.2, hcn⟩)
    ·exact hq.fail_inv.elim
  | invoke r m => exact hq.fail_inv.elim
  | builtin b =>
    have hargs := evL_rel (C := C) (w := w) (ρ := ρ) (σ := σ) (l := args.toList) fun x hx => hops x (by simp [Call.operands]; simpa using hx)
    cases b <;> try exact (PO.fail_inv hq).elim
    case len =>
     simp only at hq
     split at hq
     ·rename_i x t ha ht
      obtain ⟨args⟩ := args
      obtain ⟨tys⟩ := tys
      simp only at ha ht
      subst ha ht
      have hx := hops x (by simp [Call.operands])
      split at hq
      ·rename_i e hu
       exact ((vd_len (P := P) (ty := type) hu hH hpre hx).md hH).ran (by simp [execOp, resolve, invoke, builtin]) hq hf
      ·rename_i n e hu
       refine Md.ran (m := Builtin.len_ #[t] type #[σ x]) ((Vd.val ?_ (.li _ _)).md hH) (by simp [execOp, resolve, invoke, builtin]) hq hf
       simp [Builtin.len_, run_underlying hu, goInt]
      ·exact hq.fail_inv.elim
     ·exact hq.fail_inv.elim
    case min =>
     simp only at hq
     split at hq
     ·rename_i a' l hev
      rw [hev] at hargs
      cases hargs' : args.toList.map σ with
      | nil => rw [hargs'] at hargs; cases hargs
      | cons u us =>
        rw [hargs'] at hargs
        cases hargs with
        | cons _ _ _ _ h h' =>
          have := vd_minmax (P := P) (S := S) (hp := hp) false l _ _ us h h'
          refine (Vd.md this hH).ran ?_ hq hf
          have e1 : args.map σ = ⟨u :: us⟩ := by apply Array.ext'; simpa using hargs'
          simp [execOp, resolve, invoke, builtin, e1, Builtin.min_]
     ·exact hq.fail_inv.elim
    case max =>
     simp only at hq
     split at hq
     ·rename_i a' l hev
      rw [hev] at hargs
      cases hargs' : args.toList.map σ with
      | nil => rw [hargs'] at hargs; cases hargs
      | cons u us =>
        rw [hargs'] at hargs
        cases hargs with
        | cons _ _ _ _ h h' =>
          have := vd_minmax (P := P) (S := S) (hp := hp) true l _ _ us h h'
          refine (Vd.md this hH).ran ?_ hq hf
          have e1 : args.map σ = ⟨u :: us⟩ := by apply Array.ext'; simpa using hargs'
          simp [execOp, resolve, invoke, builtin, e1, Builtin.max_]
     ·exact hq.fail_inv.elim
    case append =>
     simp only at hq
     split at hq
     ·rename_i s x t t' ha ht
      obtain ⟨args⟩ := args
      obtain ⟨tys⟩ := tys
      simp only at ha ht
      subst ha ht
      have hs' := hops s (by simp [Call.operands])
      have hx := hops x (by simp [Call.operands])
      split at hq
      ·rename_i htt
       obtain rfl : t = t' := Nat.eq_of_beq_eq_true htt
       refine Md.ran (m := Builtin.append_ #[t, t] type #[σ s, σ x]) ?_ (by simp [execOp, resolve, invoke, builtin]) hq hf
       exact md_append hH hpre hs' hx
      ·exact hq.fail_inv.elim
     ·exact hq.fail_inv.elim
 all_goals exact hq.fail_inv.elim
end
end Abs
end Go.Proofs.Ytdfdjlijghjdaaa

namespace Go.Proofs.Ytdfdjlijghjdaaa
namespace Abs
open Go Go.RowKit
structure Tr (h : Nat) (C : Cx) (w : World) (C' : Cx) (w' : World) : Prop where
 os : w'.os = w.os
 tape : w'.tape = w.tape
 output : w'.output = w.output
 size : w.heap.size <= w'.heap.size
 keep : ∀ k, k < w.heap.size -> (∀ i b c n, C.ρ i = some (.at b c n) -> b ≠ k) -> C.O k = none -> w'.heap[k]? = w.heap[k]?
 imm : ∀ b, C.I b -> C'.I b
 imm' : ∀ b, C'.I b -> C.I b \/ (w.heap.size <= b \/ ∃ x, C.O b = some x) \/ ∃ i c n, h <= i /\ C.ρ i = some (.at b c n)
 rho : ∀ i, i < h -> C'.ρ i = C.ρ i
 own : ∀ i b c n, h <= i -> C'.ρ i = some (.at b c n) -> (∃ j c' n', h <= j /\ C.ρ j = some (.at b c' n')) \/ w.heap.size <= b \/ ∃ x, C.O b = some x
 sub : ∀ b x, C'.O b = some x -> (∃ y, C.O b = some y) \/ w.heap.size <= b \/ ∃ i c n, h <= i /\ C.ρ i = some (.at b c n)
theorem Since.refl {h : Nat} {C : Cx} {w : World} (hn : ∀ i, h <= i -> C.ρ i = none) (ho : ∀ b, C.O b = none) : Since h C w C w :=
 ⟨rfl, rfl, rfl, Nat.le_refl _, fun _ _ _ => rfl, fun _ h => h, fun _ h => .inl h, fun _ _ => rfl, fun i b c n hi hp => (by rw [hn i hi] at hp; cases hp), fun b x hb => (by rw [ho b] at hb; cases hb)⟩
theorem Since.step {h : Nat} {C0 C C' : Cx} {w0 w w' : World} (s : Since h C0 w0 C w) (t : Tr h C w C' w') : Since h C0 w0 C' w' := by
 refine ⟨t.os.trans s.os, t.tape.trans s.tape, t.output.trans s.output, Nat.le_trans s.size t.size, fun k hk hn => ?_, fun b hb => t.imm b (s.imm b hb), fun b hb => ?_, fun i hi => (t.rho i hi).trans (s.rho i hi), fun i b c n hi hp => ?_, fun b x hb => ?_⟩
 ·refine (t.keep k (Nat.lt_of_lt_of_le hk s.size) (fun i b c n hp => ?_) (by
   cases ho : C.O k with
   | none => rfl
   | some x => have := s.sub k x ho; omega)).trans (s.keep k hk hn)
  by_cases hi : i < h
  ·exact hn i b c n hi (by rw [<- s.rho i hi]; exact hp)
  ·have := s.own i b c n (by omega) hp; omega
 ·rcases t.imm' b hb with h1 | (h1 | ⟨x, h1⟩) | ⟨i, c, n, hi, hp⟩
  ·exact s.imm' b h1
  ·exact .inr (Nat.le_trans s.size h1)
  ·exact .inr (s.sub b x h1)
  ·exact .inr (s.own i b c n hi hp)
 ·rcases t.own i b c n hi hp with ⟨j, c', n', hj, hp'⟩ | h1 | ⟨x, h1⟩
  ·exact s.own j b c' n' hj hp'
  ·exact Nat.le_trans s.size h1
  ·exact s.sub b x h1
 ·rcases t.sub b x hb with ⟨y, h1⟩ | h1 | ⟨i, c, n, hi, hp⟩
  ·exact s.sub b y h1
  ·exact Nat.le_trans s.size h1
  ·exact s.own i b c n hi hp
theorem Grow.tr {h base n : Nat} {C C' : Cx} {w w' : World} (g : Grow base n C w C' w') (hb : h <= base) : Tr h C w C' w' :=
 ⟨g.os, g.tape, g.output, g.size, fun k hk _ _ => g.keep k hk, g.imm, fun b hb => (g.imm' b hb).imp id fun h => .inl (.inl h), fun i hi => g.rho i (.inl (by omega)), fun i b c m hi hp => (by
  by_cases hr : i < base \/ base + n <= i
  ·rw [g.rho i hr] at hp; exact .inl ⟨i, c, m, hi, hp⟩
  ·exact .inr (.inl (g.own i b c m (by omega) (by omega) hp))), fun b x hb => .inl ⟨x, by rw [<- g.sub b]; exact hb⟩⟩
section
variable {P : Program} {S : Sums} {C C' : Cx} {w : World} {H hp : Heap}
theorem run_storeCells {b : Nat} {t : TypeId} : ∀ (vs : List Value) (w : World) (cs : Array Value) (off n : Nat), w.heap[b]? = some (.cells cs t (0, 0)) -> off + n + vs.length <= cs.size -> (∀ u ∈ vs, u.oneCell' = true) ->
  ∃ w', (storeCells ⟨b, off, none⟩ vs n).run P w = .ok () w' /\ w'.heap[b]? = some (.cells ⟨cs.toList.take (off + n) ++ (vs ++ cs.toList.drop (off + n + vs.length))⟩ t (0, 0)) /\
    (∀ k, k ≠ b -> w'.heap[k]? = w.heap[k]?) /\ w'.os = w.os /\ w'.tape = w.tape /\ w'.output = w.output /\ w'.heap.size = w.heap.size
 | [], w, cs, off, n, hh, hl, h1 => ⟨w, by simp [storeCells], by simpa using hh, fun _ _ => rfl, rfl, rfl, rfl, rfl⟩
 | u :: vs, w, cs, off, n, hh, hl, h1 => by
   simp at hl
   have hc : w.cell? ((⟨b, off, none⟩ : Addr).add n) = some (cs[off + n]'(by omega)) := by rw [cell_add hh]; simp
   have hfz : w.frozen? ((⟨b, off, none⟩ : Addr).add n) = false := by
    unfold World.frozen?; rw [add_block]; simp [hh]
   have hst := run_store P w ((⟨b, off, none⟩ : Addr).add n) u .plain (h1 u (by simp))
   simp only [hc, hfz] at hst
   have hset : (w.setCell ((⟨b, off, none⟩ : Addr).add n) u).heap[b]? = some (.cells (cs.setIfInBounds (off + n) u) t (0, 0)) := by
    unfold World.setCell
    rw [add_lit]
    simp [Array.getElem?_modify, hh]
   obtain ⟨w', hr, hh', hk, ho, ht, hou, hs⟩ := run_storeCells vs (w.setCell ((⟨b, off, none⟩ : Addr).add n) u) (cs.setIfInBounds (off + n) u) off (n + 1) hset (by simp; omega) (fun v hv => h1 v (by simp [hv]))
   refine ⟨w', ?_, ?_, fun k hkb => ?_, ho, ht, hou, by rw [hs]; simp [World.setCell]⟩
   ·simp only [storeCells, Sem.run_bind]
    simp at hst
    simp [hst, hr]
   ·rw [hh']
    congr 2
    have hlt : off + n < cs.toList.length := by simp; omega
    have e1 : (cs.toList.set (off + n) u).take (off + (n + 1)) = cs.toList.take (off + n) ++ [u] := by
     rw [show off + (n + 1) = off + n + 1 by omega, List.take_add_one, List.take_set_of_le (Nat.le_refl _), List.getElem?_set_self hlt]; rfl
    have e2 : (cs.toList.set (off + n) u).drop (off + (n + 1) + vs.length) = cs.toList.drop (off + n + (vs.length + 1)) := by
     rw [List.drop_set, if_pos (by omega)]; congr 1; omega
    simp only [Array.toList_setIfInBounds, e1, e2, List.length_cons, List.append_assoc, List.cons_append, List.nil_append]
   ·rw [hk k hkb]
    unfold World.setCell
    simp only [add_block, Array.getElem?_modify]
    rw [if_neg (fun h => hkb h.symm)]
end
end Abs
end Go.Proofs.Ytdfdjlijghjdaaa

namespace Go.Proofs.Ytdfdjlijghjdaaa
namespace Abs
open Go Go.RowKit
section
variable {P : Program} {S : Sums} {C C' : Cx} {w w' : World} {H hp : Heap}
structure Turn (j : Nat) (a : AV) (C : Cx) (w : World) (C' : Cx) (w' : World) : Prop where
 rho : ∀ i, i ≠ j -> C'.ρ i = C.ρ i
 imm : ∀ b, C.I b -> C'.I b
 blk : ∀ b, C.I b -> w'.heap[b]? = w.heap[b]?
 row : ∀ v, Rel C w (.row j) v -> Rel C' w' a v
theorem at1_ne {i j : Nat} {a : AV} (h : i ≠ j) : at1 j a i = none := by
 unfold at1
 have : Nat.beq i j = false := by
  rcases hb : Nat.beq i j with _ | _
  ·rfl
  ·exact absurd (Nat.eq_of_beq_eq_true hb) h
 rw [this]
theorem at1_eq {j : Nat} {a : AV} : at1 j a j = some a := by
 unfold at1
 rw [show Nat.beq j j = true from by simp]
theorem Rel.still (hI : ∀ b, C.I b -> C'.I b) (hb : ∀ b, C.I b -> w'.heap[b]? = w.heap[b]?) {a : AV} {v : Value} (h : Rel C w a v) (ho : ownIn a = false) : Rel C' w' a v := by
 have hx : Cext (⟨fun _ => none, C.I, fun _ => none⟩ : Cx) w ⟨fun _ => none, C'.I, fun _ => none⟩ w' := ⟨fun i p h => by simp at h, hI, hb⟩
 have h1 : Rel (⟨fun _ => none, C.I, fun _ => none⟩ : Cx) w a v := Rel.change (C := C) (C' := ⟨fun _ => none, C.I, fun _ => none⟩) (fun _ h => h) h ho
 exact Rel.change (C := ⟨fun _ => none, C'.I, fun _ => none⟩) (C' := C') (fun _ h => h) (h1.mono hx) ho
theorem RelL.still (hI : ∀ b, C.I b -> C'.I b) (hb : ∀ b, C.I b -> w'.heap[b]? = w.heap[b]?) : ∀ {l : List AV} {vs : List Value}, RelL C w l vs -> ownIn.ownInL l = false -> RelL C' w' l vs
 | _, _, .nil, _ => .nil
 | _, _, .cons a l v vs h h', ho => by
   simp [ownIn.ownInL] at ho
   exact .cons a l v vs (h.still hI hb ho.1) (h'.still hI hb ho.2)
theorem Turn.rel {j : Nat} {a : AV} (t : Turn j a C w C' w') {x : AV} {v : Value} (h : Rel C w x v) : Rel C' w' (mapR (at1 j a) x) v := by
 refine Rel.rec (C := C) (w := w) (motive_1 := fun x v _ => Rel C' w' (mapR (at1 j a) x) v) (motive_2 := fun l vs _ => RelL C' w' (mapR.mapRL (at1 j a) l) vs)
  ?_ ?_ ?_ ?_ ?_ ?_ ?_ ?_ ?_ ?_ ?_ ?_ ?_ ?_ ?_ ?_ ?_ ?_ ?_ ?_ ?_ h
 ·exact fun v => .top v
 ·exact fun k a v => .gd k _ v
 ·exact fun k n => .li k n
 ·exact fun k n => .si k n
 ·exact fun b => .lb b
 ·exact fun b => .sb b
 ·exact fun x => .v x
 ·exact fun l vs _ h => .agg _ vs h
 ·exact fun l vs _ h => .tup _ vs h
 ·intro i off b c n h
  simp only [mapR]
  by_cases hi : i = j
  ·subst hi; rw [at1_eq]; exact .top _
  ·rw [at1_ne hi]; exact .own i off b c n (by rw [t.rho i hi]; exact h)
 ·intro i sz k off b c n h hk
  simp only [mapR]
  by_cases hi : i = j
  ·subst hi; rw [at1_eq]; exact .top _
  ·rw [at1_ne hi]; exact .elt i sz k off b c n (by rw [t.rho i hi]; exact h) hk
 ·intro i b c n h
  simp only [mapR]
  by_cases hi : i = j
  ·subst hi; rw [at1_eq]; exact t.row _ (.row i b c n h)
  ·rw [at1_ne hi]; exact .row i b c n (by rw [t.rho i hi]; exact h)
 ·intro i n sz b c m h
  simp only [mapR]
  by_cases hi : i = j
  ·subst hi; rw [at1_eq]; exact .top _
  ·rw [at1_ne hi]; exact .lsl i n sz b c m (by rw [t.rho i hi]; exact h)
 ·intro i h
  simp only [mapR]
  by_cases hi : i = j
  ·subst hi; rw [at1_eq]; exact t.row _ (.rown i h)
  ·rw [at1_ne hi]; exact .rown i (by rw [t.rho i hi]; exact h)
 ·intro n sz el A cap vs hcap hA hr hl hn _
  exact (Rel.slc n sz el A cap vs hcap hA hr hl hn).still t.imm t.blk rfl
 ·intro l ad vs hr hI hc hn _
  exact (Rel.xp l ad vs hr hI hc hn).still t.imm t.blk rfl
 ·exact fun f l m vs ws _ _ h h' => .fn f _ _ vs ws h h'
 ·intro n sz el ad vs hI hc hr hl hn _
  exact (Rel.pa n sz el ad vs hI hc hr hl hn).still t.imm t.blk rfl
 ·intro i b c n h
  simp only [mapR]
  by_cases hi : i = j
  ·subst hi; rw [at1_eq]; exact .top _
  ·rw [at1_ne hi]; exact .mp i b c n (by rw [t.rho i hi]; exact h)
 ·exact .nil
 ·exact fun a l v vs _ _ h h' => .cons _ _ v vs h h'
theorem Turn.relL {j : Nat} {a : AV} (t : Turn j a C w C' w') : ∀ {l : List AV} {vs : List Value}, RelL C w l vs -> RelL C' w' (mapR.mapRL (at1 j a) l) vs
 | _, _, .nil => .nil
 | _, _, .cons _ _ _ _ h h' => .cons _ _ _ _ (t.rel h) (t.relL h')
theorem getB_mapH (f : Nat -> Option AV) : ∀ (l : Heap) (i : Nat), getB (mapH f l) i = mapB f (getB l i)
 | [], _ => rfl
 | _ :: _, 0 => rfl
 | _ :: l, i + 1 => getB_mapH f l i
theorem getB_set : ∀ (l : Heap) (i k : Nat) (b : Blk), getB (setB l i b) k = if k = i /\ i < l.length then b else getB l k
 | [], i, k, b => by simp [setB, getB]
 | x :: l, 0, 0, b => by simp [setB, getB]
 | x :: l, 0, k + 1, b => by simp [setB, getB]
 | x :: l, i + 1, 0, b => by simp [setB, getB]
 | x :: l, i + 1, k + 1, b => by simp [setB, getB, getB_set l i k b]
theorem getB_set_ne {l : Heap} {i k : Nat} {b : Blk} (h : k ≠ i) : getB (setB l i b) k = getB l k := by rw [getB_set, if_neg (fun e => h e.1)]
theorem len_mapH (f : Nat -> Option AV) : ∀ l : Heap, (mapH f l).length = l.length
 | [] => rfl
 | _ :: l => by simp [mapH, len_mapH f l]
theorem getB_lt {hp : Heap} {i : Nat} (h : getB hp i ≠ .dead) : i < hp.length := by
 rcases Nat.lt_or_ge i hp.length with hlt | hge
 ·exact hlt
 ·exact absurd (getB_dead hge) h
theorem hoR_hole {f : Nat -> Option AV} {ho : Option (Nat × Option Nat)} {k : Nat} : holeB (hoR f ho) k ↔ holeB ho k := by
 unfold holeB
 match ho with
 | none => simp [hoR]
 | some (q, none) => simp [hoR]
 | some (q, some h) =>
   simp only [hoR]
   split <;> simp
theorem hoR_some {f : Nat -> Option AV} {ho : Option (Nat × Option Nat)} {k h : Nat} (e : hoR f ho = some (k, some h)) : ho = some (k, some h) /\ f h = none := by
 match ho, e with
 | some (q, some g), e =>
   simp only [hoR] at e
   split at e
   ·cases e
   ·rename_i hf
    injection e with e; injection e with e1 e2; injection e2 with e2
    subst e1 e2
    exact ⟨rfl, hf⟩
theorem Turn.brel {j : Nat} {a : AV} (t : Turn j a C w C' w') {p : Pl} {b : Blk} (hb : ∀ q c m, p = .at q c m -> w'.heap[q]? = w.heap[q]?) (hs : SubKeep C w C' w') (h : BRel C w p b) : BRel C' w' p (mapB (at1 j a) b) := by
 match p, b, h with
 | .at q c m, .mat ty wd k f, h =>
   obtain ⟨h1, h2, h3, cs, hh, hz, hc⟩ := h
   exact ⟨h1, h2, h3, cs, (hb q c m rfl).trans hh, hz, fun k hk i hi => by
    obtain ⟨ho, v, hv, hr⟩ := hc k hk i hi
    exact ⟨ho, v, hv, hr.still t.imm t.blk (own_okC ho)⟩⟩
 | .at q c m, .rows e e' sz k fz ln el ho, h =>
   obtain ⟨h1, h2, h3, cs, hh, hz, hc⟩ := h
   exact ⟨h1, h2, h3, cs, (hb q c m rfl).trans hh, hz, fun k hk => by
    obtain ⟨v, hv, hr, hn⟩ := hc k hk
    refine ⟨v, hv, fun g e => ?_, fun hno => ?_⟩
    ·obtain ⟨e1, e2⟩ := hoR_some e
     have := t.rel (hr g e1)
     simpa only [mapR, e2] using this
    ·rw [hoR_hole] at hno
     exact ⟨fun hf => ((hn hno).1 hf).still t.imm t.blk rfl, fun hf => ((hn hno).2 hf).mono hs fun ok h => h.still t.imm t.blk (own_ok ok)⟩⟩
 | .at q c m, .tab k sz el, h =>
   obtain ⟨es, ck, vs, hh, hs, hc⟩ := h
   exact ⟨es, ck, vs, (hb q c m rfl).trans hh, hs, fun k hk => ⟨(hc k hk).1.still t.imm t.blk (own_ok (hc k hk).2.1), (hc k hk).2⟩⟩
 | .at q c m, .cells ty l, h =>
   obtain ⟨vs, hr, hh⟩ := h
   exact ⟨vs, t.relL hr, (hb q c m rfl).trans hh⟩
 | .at q c m, .row e sz k el, h =>
   obtain ⟨h1, h2, h3, cs, vs, hh, hs, hc⟩ := h
   exact ⟨h1, h2, h3, cs, vs, (hb q c m rfl).trans hh, hs, fun k hk => ⟨(hc k hk).1.still t.imm t.blk (own_ok (hc k hk).2.1), (hc k hk).2⟩⟩
 | .nil, .row e sz k el, h => exact h
theorem Turn.hr {j : Nat} {a : AV} {b' : Blk} (t : Turn j a C w C' w') (hH : HR C hp w) (hj : j < hp.length)
  (hkeep : ∀ i b c n, i ≠ j -> C.ρ i = some (.at b c n) -> w'.heap[b]? = w.heap[b]?) (hsz : w.heap.size <= w'.heap.size)
  (hnew : ∀ p, C'.ρ j = some p -> BRel C' w' p b')
  (hpl : ∀ b c n, C'.ρ j = some (.at b c n) -> b < w'.heap.size /\ ¬ C'.I b /\ ∀ i b' c' n', i ≠ j -> C.ρ i = some (.at b' c' n') -> b' ≠ b)
  (hI : ∀ b, C'.I b -> b < w'.heap.size /\ ∀ i c n, i ≠ j -> C.ρ i = some (.at b c n) -> False)
  (hO : ∀ b, C'.O b = C.O b) (hO2 : ∀ b x, C.O b = some x -> w'.heap[b]? = w.heap[b]? /\ ¬ C'.I b /\ ∀ b' c n, C'.ρ j = some (.at b' c n) -> b' ≠ b) : HR C' (setB (mapH (at1 j a) hp) j b') w' := by
 refine ⟨fun i p hp' => ?_, fun i i' b c n b1 c1 n1 h h' hne => ?_, fun i b c n h => ?_, fun b hb => (hI b hb).1, fun b x hb => ?_⟩
 ·by_cases hi : i = j
  ·subst hi
   rw [getB_set, if_pos ⟨rfl, by rw [len_mapH]; exact hj⟩]
   exact hnew p hp'
  ·rw [getB_set_ne hi, getB_mapH]
   rw [t.rho i hi] at hp'
   exact t.brel (fun q c m hq => hkeep i q c m hi (by rw [<- hq]; exact hp')) (fun b x hb => ⟨by rw [hO b]; exact hb, (hO2 b x hb).1⟩) (hH.live i p hp')
 ·by_cases hi : i = j
  ·subst hi
   rw [t.rho i' (Ne.symm hne)] at h'
   exact fun e => (hpl b c n h).2.2 i' b1 c1 n1 (Ne.symm hne) h' e.symm
  ·rw [t.rho i hi] at h
   by_cases hi' : i' = j
   ·subst hi'
    exact (hpl b1 c1 n1 h').2.2 i b c n hi h
   ·rw [t.rho i' hi'] at h'
    exact hH.inj _ _ _ _ _ _ _ _ h h' hne
 ·by_cases hi : i = j
  ·subst hi; exact ⟨(hpl b c n h).1, (hpl b c n h).2.1⟩
  ·rw [t.rho i hi] at h
   exact ⟨Nat.lt_of_lt_of_le (hH.fresh _ _ _ _ h).1 hsz, fun hb => (hI b hb).2 i c n hi h⟩
 ·rw [hO b] at hb
  obtain ⟨s1, s2, s3, s4⟩ := hH.sub b x hb
  obtain ⟨o1, o2, o3⟩ := hO2 b x hb
  refine ⟨Nat.lt_of_lt_of_le s1 hsz, o2, fun i b' c n h => ?_, s4.keep o1⟩
  by_cases hi : i = j
  ·subst hi; exact o3 b' c n h
  ·rw [t.rho i hi] at h; exact s3 i b' c n h
theorem freeze {lo j : Nat} {e : TypeId} {sz : Nat} {n : LN} {el : Nat -> List AV} (hH : HR C hp w) (hb : getB hp j = .row e sz n el) (hlo : lo <= j) :
  ∃ C', Turn j (.slc n sz el) C w C' w /\ HR C' (setB (mapH (at1 j (.slc n sz el)) hp) j .dead) w /\ Tr lo C w C' w := by
 let C' : Cx := ⟨fun i => if i = j then none else C.ρ i, fun b => C.I b \/ ∃ c n, C.ρ j = some (.at b c n), C.O⟩
 have hj : j < hp.length := getB_lt (by rw [hb]; simp)
 have ht : Turn j (.slc n sz el) C w C' w := ⟨fun i hi => by simp [C', hi], fun b h => .inl h, fun _ _ => rfl, fun v hv => by
  cases hv with
  | row _ b c m hρ =>
    have hl := hH.live _ _ hρ
    rw [hb] at hl
    obtain ⟨hm, hcap, hs0, cs, vs, hh, hsz, hcell⟩ := hl
    rw [<- hm]
    refine .slc n sz el _ c vs (by omega) (fun _ => ⟨_, rfl, .inr ⟨c, m, hρ⟩, fun k hk q hq => ?_⟩) (fun k hk => ?_) (fun k hk => (hcell k (by omega)).2.2.1) (fun k hk => (hcell k (by omega)).2.1)
    ·rw [add_lit]
     have := (hcell k (by omega)).2.2.2 q hq
     rw [<- this]; simp [World.cell?, hh]
    ·exact RelL.still (C := C) (C' := C') (fun b h => Or.inl h) (fun _ _ => rfl) (hcell k (by omega)).1 (own_ok (hcell k (by omega)).2.1)
  | rown _ hρ =>
    have hl := hH.live _ _ hρ
    rw [hb] at hl
    obtain ⟨h0, _⟩ : n.val = 0 /\ _ := hl
    have := Rel.slc (C := C') (w := w) n sz el none 0 (fun _ => []) (by omega) (fun h => by omega) (fun k hk => by omega) (fun k hk => by omega) (fun k hk => by omega)
    rwa [h0] at this⟩
 refine ⟨C', ht, ht.hr hH hj (fun _ _ _ _ _ _ => rfl) (Nat.le_refl _) (fun p hp => by simp [C'] at hp) (fun b c n h => by simp [C'] at h) (fun b hb' => ?_) (fun _ => rfl) (fun b x hb => ⟨rfl, fun hI => ?_, fun b' c n h => by simp [C'] at h⟩), ?_⟩
 ·rcases hb' with hb' | ⟨c, m, hρ⟩
  ·exact ⟨hH.ilt b hb', fun i c n _ hi => (hH.fresh _ _ _ _ hi).2 hb'⟩
  ·exact ⟨(hH.fresh _ _ _ _ hρ).1, fun i c' n' hi h => hH.inj _ _ _ _ _ _ _ _ h hρ hi rfl⟩
 ·rcases hI with hI | ⟨c, m, hρ⟩
  ·exact (hH.sub b x hb).2.1 hI
  ·exact (hH.sub b x hb).2.2.1 _ _ _ _ hρ rfl
 ·refine ⟨rfl, rfl, rfl, Nat.le_refl _, fun _ _ _ _ => rfl, fun b h => .inl h, fun b hb' => ?_, fun i hi => by simp [C', show i ≠ j by omega], fun i b c m hi h => ?_, fun b x hb => .inl ⟨x, hb⟩⟩
  ·rcases hb' with hb' | ⟨c, m, hρ⟩
   ·exact .inl hb'
   ·exact .inr (.inr ⟨j, c, m, hlo, hρ⟩)
  ·by_cases hij : i = j
   ·simp [C', hij] at h
   ·simp [C', hij] at h; exact .inl ⟨i, c, m, hi, h⟩
end
end Abs
end Go.Proofs.Ytdfdjlijghjdaaa

namespace Go.Proofs.Ytdfdjlijghjdaaa
namespace Abs
open Go Go.RowKit
section
variable {P : Program} {S : Sums} {C C' : Cx} {w w' : World} {H hp : Heap}
theorem HR.upd (hH : HR C hp w) {i b c n : Nat} {B : Blk} (hi : C.ρ i = some (.at b c n)) (hkeep : ∀ k, k ≠ b -> w'.heap[k]? = w.heap[k]?) (hsz : w'.heap.size = w.heap.size)
  (hos : w'.os = w.os) (htp : w'.tape = w.tape) (hout : w'.output = w.output)
  (hB : Cext C w C w' -> BRel C w' (.at b c n) B) (hlt : i < hp.length) (lo : Nat) : HR C (setB hp i B) w' /\ Cext C w C w' /\ Tr lo C w C w' := by
 have hx : Cext C w C w' := ⟨fun _ _ h => h, fun _ h => h, fun q hq => hkeep q fun e => (hH.fresh _ _ _ _ hi).2 (e ▸ hq)⟩
 refine ⟨⟨fun i' p hp' => ?_, hH.inj, fun i' b' c' n' h => ?_, fun q hq => by rw [hsz]; exact hH.ilt q hq, fun q x hq => ⟨by rw [hsz]; exact (hH.sub q x hq).1, (hH.sub q x hq).2.1, (hH.sub q x hq).2.2.1, (hH.sub q x hq).2.2.2.keep (hkeep q fun e => (hH.sub q x hq).2.2.1 _ _ _ _ hi e.symm)⟩⟩, hx, ?_⟩
 ·by_cases he : i' = i
  ·subst he
   rw [getB_set, if_pos ⟨rfl, hlt⟩]
   rw [hi] at hp'; injection hp' with hp'; subst hp'
   exact hB hx
  ·rw [getB_set_ne he]
   refine (hH.live i' p hp').mono hx (fun q c' m hq => hkeep q ?_) fun q x hq => ⟨hq, hkeep q fun e => (hH.sub q x hq).2.2.1 _ _ _ _ hi e.symm⟩
   subst hq
   exact fun e => hH.inj _ _ _ _ _ _ _ _ hp' hi he e
 ·rw [hsz]; exact hH.fresh _ _ _ _ h
 ·exact ⟨hos, htp, hout, by omega, fun k hk hn _ => hkeep k fun e => hn i b c n hi e.symm, fun _ h => h, fun _ h => .inl h, fun _ _ => rfl, fun i' b' c' n' h h' => .inl ⟨i', c', n', h, h'⟩, fun q x hq => .inl ⟨x, hq⟩⟩
theorem cellsA_rel {x : AV} {v : Value} (h : Rel C w x v) (ho : oneL (cellsA x) = true) : RelL C w (cellsA x) v.cells.toList := by
 cases x with
 | agg l => cases h with | agg _ vs h => simpa [cellsA, Value.cells] using h
 | _ =>
   all_goals
    simp only [cellsA] at ho ⊢
    simp only [oneL, Bool.and_true] at ho
    have h1 := oneC_one h ho
    rw [cells_one h1]
    exact .cons _ _ _ _ h .nil
theorem okL_oneL : ∀ {l : List AV}, okL l = true -> oneL l = true
 | [], _ => rfl
 | a :: l, h => by
   simp [okL] at h
   simp only [oneL, okL_oneL h.2, Bool.and_true]
   cases a <;> first | rfl | exact h.1
theorem run_storeAt {t : TypeId} {b off : Nat} {v : Value} {cs : Array Value} {ty : TypeId} {ti : TypeInfo} (hti : P.info? t = some ti) (hh : w.heap[b]? = some (.cells cs ty (0, 0)))
  (hsz : v.cells.size = sizeT P t) (hl : off + v.cells.size <= cs.size) (h1 : ∀ u ∈ v.cells.toList, u.oneCell' = true) :
  ∃ w', (Instr.storeAt t (.pointer (some ⟨b, off, none⟩)) v).run P w = .ok () w' /\ w'.heap[b]? = some (.cells ⟨cs.toList.take off ++ (v.cells.toList ++ cs.toList.drop (off + v.cells.toList.length))⟩ ty (0, 0)) /\
    (∀ k, k ≠ b -> w'.heap[k]? = w.heap[k]?) /\ w'.os = w.os /\ w'.tape = w.tape /\ w'.output = w.output /\ w'.heap.size = w.heap.size := by
 obtain ⟨w', hr, hw⟩ := run_storeCells (P := P) (b := b) (t := ty) v.cells.toList w cs off 0 hh (by simpa using hl) h1
 refine ⟨w', ?_, by simpa using hw⟩
 have hs := run_sizeT (P := P) hti w
 simp [Instr.storeAt, Instr.sureAddr, storeVar, hs, hsz, hr]
theorem updE_eq (k : Nat) (c : List AV) (el : Nat -> List AV) (j : Nat) : updE k c el j = if j = k then c else el j := by unfold updE; rfl
theorem isBo_rel {a : AV} {v : Value} (h : Rel C w a v) (hb : isBo a = true) : v = .bool (boolOf a) := by
 cases h <;> simp [isBo] at hb <;> rfl
theorem mixC_rel {k j : Nat} {x y z : AV} (h : mixC k j x y = some z) : okC z = true /\ (j = k -> ∀ (C : Cx) (w : World) (v : Value), Rel C w x v -> Rel C w z v) /\ (j ≠ k -> ∀ (C : Cx) (w : World) (v : Value), Rel C w y v -> Rel C w z v) := by
 unfold mixC at h
 split at h
 ·rename_i q q' hx hy
  split at h
  ·rename_i hq
   have hq := of_decide_eq_true hq
   subst hq
   injection h with h; subst h
   refine ⟨rfl, fun e C w v hv => ?_, fun e C w v hv => ?_⟩
   ·rw [kindOf_rel hv hx]; unfold selI; rw [if_pos e]; exact .si _ _
   ·rw [kindOf_rel hv hy]; unfold selI; rw [if_neg e]; exact .si _ _
  ·cases h
 ·split at h
  ·rename_i hx hy
   injection h with h; subst h
   refine ⟨rfl, fun e C w v hv => ?_, fun e C w v hv => ?_⟩
   ·rw [isBo_rel hv hx]; unfold selB; rw [if_pos e]; exact .sb _
   ·rw [isBo_rel hv hy]; unfold selB; rw [if_neg e]; exact .sb _
  ·cases h
 ·cases h
theorem mixL_rel {k j : Nat} : ∀ {l m n : List AV}, mixL k j l m = some n -> okL n = true /\ (j = k -> ∀ (C : Cx) (w : World) (vs : List Value), RelL C w l vs -> RelL C w n vs) /\ (j ≠ k -> ∀ (C : Cx) (w : World) (vs : List Value), RelL C w m vs -> RelL C w n vs)
 | [], [], n, h => by
   simp only [mixL] at h
   injection h with h; subst h
   exact ⟨rfl, fun _ _ _ _ h => h, fun _ _ _ _ h => h⟩
 | x :: l, y :: m, n, h => by
   simp only [mixL] at h
   split at h
   ·rename_i z n' h1 h2
    injection h with h; subst h
    obtain ⟨a1, a2, a3⟩ := mixC_rel h1
    obtain ⟨b1, b2, b3⟩ := mixL_rel h2
    refine ⟨by simp [okL, a1, b1], fun e C w vs hv => ?_, fun e C w vs hv => ?_⟩
    ·cases hv with | cons _ _ v vs h h' => exact .cons _ _ _ _ (a2 e C w v h) (b2 e C w vs h')
    ·cases hv with | cons _ _ v vs h h' => exact .cons _ _ _ _ (a3 e C w v h) (b3 e C w vs h')
   ·cases h
 | [], _ :: _, n, h => by simp [mixL] at h
 | _ :: _, [], n, h => by simp [mixL] at h
theorem okL_append0 : ∀ {l m : List AV}, okL l = true -> okL m = true -> okL (l ++ m) = true
 | [], _, _, h => h
 | a :: l, m, h, h' => by simp [okL] at h; simp [okL, h.1, okL_append0 h.2 h']
theorem okL_take0 (n : Nat) : ∀ {l : List AV}, okL l = true -> okL (l.take n) = true := by
 induction n with
 | zero => intro l _; simp [okL]
 | succ n ih =>
   intro l h
   cases l with
   | nil => simp [okL]
   | cons a l => simp [okL] at h; simp [okL, h.1, ih h.2]
theorem okL_drop0 (n : Nat) : ∀ {l : List AV}, okL l = true -> okL (l.drop n) = true := by
 induction n with
 | zero => intro l h; simpa using h
 | succ n ih =>
   intro l h
   cases l with
   | nil => simp [okL]
   | cons a l => simp [okL] at h; simpa using ih h.2
theorem updV_at {k off : Nat} {cs c : List AV} {el : Nat -> List AV} {vs us new : List Value} (h : RelL C w c new) (ho : okL c = true) (hk : RelL C w (el k) vs) (hok : okL (el k) = true) (hcs : RelL C w cs us) (hn : new = vs.take off ++ (us ++ vs.drop (off + us.length))) :
  RelL C w (updV k off cs c el k) new /\ okL (updV k off cs c el k) = true := by
 unfold updV
 split
 ·rename_i l hl; have := mixL_rel hl; exact ⟨this.2.1 rfl C w new h, this.1⟩
 ·split
  ·rename_i m hm
   have hm := mixL_rel hm
   have hp := hk.paste off (hm.2.1 rfl C w us hcs)
   rw [hn]
   refine ⟨hp, ?_⟩
   rw [pasteL_eq]
   exact okL_append0 (okL_take0 _ hok) (okL_append0 hm.1 (okL_drop0 _ hok))
  ·rw [updE_eq, if_pos rfl]; exact ⟨h, ho⟩
theorem updV_ne {k q off : Nat} (hq : q ≠ k) {cs c : List AV} {el : Nat -> List AV} {vs : List Value} (hlen : off + cs.length <= vs.length) (h : RelL C w (el q) vs) (ho : okL (el q) = true) : RelL C w (updV k off cs c el q) vs /\ okL (updV k off cs c el q) = true := by
 unfold updV
 split
 ·rename_i l hl; have := mixL_rel hl; exact ⟨this.2.2 hq C w vs h, this.1⟩
 ·split
  ·rename_i m hm
   have hm := mixL_rel hm
   have hw := hm.2.2 hq C w ((vs.drop off).take cs.length) (by rw [takeL_eq, dropL_eq]; exact (h.drop off).take _)
   have hp := h.paste off hw
   have hl2 : ((vs.drop off).take cs.length).length = cs.length := by rw [List.length_take, List.length_drop]; omega
   have e : vs.take off ++ ((vs.drop off).take cs.length ++ vs.drop (off + ((vs.drop off).take cs.length).length)) = vs := by
    rw [hl2, show vs.drop (off + cs.length) = (vs.drop off).drop cs.length by rw [List.drop_drop], List.take_append_drop, List.take_append_drop]
   rw [e] at hp
   refine ⟨hp, ?_⟩
   rw [pasteL_eq]
   exact okL_append0 (okL_take0 _ ho) (okL_append0 hm.1 (okL_drop0 _ ho))
  ·rw [updE_eq, if_neg hq]; exact ⟨h, ho⟩
theorem okL_append : ∀ {l m : List AV}, okL l = true -> okL m = true -> okL (l ++ m) = true
 | [], _, _, h => h
 | a :: l, m, h, h' => by simp [okL] at h; simp [okL, h.1, okL_append h.2 h']
theorem get_paste {α : Type} (A V : List α) (o i : Nat) (h : o + V.length <= A.length) : (A.take o ++ (V ++ A.drop (o + V.length)))[i]? = if i < o then A[i]? else if i < o + V.length then V[i - o]? else A[i]? := by
 have h1 : (A.take o).length = o := by rw [List.length_take]; omega
 by_cases c1 : i < o
 ·rw [if_pos c1, List.getElem?_append_left (by omega), List.getElem?_take_of_lt c1]
 ·rw [if_neg c1, List.getElem?_append_right (by omega), h1]
  by_cases c2 : i < o + V.length
  ·rw [if_pos c2, List.getElem?_append_left (by omega)]
  ·rw [if_neg c2, List.getElem?_append_right (by omega), List.getElem?_drop]
   congr 1; omega
theorem store_upd {t : TypeId} {p x : AV} {u v : Value} {i : Nat} {B : Blk} (hH : HR C hp w) (hp' : Rel C w p u) (hx : Rel C w x v) (h : storeA P hp t p x = .upd i B) (lo : Nat) :
  ∃ w', (Instr.storeAt t u v).run P w = .ok () w' /\ HR C (setB hp i B) w' /\ Cext C w C w' /\ Tr lo C w C w' := by
 unfold storeA at h
 split at h
 ·cases h
 ·rename_i hsz
  simp only [decide_eq_true_eq] at hsz
  obtain ⟨hsz, hpos⟩ := hsz
  obtain ⟨ti, hti⟩ : ∃ ti, P.info? t = some ti := by
   obtain ⟨k, hk⟩ : ∃ k, sizeT P t = k + 1 := ⟨sizeT P t - 1, by omega⟩
   exact sizeT_info hk
  split at h
  ·rename_i j off
   split at h
   ·rename_i t' l hb
    split at h
    ·rename_i hc
     simp only [Bool.and_eq_true, decide_eq_true_eq] at hc
     injection h with h1 h2
     subst h1 h2
     cases hp' with
     | own _ _ b c n hρ =>
       have hl := hH.live _ _ hρ
       rw [hb] at hl
       obtain ⟨vs, hr, hh⟩ := hl
       have hrx := cellsA_rel hx hc.2
       have hlen := hrx.len
       have hlen' := hr.len
       obtain ⟨w', hrun, hh', hk, ho, ht, hou, hs⟩ := run_storeAt (P := P) (t := t) (off := off) hti hh (v := v) (by rw [<- hsz, hlen]; simp) (by
        have h1 : v.cells.size = v.cells.toList.length := by simp
        have h2 : (⟨vs⟩ : Array Value).size = vs.length := rfl
        omega) (oneL_one hrx hc.2)
       refine ⟨w', hrun, hH.upd (B := .cells t' (pasteL l off (cellsA x))) hρ hk hs ho ht hou (fun hx' => ⟨_, (hr.mono hx').paste off (hrx.mono hx'), hh'⟩) (getB_lt (by rw [hb]; simp)) lo⟩
    ·cases h
   ·cases h
  ·rename_i j sz' k off
   split at h
   ·rename_i e sz n el hb
    split at h
    ·rename_i hc
     simp only [Bool.and_eq_true, decide_eq_true_eq] at hc
     obtain ⟨⟨rfl, hfit⟩, hok⟩ := hc
     injection h with h1 h2
     subst h1 h2
     cases hp' with
     | elt _ _ _ _ b c n' hρ hk =>
       have hl := hH.live _ _ hρ
       rw [hb] at hl
       obtain ⟨hm, hcap, hs0, cs, vs, hh, hcs, hcell⟩ := hl
       have hrx := cellsA_rel hx (okL_oneL hok)
       have hlen := hrx.len
       obtain ⟨hrk, hokk, hlk, hck⟩ := hcell k hk
       have hlk' := hrk.len
       have hA : cs.toList.length = c * sz' := (Array.length_toList).trans hcs
       have hkc : (k + 1) * sz' <= c * sz' := Nat.mul_le_mul_right _ (by omega)
       rw [Nat.add_mul] at hkc
       obtain ⟨w', hrun, hh', hkp, ho, ht, hou, hs⟩ := run_storeAt (P := P) (t := t) (off := k * sz' + off) hti hh (v := v) (by rw [<- hsz, hlen]; simp) (by
        have : v.cells.size = v.cells.toList.length := by simp
        omega) (oneL_one hrx (okL_oneL hok))
       refine ⟨w', hrun, hH.upd hρ hkp hs ho ht hou (fun hx' => ?_) (getB_lt (by rw [hb]; simp)) lo⟩
       have hpaste : RelL C w' (pasteL (el k) off (cellsA x)) ((vs k).take off ++ (v.cells.toList ++ (vs k).drop (off + v.cells.toList.length))) := (hrk.mono hx').paste off (hrx.mono hx')
       have hplen : ((vs k).take off ++ (v.cells.toList ++ (vs k).drop (off + v.cells.toList.length))).length = sz' := by
        simp only [List.length_append, List.length_take, List.length_drop]; omega
       have hnew : RelL C w' (match decide (off = 0 /\ (cellsA x).length = sz') with | true => cellsA x | false => pasteL (el k) off (cellsA x)) ((vs k).take off ++ (v.cells.toList ++ (vs k).drop (off + v.cells.toList.length))) /\
         okL (match decide (off = 0 /\ (cellsA x).length = sz') with | true => cellsA x | false => pasteL (el k) off (cellsA x)) = true := by
        split
        ·rename_i hd
         simp only [decide_eq_true_eq] at hd
         obtain ⟨rfl, hd⟩ := hd
         have e1 : (vs k).drop (0 + v.cells.toList.length) = [] := List.drop_eq_nil_of_le (by omega)
         rw [e1]
         simp only [List.take_zero, List.nil_append, List.append_nil]
         exact ⟨hrx.mono hx', hok⟩
        ·refine ⟨hpaste, ?_⟩
         rw [pasteL_eq]
         exact okL_append (okL_take _ hokk) (okL_append hok (okL_drop _ hokk))
       refine ⟨hm, hcap, hs0, _, fun q => if q = k then (vs k).take off ++ (v.cells.toList ++ (vs k).drop (off + v.cells.toList.length)) else vs q, hh', ?_, fun q hq => ?_⟩
       ·simp only [List.size_toArray, List.length_append, List.length_take, List.length_drop, Array.length_toList]
        have : v.cells.size = v.cells.toList.length := by simp
        omega
       ·by_cases he : q = k
        ·subst he
         have hu := updV_at (k := q) (off := off) (cs := cellsA x) (el := el) (us := v.cells.toList) hnew.1 hnew.2 (hrk.mono hx') hokk (hrx.mono hx') rfl
         simp only [if_true]
         refine ⟨hu.1, hu.2, hplen, fun r hr => ?_⟩
         simp only [List.getElem?_toArray]
         rw [get_paste _ _ _ _ (by omega), get_paste _ _ _ _ (by omega)]
         have hold := hck r hr
         rw [<- Array.getElem?_toList] at hold
         by_cases h1 : r < off
         ·rw [if_pos (by omega), if_pos h1, hold]
         ·rw [if_neg (by omega), if_neg h1]
          by_cases h2 : r < off + v.cells.toList.length
          ·rw [if_pos (by omega), if_pos h2]; congr 1; omega
          ·rw [if_neg (by omega), if_neg h2, hold]
        ·simp only [he, if_false]
         have hu := updV_ne (off := off) (cs := cellsA x) he (c := (match decide (off = 0 /\ (cellsA x).length = sz') with | true => cellsA x | false => pasteL (el k) off (cellsA x))) (by rw [(hcell q hq).2.2.1]; omega) ((hcell q hq).1.mono hx') (hcell q hq).2.1
         refine ⟨hu.1, hu.2, (hcell q hq).2.2.1, fun r hr => ?_⟩
         have hold := (hcell q hq).2.2.2 r hr
         simp only [List.getElem?_toArray]
         rw [<- Array.getElem?_toList] at hold
         rw [get_paste _ _ _ _ (by omega)]
         rcases Nat.lt_or_gt_of_ne he with hlt | hgt
         ·have : (q + 1) * sz' <= k * sz' := Nat.mul_le_mul_right _ hlt
          rw [Nat.add_mul] at this
          rw [if_pos (by omega), hold]
         ·have : (k + 1) * sz' <= q * sz' := Nat.mul_le_mul_right _ hgt
          rw [Nat.add_mul] at this
          rw [if_neg (by omega), if_neg (by omega), hold]
    ·cases h
   ·exfalso; revert h; repeat' split
    all_goals (intro h; cases h)
   ·exfalso; revert h; repeat' split
    all_goals (intro h; cases h)
   ·cases h
  ·cases h
theorem mixM_rel {k j k' j' : Nat} {x y z : AV} (h : mixM k j k' j' x y = some z) : okC z = true /\ (k' = k /\ j' = j -> ∀ (C : Cx) (w : World) (v : Value), Rel C w x v -> Rel C w z v) /\ (¬ (k' = k /\ j' = j) -> ∀ (C : Cx) (w : World) (v : Value), Rel C w y v -> Rel C w z v) := by
 unfold mixM at h
 split at h
 ·rename_i q q' hx hy
  split at h
  ·rename_i hq
   have hq := of_decide_eq_true hq
   subst hq
   injection h with h; subst h
   refine ⟨rfl, fun e C w v hv => ?_, fun e C w v hv => ?_⟩
   ·rw [kindOf_rel hv hx]; unfold selMI; rw [if_pos e]; exact .si _ _
   ·rw [kindOf_rel hv hy]; unfold selMI; rw [if_neg e]; exact .si _ _
  ·cases h
 ·split at h
  ·rename_i hx hy
   injection h with h; subst h
   refine ⟨rfl, fun e C w v hv => ?_, fun e C w v hv => ?_⟩
   ·rw [isBo_rel hv hx]; unfold selMB; rw [if_pos e]; exact .sb _
   ·rw [isBo_rel hv hy]; unfold selMB; rw [if_neg e]; exact .sb _
  ·cases h
 ·cases h
theorem updM_at {k j k' j' : Nat} (e : k' = k /\ j' = j) {c : AV} {f : Nat -> Nat -> AV} {v : Value} (h : Rel C w c v) (ho : okC c = true) : Rel C w (updM k j c f k' j') v /\ okC (updM k j c f k' j') = true := by
 unfold updM
 split
 ·rename_i l hl; have := mixM_rel hl; exact ⟨this.2.1 e C w v h, this.1⟩
 ·unfold updM0; rw [if_pos e]; exact ⟨h, ho⟩
theorem updM_ne {k j k' j' : Nat} (e : ¬ (k' = k /\ j' = j)) {c : AV} {f : Nat -> Nat -> AV} {v : Value} (h : Rel C w (f k' j') v) (ho : okC (f k' j') = true) : Rel C w (updM k j c f k' j') v /\ okC (updM k j c f k' j') = true := by
 unfold updM
 split
 ·rename_i l hl; have := mixM_rel hl; exact ⟨this.2.2 e C w v h, this.1⟩
 ·unfold updM0; rw [if_neg e]; exact ⟨h, ho⟩
theorem pos_eq {w k j k' j' : Nat} (hj : j < w) (hj' : j' < w) : k' * w + j' = k * w + j ↔ k' = k /\ j' = j := by
 refine ⟨fun h => ?_, fun ⟨h1, h2⟩ => by rw [h1, h2]⟩
 rcases Nat.lt_trichotomy k' k with hl | he | hl
 ·have := Nat.mul_le_mul_right w (show k' + 1 <= k from hl)
  rw [Nat.add_mul] at this; omega
 ·subst he; exact ⟨rfl, by omega⟩
 ·have := Nat.mul_le_mul_right w (show k + 1 <= k' from hl)
  rw [Nat.add_mul] at this; omega
theorem store_updN {t : TypeId} {p x : AV} {u v : Value} {q : Cd} {r : AR} (hH : HR C hp w) (hp' : Rel C w p u) (hx : Rel C w x v) (h : storeA P hp t p x = .need q r) (hq : q.ok) (lo : Nat) :
  ∃ i B, r = .upd i B /\ ∃ w', (Instr.storeAt t u v).run P w = .ok () w' /\ HR C (setB hp i B) w' /\ Cext C w C w' /\ Tr lo C w C w' := by
 unfold storeA at h
 split at h
 ·cases h
 ·rename_i hsz
  simp only [decide_eq_true_eq] at hsz
  obtain ⟨hsz, hpos⟩ := hsz
  obtain ⟨ti, hti⟩ : ∃ ti, P.info? t = some ti := by
   obtain ⟨k, hk⟩ : ∃ k, sizeT P t = k + 1 := ⟨sizeT P t - 1, by omega⟩
   exact sizeT_info hk
  split at h
  ·exfalso; revert h; repeat' split
   all_goals (intro h; cases h)
  ·rename_i j sz' k off
   cases hp' with
   | elt _ _ _ _ b c n' hρ hk =>
   split at h
   ·exfalso; revert h; repeat' split
    all_goals (intro h; cases h)
   ·rename_i t' wd n f hb
    split at h
    ·rename_i c1 hcx
     split at h
     ·rename_i hc
      simp only [Bool.and_eq_true, decide_eq_true_eq] at hc
      obtain ⟨rfl, hok⟩ := hc
      injection h with h1 h2
      subst h1 h2
      have hoff : off < sz' := hq
      have hl := hH.live _ _ hρ
      rw [hb] at hl
      obtain ⟨hm, hcap, hs0, cs, hh, hcs, hcell⟩ := hl
      have hrx := cellsA_rel hx (by rw [hcx]; exact okL_oneL (by simp [okL, hok]))
      rw [hcx] at hrx hsz
      generalize hvl : v.cells.toList = vl at hrx
      cases hrx with | cons _ _ vc vs h0 h1 =>
      cases h1
      have hvs : v.cells.size = 1 := by have := congrArg List.length hvl; simpa using this
      have hA : cs.toList.length = c * sz' := (Array.length_toList).trans hcs
      have hkc : (k + 1) * sz' <= c * sz' := Nat.mul_le_mul_right _ (by omega)
      rw [Nat.add_mul] at hkc
      obtain ⟨w', hrun, hh', hkp, ho, ht, hou, hs⟩ := run_storeAt (P := P) (t := t) (off := k * sz' + off) hti hh (v := v) (by rw [hvs, <- hsz]; rfl) (by omega) (by
       rw [hvl]; intro u hu; simp at hu; subst hu
       exact oneC_one h0 (by cases c1 <;> first | rfl | exact hok))
      rw [hvl] at hh'
      refine ⟨_, _, rfl, w', hrun, hH.upd hρ hkp hs ho ht hou (fun hx' => ?_) (getB_lt (by rw [hb]; simp)) lo⟩
      refine ⟨hm, hcap, hs0, _, hh', ?_, fun k' hk' j' hj' => ?_⟩
      ·simp only [List.size_toArray, List.length_append, List.length_take, List.length_drop, Array.length_toList, List.length_cons, List.length_nil]
       omega
      ·obtain ⟨hok', v', hv', hr'⟩ := hcell k' hk' j' hj'
       have hg := get_paste cs.toList [vc] (k * sz' + off) (k' * sz' + j') (by simp only [List.length_cons, List.length_nil]; omega)
       simp only [List.getElem?_toArray]
       by_cases he : k' = k /\ j' = off
       ·have hu := updM_at (f := f) he (h0.mono hx') hok
        refine ⟨hu.2, vc, ?_, hu.1⟩
        rw [hg, he.1, he.2]
        simp
       ·have hu := updM_ne (c := c1) he (hr'.mono hx') hok'
        refine ⟨hu.2, v', ?_, hu.1⟩
        have hne := mt (pos_eq hoff hj').1 he
        rw [hg, <- hv', <- Array.getElem?_toList]
        simp only [List.length_cons, List.length_nil]
        by_cases h2 : k' * sz' + j' < k * sz' + off
        ·rw [if_pos h2]
        ·rw [if_neg h2, if_neg (by omega)]
     ·cases h
    ·cases h
   ·rename_i e e' sz2 n fz ln el hol hb
    split at h
    ·rename_i g k0 xo hcx
     split at h
     ·rename_i hc
      simp only [decide_eq_true_eq] at hc
      obtain ⟨rfl, rfl⟩ := hc
      injection h with h1 h2
      subst h1 h2
      have hk0 : k = k0 := hq
      subst hk0
      have hl := hH.live _ _ hρ
      rw [hb] at hl
      obtain ⟨hm, hcap, hs0, cs, hh, hcs, hcell⟩ := hl
      have hrx := cellsA_rel hx (by rw [hcx]; rfl)
      rw [hcx] at hrx hsz
      generalize hvl : v.cells.toList = vl at hrx
      cases hrx with | cons _ _ vc vs h0 h1 =>
      cases h1
      have hvs : v.cells.size = 1 := by have := congrArg List.length hvl; simpa using this
      have hA : cs.toList.length = c := (Array.length_toList).trans hcs
      obtain ⟨w', hrun, hh', hkp, ho, ht, hou, hs⟩ := run_storeAt (P := P) (t := t) (off := k * 1 + 0) hti hh (v := v) (by rw [hvs, <- hsz]; rfl) (by omega) (by
       rw [hvl]; intro u hu; simp at hu; subst hu
       exact oneC_one h0 rfl)
      rw [hvl] at hh'
      refine ⟨_, _, rfl, w', hrun, hH.upd hρ hkp hs ho ht hou (fun hx' => ?_) (getB_lt (by rw [hb]; simp)) lo⟩
      refine ⟨hm, hcap, hs0, _, hh', ?_, fun k' hk' => ?_⟩
      ·simp only [List.size_toArray, List.length_append, List.length_take, List.length_drop, Array.length_toList, List.length_cons, List.length_nil]
       omega
      ·obtain ⟨v', hv', hr', hn'⟩ := hcell k' hk'
       have hg := get_paste cs.toList [vc] (k * 1 + 0) k' (by simp only [List.length_cons, List.length_nil]; omega)
       simp only [List.getElem?_toArray]
       by_cases he : k' = k
       ·subst he
        refine ⟨vc, ?_, fun g' e' => ?_, fun hno => (hno ⟨_, rfl⟩).elim⟩
        ·rw [hg]; simp
        ·injection e' with e'; injection e' with e1 e2; injection e2 with e2; subst e2
         exact h0.mono hx'
       ·refine ⟨v', ?_, fun g' e' => ?_, fun hno => ?_⟩
        ·rw [hg, <- hv', <- Array.getElem?_toList]
         simp only [List.length_cons, List.length_nil]
         by_cases h2 : k' < k * 1 + 0
         ·rw [if_pos h2]
         ·rw [if_neg h2, if_neg (by omega)]
        ·injection e' with e'; injection e' with e1 e2; exact absurd e1.symm he
        ·have hno' : ¬ holeB (some (k, xo)) k' := fun ⟨y, hy⟩ => he (by injection hy with hy; injection hy with h1 h2; exact h1.symm)
         refine ⟨fun hf => ((hn' hno').1 hf).mono hx', fun hf => ((hn' hno').2 hf).mono (fun b' x hb' => ⟨hb', hkp b' fun e => (hH.sub b' x hb').2.2.1 _ _ _ _ hρ e.symm⟩) fun _ h => h.mono hx'⟩
     ·cases h
    ·cases h
   ·cases h
  ·cases h
end
end Abs
end Go.Proofs.Ytdfdjlijghjdaaa

namespace Go.Proofs.Ytdfdjlijghjdaaa
namespace Abs
open Go Go.RowKit
section
variable {P : Program} {S : Sums} {C C' : Cx} {w w' : World} {H hp : Heap}
def catV (n : Nat) (f g : Nat -> List Value) (k : Nat) : List Value := if k < n then f k else g (k - n)
theorem flat_cat (n : Nat) (f g : Nat -> List Value) : ∀ m, flat (catV n f g) (n + m) = flat f n ++ flat g m := by
 intro m
 induction m with
 | zero =>
   simp only [Nat.add_zero, flat, List.range_zero, List.flatMap_nil, List.append_nil]
   rw [List.flatMap_def, List.flatMap_def]
   congr 1
   apply List.map_congr_left
   intro k hk
   simp [catV, List.mem_range.1 hk]
 | succ m ih =>
   rw [<- Nat.add_assoc, flat_succ, flat_succ, ih, List.append_assoc]
   congr 2
   unfold catV
   rw [if_neg (by omega)]
   congr 1; omega
theorem owns_of_brel {e : TypeId} {sz b c q : Nat} {n : LN} {el : Nat -> List AV} (h : BRel C w (.at b c q) (.row e sz n el)) :
  ∃ vs : Nat -> List Value, w.ownsRow 0 e sz (.slice (some ⟨b, 0, none⟩) q c) q (flat vs q) /\ ∀ k, k < q -> RelL C w (el k) (vs k) /\ okL (el k) = true /\ (vs k).length = sz := by
 obtain ⟨hm, hcap, hs0, cs, vs, hh, hcs, hcell⟩ := h
 have hfl := flat_len (m := q) (fun k hk => (hcell k hk).2.2.1)
 refine ⟨vs, ⟨hfl, .inr ⟨b, c, cs, rfl, Nat.zero_le _, hh, hcap, hs0.2, hcs, ?_⟩⟩, fun k hk => ⟨(hcell k hk).1, (hcell k hk).2.1, (hcell k hk).2.2.1⟩⟩
 have hle : q * sz <= c * sz := Nat.mul_le_mul_right _ hcap
 apply List.ext_getElem?
 intro r
 by_cases hr : r < q * sz
 ·obtain ⟨k, j, hk, hj, rfl⟩ := div_split hs0.1 hr
  rw [List.getElem?_take_of_lt hr, flat_get (fun k hk => (hcell k hk).2.2.1) hk hj, <- (hcell k hk).2.2.2 j hj]
  simp
 ·rw [List.getElem?_eq_none (by simp; omega), List.getElem?_eq_none (by omega)]
theorem append_grow {t ty e : TypeId} {i lo : Nat} {x : AV} {u v : Value} {n m : LN} {sz : Nat} {el elx : Nat -> List AV} {z : List AV} (hH : HR C hp w) (ht : P.underlying t = some (.slice e)) (hs : Rel C w (.row i) u)
  (hb : getB hp i = .row e sz n el) (hx : Rel C w x v) (hr : readS hp x = some (m, sz, elx)) (hsz : sz = sizeT P e) (hpos : 0 < sz) (hz : zeroL P e = some z) (hbytes : (n.val + m.val) * (bytesT P e + 1) <= maxRow) (hlo : lo <= i) :
  ∃ u' w' C', (Builtin.append_ #[t, t] ty #[u, v]).run P w = .ok u' w' /\ Turn i .top C w C' w' /\ HR C' (setB (mapH (at1 i .top) hp) i (.row e sz (addLN n m) (catL n el elx))) w' /\ Rel C' w' (.row i) u' /\ Tr lo C w C' w' := by
 obtain ⟨A, c0, vx, rfl, hcap0, hA, hel⟩ := read_rel hH (fun _ _ => rfl) hx hr
 obtain ⟨ti, z0, hi, hz0, hzs, rfl⟩ := zeroL_some hz
 have hszi : ti.size = sz := by rw [hsz]; simp [sizeT, hi]
 have hby : ti.bytes = bytesT P e := by simp [bytesT, hi]
 obtain ⟨hb1, hb2⟩ := bytes_le hbytes
 have hj : i < hp.length := getB_lt (by rw [hb]; simp)
 have stay : (Builtin.append_ #[t, t] ty #[u, .slice A m.val c0]).run P w = .ok u w -> m.val = 0 ->
   ∃ u' w' C', (Builtin.append_ #[t, t] ty #[u, .slice A m.val c0]).run P w = .ok u' w' /\ Turn i .top C w C' w' /\ HR C' (setB (mapH (at1 i .top) hp) i (.row e sz (addLN n m) (catL n el elx))) w' /\ Rel C' w' (.row i) u' /\ Tr lo C w C' w' := by
  intro hrun h0
  have htn : Turn i .top C w C w := ⟨fun _ _ => rfl, fun _ h => h, fun _ _ => rfl, fun v _ => .top v⟩
  refine ⟨u, w, C, hrun, htn, htn.hr hH hj (fun _ _ _ _ _ _ => rfl) (Nat.le_refl _) (fun p hp' => ?_) (fun b c q h => ?_) (fun b h => ⟨hH.ilt b h, fun i' c q _ hi' => (hH.fresh _ _ _ _ hi').2 h⟩) (fun _ => rfl) (fun b x hb' => ⟨rfl, (hH.sub b x hb').2.1, fun b' c q h => (hH.sub b x hb').2.2.1 _ _ _ _ h⟩), hs, ?_⟩
  ·have hl := hH.live _ _ hp'
   rw [hb] at hl
   match p, hl with
   | .nil, hl =>
     obtain ⟨h1, h2⟩ : n.val = 0 /\ _ := hl
     exact ⟨by rw [addLN_val]; omega, h2⟩
   | .at b c q, hl =>
     obtain ⟨hm, hcap, hs0, cs, vs, hh, hcs, hcell⟩ := hl
     refine ⟨by rw [addLN_val]; omega, hcap, hs0, cs, vs, hh, hcs, fun k hk => ?_⟩
     rw [catL_eq, if_pos (by omega)]
     exact hcell k hk
  ·exact ⟨(hH.fresh _ _ _ _ h).1, (hH.fresh _ _ _ _ h).2, fun i' b' c' n' hi' h' => hH.inj _ _ _ _ _ _ _ _ h' h hi'⟩
  ·exact ⟨rfl, rfl, rfl, Nat.le_refl _, fun _ _ _ _ => rfl, fun _ h => h, fun _ h => .inl h, fun _ _ => rfl, fun i' b' c' n' h h' => .inl ⟨i', c', n', h, h'⟩, fun b x hb' => .inl ⟨x, hb'⟩⟩
 cases A with
 | none =>
   have h0 : m.val = 0 := by
    rcases Nat.eq_zero_or_pos m.val with h | h
    ·exact h
    ·obtain ⟨ad, h1, _⟩ := hA h; cases h1
   refine stay ?_ h0
   have hc0 : ∀ A (q c : Nat), q <= c -> (Builtin.append_ #[t, t] ty #[.slice A q c, .slice none m.val c0]).run P w = .ok (.slice A q c) w := fun A q c hc => by
    rw [h0]
    cases A with
    | none => simp [Builtin.append_, run_underlying ht, sizeOf, typeInfo, hi, Builtin.lenOf, hc, Builtin.firstCells]
    | some a => simp [Builtin.append_, run_underlying ht, sizeOf, typeInfo, hi, Builtin.lenOf, hc, Builtin.firstCells, storeCells]
   cases hs with
   | row _ b c q hρ =>
     have hl := hH.live _ _ hρ
     rw [hb] at hl
     exact hc0 _ _ _ hl.2.1
   | rown _ hρ => exact hc0 _ _ _ (Nat.le_refl _)
 | some ad =>
   have hAc : ∀ j y, (flat vx m.val)[j]? = some y -> w.cell? (ad.add j) = some y := fun j y hj' => by
    have hl := flat_len (fun k hk => (hel k hk).2.2)
    have hjl : j < m.val * sz := by rw [<- hl]; exact (List.getElem?_eq_some_iff.1 hj').1
    obtain ⟨k, r, hk, hr', rfl⟩ := div_split hpos hjl
    obtain ⟨ad', h1, _, hc⟩ := hA (by omega)
    injection h1 with h1; subst h1
    rw [hc k hk r hr', <- flat_get (fun k hk => (hel k hk).2.2) hk hr', hj']
   have hone := flat_mem (p := fun u => u.oneCell' = true) (m := m.val) (fun k hk u hu => okL_one (hel k hk).1 (hel k hk).2.1 u hu)
   obtain ⟨q, vs, hn, hown, hels⟩ : ∃ (q : Nat) (vs : Nat -> List Value), n.val = q /\ w.ownsRow 0 e sz u q (flat vs q) /\ ∀ k, k < q -> RelL C w (el k) (vs k) /\ okL (el k) = true /\ (vs k).length = sz := by
    cases hs with
    | row _ b c q hρ =>
      have hl := hH.live _ _ hρ
      rw [hb] at hl
      obtain ⟨vs, h1, h2⟩ := owns_of_brel hl
      exact ⟨q, vs, hl.1, h1, h2⟩
    | rown _ hρ =>
      have hl := hH.live _ _ hρ
      rw [hb] at hl
      exact ⟨0, fun _ => [], hl.1, World.ownsRow_nil w 0 e sz, fun k hk => by omega⟩
   obtain ⟨u', w', hrun, hown', hgrow, hnil, hat⟩ := run_append_own_at (P := P) w 0 t ty e ti z0 sz (bytesT P e) ht hi hz0 hszi hby (by omega) hpos u q (flat vs q) hown ad m.val c0 (flat vx m.val) (flat_len (fun k hk => (hel k hk).2.2)) hAc hone
    (by omega) (by rw [<- hn]; exact hb2) (Nat.zero_le _)
   rw [<- flat_cat] at hown'
   have hown2 := hown'
   obtain ⟨_, ⟨h1, h2⟩ | ⟨g, cap, cur, hv, _, hh, _⟩⟩ := hown'
   ·-- nil stays nil
    have hu := (hnil.1 h1).1
    refine stay ?_ (by omega)
    rw [hu]
    rw [show m.val = 0 by omega]
    simp [Builtin.append_, run_underlying ht, sizeOf, typeInfo, hi, Builtin.lenOf, Builtin.firstCells, loadCells, loadCellsFrom]
   ·subst hv
    have hlt' : g < w'.heap.size := by
     rcases Nat.lt_or_ge g w'.heap.size with h | h
     ·exact h
     ·rw [Array.getElem?_eq_none h] at hh; cases hh
    have hnoI : ∀ b, C.I b -> some b ≠ u.ownBlock := fun b hb' => by
     cases hs with
     | row _ b0 c q hρ => simp only [Value.ownBlock]; exact fun e => (hH.fresh _ _ _ _ hρ).2 (by injection e with e; rw [<- e]; exact hb')
     | rown _ hρ => simp [Value.ownBlock]
    have hno : ∀ i' b c n', i' ≠ i -> C.ρ i' = some (.at b c n') -> some b ≠ u.ownBlock := fun i' b c n' hne h => by
     cases hs with
     | row _ b0 c q hρ => simp only [Value.ownBlock]; exact fun e => hH.inj _ _ _ _ _ _ _ _ h hρ hne (by injection e)
     | rown _ hρ => simp [Value.ownBlock]
    have hnoO : ∀ b x, C.O b = some x -> some b ≠ u.ownBlock := fun b x hb' => by
     cases hs with
     | row _ b0 c q hρ => simp only [Value.ownBlock]; exact fun e => (hH.sub b x hb').2.2.1 _ _ _ _ hρ (by injection e with e; exact e.symm)
     | rown _ hρ => simp [Value.ownBlock]
    have hg : (∃ c n', C.ρ i = some (.at g c n')) \/ g = w.heap.size := by
     rcases hat with h | h
     ·cases hs with
      | row _ b0 c q hρ => simp only [Value.ownBlock] at h; injection h with h; exact .inl ⟨c, _, by rw [h]; exact hρ⟩
      | rown _ hρ => simp [Value.ownBlock] at h
     ·simp only [Value.ownBlock] at h; injection h with h; exact .inr h
    let C' : Cx := ⟨fun k => if k = i then some (.at g cap (q + m.val)) else C.ρ k, C.I, C.O⟩
    have hci : C'.ρ i = some (.at g cap (q + m.val)) := by simp [C']
    have htn : Turn i .top C w C' w' := ⟨fun k hk => by simp [C', hk], fun _ h => h, fun b hb' => hgrow.block b (hH.ilt b hb') (hnoI b hb'), fun v _ => .top v⟩
    refine ⟨_, w', C', hrun, htn, htn.hr hH hj (fun k b c n' hk h => hgrow.block b (hH.fresh _ _ _ _ h).1 (hno _ _ _ _ hk h)) hgrow.size (fun p hp' => ?_) (fun b c n' h => ?_) (fun b h => ⟨Nat.lt_of_lt_of_le (hH.ilt b h) hgrow.size, fun k c n' _ hk => (hH.fresh _ _ _ _ hk).2 h⟩) (fun _ => rfl) (fun b x hb' => ⟨hgrow.block b (hH.sub b x hb').1 (hnoO b x hb'), (hH.sub b x hb').2.1, fun b' c n' h e => ?_⟩), .row _ _ _ _ hci, ?_⟩
    ·rw [hci] at hp'; injection hp' with hp'; subst hp'
     refine own_brel hpos (by rw [addLN_val]; omega) hown2 fun k hk => ?_
     rw [catL_eq, hn]
     by_cases hkq : k < q
     ·simp only [catV, hkq, if_true]
      exact ⟨RelL.still (C := C) (C' := C') (fun _ h => h) htn.blk (hels k hkq).1 (own_ok (hels k hkq).2.1), (hels k hkq).2⟩
     ·simp only [catV, hkq, if_false]
      have := hel (k - q) (by omega)
      exact ⟨RelL.still (C := C) (C' := C') (fun _ h => h) htn.blk this.1 (own_ok this.2.1), this.2⟩
    ·rw [hci] at h; injection h with h; injection h with h1 h2 h3
     subst h1
     refine ⟨hlt', fun hI => ?_, fun k b' c' n'' hk h' e => ?_⟩
     ·rcases hg with ⟨c1, n1, hρ⟩ | hgs
      ·exact (hH.fresh _ _ _ _ hρ).2 hI
      ·have := hH.ilt _ hI; omega
     ·rcases hg with ⟨c1, n1, hρ⟩ | hgs
      ·exact hH.inj _ _ _ _ _ _ _ _ h' hρ hk e
      ·have := (hH.fresh _ _ _ _ h').1; omega
    ·rw [hci] at h; injection h with h; injection h with h1 h2 h3
     subst h1
     rcases hg with ⟨c1, n1, hρ⟩ | hgs
     ·exact (hH.sub b x hb').2.2.1 _ _ _ _ hρ e
     ·have := (hH.sub b x hb').1; omega
    ·refine ⟨hgrow.os, hgrow.tape, hgrow.output, hgrow.size, fun k hk hnk _ => hgrow.block k hk ?_, fun _ h => h, fun _ h => .inl h, fun k hk => by simp [C', show k ≠ i by omega], fun k b c n' hk h => ?_, fun b x hb' => .inl ⟨x, hb'⟩⟩
     ·cases hs with
      | row _ b0 c q hρ => simp only [Value.ownBlock]; exact fun e => hnk _ _ _ _ hρ (by injection e with e; exact e.symm)
      | rown _ hρ => simp [Value.ownBlock]
     ·by_cases hki : k = i
      ·subst hki
       rw [hci] at h; injection h with h; injection h with h1 h2 h3
       subst h1
       rcases hg with ⟨c1, n1, hρ⟩ | hgs
       ·exact .inl ⟨k, c1, n1, hk, hρ⟩
       ·exact .inr (.inl (by omega))
      ·simp [C', hki] at h; exact .inl ⟨k, c, n', hk, h⟩
end
end Abs
end Go.Proofs.Ytdfdjlijghjdaaa

namespace Go.Proofs.Ytdfdjlijghjdaaa
namespace Abs
open Go Go.RowKit
def RelG (T : List Cnd) (C : Cx) (w : World) (a : AV) (v : Value) : Prop :=
 Rel C w a v /\ ∀ k b, a = .gd k b -> ∃ x, T[k]? = some x /\ (x.c = true -> Rel C w b v) /\ (x.c = false -> v = undef)
structure FR (T : List Cnd) (C : Cx) (w : World) (fr : List AV) (tm : Array Value) : Prop where
 len : fr.length = tm.size
 get : ∀ t, RelG T C w (getL fr t) (tm.getD t undef)
def notGd : AV -> Prop
 | .gd _ _ => False
 | _ => True
theorem RelG.plain {T : List Cnd} {C : Cx} {w : World} {a : AV} {v : Value} (h : Rel C w a v) (hn : notGd a) : RelG T C w a v :=
 ⟨h, fun k b e => by subst e; exact hn.elim⟩
theorem notGd_noGd (a : AV) : notGd (noGd a) := by cases a <;> simp [noGd, notGd]
theorem rel_noGd {C : Cx} {w : World} {a : AV} {v : Value} (h : Rel C w a v) : Rel C w (noGd a) v := by
 cases a <;> first | exact h | exact .top _
section
variable {P : Program} {S : Sums} {C C' : Cx} {w w' : World} {H hp : Heap} {T : List Cnd}
theorem RelG.mono (hx : Cext C w C' w') {a : AV} {v : Value} (h : RelG T C w a v) : RelG T C' w' a v :=
 ⟨h.1.mono hx, fun k b e => by
  obtain ⟨x, h1, h2, h3⟩ := h.2 k b e
  exact ⟨x, h1, fun hc => (h2 hc).mono hx, h3⟩⟩
theorem FR.mono (hx : Cext C w C' w') {fr : List AV} {tm : Array Value} (h : FR T C w fr tm) : FR T C' w' fr tm := ⟨h.len, fun t => (h.get t).mono hx⟩
theorem getL_mapRL (f : Nat -> Option AV) : ∀ (l : List AV) (t : Nat), getL (mapR.mapRL f l) t = mapR f (getL l t)
 | [], _ => rfl
 | _ :: _, 0 => rfl
 | _ :: l, t + 1 => getL_mapRL f l t
theorem len_mapRL (f : Nat -> Option AV) : ∀ l : List AV, (mapR.mapRL f l).length = l.length
 | [] => rfl
 | _ :: l => by simp [mapR.mapRL, len_mapRL f l]
theorem mapR_gd {j k : Nat} {a x b : AV} (ha : notGd a) (h : mapR (at1 j a) x = .gd k b) : ∃ b', x = .gd k b' /\ b = mapR (at1 j a) b' := by
 cases x with
 | gd k' b' => simp only [mapR] at h; injection h with h1 h2; subst h1; exact ⟨b', rfl, h2.symm⟩
 | own i o => simp only [mapR] at h; split at h <;> cases h
 | elt i s q o => simp only [mapR] at h; split at h <;> cases h
 | lsl i n s => simp only [mapR] at h; split at h <;> cases h
 | mp i => simp only [mapR] at h; split at h <;> cases h
 | row i =>
   simp only [mapR] at h
   split at h
   ·rename_i hh
    unfold at1 at hh
    split at hh
    ·injection hh with hh; subst hh; subst h; exact ha.elim
    ·cases hh
   ·cases h
 | _ => simp only [mapR] at h; cases h
theorem Turn.frame {j : Nat} {a : AV} (t : Turn j a C w C' w') (ha : notGd a) {fr : List AV} {tm : Array Value} (h : FR T C w fr tm) : FR T C' w' (mapR.mapRL (at1 j a) fr) tm := by
 refine ⟨by rw [len_mapRL, h.len], fun q => ?_⟩
 rw [getL_mapRL]
 have hq := h.get q
 refine ⟨t.rel hq.1, fun k b e => ?_⟩
 obtain ⟨b', h1, h2⟩ := mapR_gd ha e
 obtain ⟨x, hx, h3, h4⟩ := hq.2 k b' h1
 exact ⟨x, hx, fun hc => h2 ▸ t.rel (h3 hc), h4⟩
theorem getL_set : ∀ (l : List AV) (d t : Nat) (a : AV), getL (setL l d a) t = if t = d /\ d < l.length then a else getL l t
 | [], d, t, a => by simp [setL, getL_nil]
 | x :: l, 0, 0, a => by simp [setL, getL_zero]
 | x :: l, 0, t + 1, a => by simp [setL, getL_succ]
 | x :: l, d + 1, 0, a => by simp [setL, getL_zero]
 | x :: l, d + 1, t + 1, a => by simp [setL, getL_succ, getL_set l d t a]
theorem len_setL : ∀ (l : List AV) (d : Nat) (a : AV), (setL l d a).length = l.length
 | [], _, _ => rfl
 | _ :: _, 0, _ => rfl
 | _ :: l, d + 1, a => by simp [setL, len_setL l d a]
def setO (fr : List AV) (d : Option Nat) (a : AV) : List AV := match d with | none => fr | some d => setL fr d a
theorem FR.put {fr : List AV} {act : Act} (h : FR T C w fr act.tmps) {a : AV} {v : Value} (ha : RelG T C w a v) (d : Option Nat) : FR T C w (setO fr d a) (act.put d v).tmps := by
 cases d with
 | none => exact h
 | some d =>
   refine ⟨by simp [setO, Act.put, len_setL, h.len], fun t => ?_⟩
   show RelG T C w (getL (setL fr d a) t) ((act.tmps.setIfInBounds d v).getD t undef)
   rw [getL_set]
   by_cases ht : t = d /\ d < fr.length
   ·obtain ⟨rfl, hlt⟩ := ht
    rw [if_pos ⟨rfl, hlt⟩, Array.getD_eq_getD_getElem?, Array.getElem?_setIfInBounds_self_of_lt (by rw [<- h.len]; exact hlt)]
    exact ha
   ·rw [if_neg ht]
    have : (act.tmps.setIfInBounds d v).getD t undef = act.tmps.getD t undef := by
     rw [Array.getD_eq_getD_getElem?, Array.getD_eq_getD_getElem?, Array.getElem?_setIfInBounds]
     by_cases hd : d = t
     ·subst hd
      have hge : act.tmps.size <= d := by rw [<- h.len]; omega
      simp [Nat.not_lt.2 hge]
     ·simp [hd]
    rw [this]; exact h.get t
def AncOK (T : List Cnd) (c : Bool) (anc : List Nat) : Prop := ∀ k, memN k anc = true -> ∃ x, T[k]? = some x /\ (c = true -> x.c = true)
theorem relL_v : ∀ l : List Value, RelL C w (l.map .v) l
 | [] => .nil
 | x :: l => .cons _ _ _ _ (.v x) (relL_v l)
theorem ev_rel {fr : List AV} {act : Act} (h : FR T C w fr act.tmps) {c : Bool} (hc : c = true) {anc : List Nat} (ha : AncOK T c anc) (x : Operand) : Rel C w (evU anc fr x) (act.eval x) := by
 unfold evU
 cases x with
 | tmp t =>
   have ht := h.get t
   show Rel C w (unGd anc (getL fr t)) (act.tmps.getD t undef)
   generalize getL fr t = a at ht
   cases a <;> try exact ht.1
   case gd k b =>
    simp only [unGd]
    split
    ·rename_i hm
     obtain ⟨y, hy, hy'⟩ := ha k hm
     obtain ⟨x, hx, h1, _⟩ := ht.2 k b rfl
     rw [hy] at hx; injection hx with hx; subst hx
     exact h1 (hy' hc)
    ·exact .top _
 | const v =>
   show Rel C w (unGd anc (ev fr (.const v))) v
   cases v <;> try exact .v _
   ·exact .lb _
   ·exact .li _ _
   ·exact .fn _ _ _ _ _ (relL_v _) (relL_v _)
   ·exact .agg _ _ (relL_v _)
   ·exact .tup _ _ (relL_v _)
 | global g => exact .v _
 | func f => exact .fn _ _ _ _ _ .nil .nil
inductive BO (S : Sums) : List AV -> Heap -> AR -> List AV -> Heap -> AV -> Prop
 | val (fr : List AV) (hp : Heap) (a : AV) : BO S fr hp (.val a) fr hp a
 | need (fr : List AV) (hp : Heap) (p : Cd) (r : AR) (fr' : List AV) (hp' : Heap) (a : AV) (h : p.ok) (h' : BO S fr hp r fr' hp' a) : BO S fr hp (.need p r) fr' hp' a
 | brt (fr : List AV) (hp : Heap) (t e : AR) (fr' : List AV) (hp' : Heap) (a : AV) (h : BO S fr hp t fr' hp' a) : BO S fr hp (.br true t e) fr' hp' a
 | brf (fr : List AV) (hp : Heap) (t e : AR) (fr' : List AV) (hp' : Heap) (a : AV) (h : BO S fr hp e fr' hp' a) : BO S fr hp (.br false t e) fr' hp' a
 | blk (fr : List AV) (hp : Heap) (b : Blk) (mk : Nat -> AV) : BO S fr hp (.blk b mk) fr (hp ++ [b]) (mk hp.length)
 | upd (fr : List AV) (hp : Heap) (i : Nat) (b : Blk) : BO S fr hp (.upd i b) fr (setB hp i b) (.tup [])
 | grow (fr : List AV) (hp : Heap) (i : Nat) (b : Blk) (hl : S.lo <= i) : BO S fr hp (.grow i b) (mapR.mapRL (at1 i .top) fr) (setB (mapH (at1 i .top) hp) i b) (.row i)
 | frz (fr : List AV) (hp : Heap) (j : Nat) (a : AV) (r : AR) (fr' : List AV) (hp' : Heap) (x : AV) (hl : S.lo <= j)
   (h : BO S (mapR.mapRL (at1 j a) fr) (setB (mapH (at1 j a) hp) j .dead) r fr' hp' x) : BO S fr hp (.frz j a r) fr' hp' x
 | one (fr : List AV) (hp : Heap) (f : FuncId) (args : List AV) (a : AV) (new : Heap) (h : PO S hp (.call f args) a new) : BO S fr hp (.call f args) fr (hp ++ new) a
 | two (fr : List AV) (hp : Heap) (f : FuncId) (args : List AV) (s2 : Summ2) (pre : List Cd) (res : AV) (hp2 : Heap) (h2 : findS S.two f = some s2)
   (hs : s2 args hp = some ⟨pre, res, hp2, none⟩) (hl : hp.length <= hp2.length) (hpre : ∀ p ∈ pre, p.ok) (hnr : noRowsH hp = true) : BO S fr hp (.call f args) fr hp2 res
 | mov (fr : List AV) (hp : Heap) (f : FuncId) (args : List AV) (s2 : Summ2) (pre : List Cd) (res : AV) (hp2 : Heap) (j : Nat) (h2 : findS S.two f = some s2)
   (hs : s2 args hp = some ⟨pre, res, hp2, some j⟩) (hl : hp.length <= hp2.length) (hpre : ∀ p ∈ pre, p.ok) (hnr : noRowsH hp = true) (hj : S.lo <= j) : BO S fr hp (.call f args) (mapR.mapRL (at1 j .top) fr) hp2 res
theorem PO.bo {r : AR} {a : AV} {new : Heap} (h : PO S hp r a new) (fr : List AV) : BO S fr hp r fr (hp ++ new) a := by
 induction h with
 | val a => rw [List.append_nil]; exact .val _ _ _
 | need p r a new h h' ih => exact .need _ _ _ _ _ _ _ h ih
 | brt t e a new h ih => exact .brt _ _ _ _ _ _ _ ih
 | brf t e a new h ih => exact .brf _ _ _ _ _ _ _ ih
 | blk b mk => exact .blk _ _ _ _
 | call f args s1 pre res new h2 h1 hs hg hpre hcn => exact .one _ _ _ _ _ _ (.call f args s1 pre res new h2 h1 hs hg hpre hcn)
theorem mapE_eq (hp : Heap) : ∀ l : List AV, mapE hp l = l.map (expA 5 hp)
 | [] => rfl
 | a :: l => by simp [mapE, mapE_eq hp l]
theorem forceM_eq (anc : List Nat) (fr : List AV) : ∀ (l : List Nat) (k : List (Nat × AV) -> VC), forceM anc fr l k = k (l.map fun t => (t, unGd anc (getL fr t)))
 | [], _ => rfl
 | t :: l, k => by simp [forceM, forceV_eq, forceM_eq anc fr l]
theorem lookT_map (anc : List Nat) (fr : List AV) (t : Nat) : ∀ l : List Nat, lookT (l.map fun t => (t, unGd anc (getL fr t))) t = unGd anc (getL fr t) \/ lookT (l.map fun t => (t, unGd anc (getL fr t))) t = .top
 | [] => .inr rfl
 | u :: l => by
   simp only [List.map_cons, lookT_cons]
   split
   ·rename_i h; rw [Nat.eq_of_beq_eq_true h]; exact .inl rfl
   ·exact lookT_map anc fr t l
theorem evM_map (anc : List Nat) (fr : List AV) (l : List Nat) (x : Operand) : evM (l.map fun t => (t, unGd anc (getL fr t))) x = evU anc fr x \/ evM (l.map fun t => (t, unGd anc (getL fr t))) x = .top := by
 cases x with
 | tmp t => exact lookT_map anc fr t l
 | const v => left; cases v <;> rfl
 | global g => exact .inl rfl
 | func f => exact .inl rfl
theorem needs_sat {R : AV -> Heap -> Prop} : ∀ {l : List Cd} {k : VC}, (needs l k).sat R -> (∀ p ∈ l, p.ok) /\ k.sat R
 | [], k, h => ⟨fun p hp => by simp at hp, h⟩
 | p :: l, k, h => by
   obtain ⟨h1, h2⟩ := needs_sat h.2
   exact ⟨fun q hq => by
    rcases List.mem_cons.1 hq with rfl | hq
    ·exact h.1
    ·exact h1 q hq, h2⟩
theorem vc_sat {R : AV -> Heap -> Prop} {nb : Bool} : ∀ {r : AR} {fr : List AV} {hp : Heap} {K : List AV -> Heap -> AV -> VC}, (r.vc S nb fr hp K).sat R ->
  (∃ a new, PO S hp r a new /\ (K fr (hp ++ new) a).sat R) \/ (nb = true /\ ∃ fr' hp' a, BO S fr hp r fr' hp' a /\ (K fr' hp' a).sat R) := by
 intro r
 induction r with
 | fail => intro fr hp K h; exact h.elim
 | val a =>
   intro fr hp K h
   simp only [AR.vc, forceD_eq] at h
   exact .inl ⟨a, [], .val a, by rwa [List.append_nil]⟩
 | need p r ih =>
   intro fr hp K h
   rcases ih h.2 with ⟨a, new, h1, h2⟩ | ⟨hn, fr', hp', a, h1, h2⟩
   ·exact .inl ⟨a, new, .need _ _ _ _ h.1 h1, h2⟩
   ·exact .inr ⟨hn, fr', hp', a, .need _ _ _ _ _ _ _ h.1 h1, h2⟩
 | br b t e iht ihe =>
   intro fr hp K h
   cases b with
   | true =>
     rcases iht (h.1 rfl) with ⟨a, new, h1, h2⟩ | ⟨hn, fr', hp', a, h1, h2⟩
     ·exact .inl ⟨a, new, .brt _ _ _ _ h1, h2⟩
     ·exact .inr ⟨hn, fr', hp', a, .brt _ _ _ _ _ _ _ h1, h2⟩
   | false =>
     rcases ihe (h.2 rfl) with ⟨a, new, h1, h2⟩ | ⟨hn, fr', hp', a, h1, h2⟩
     ·exact .inl ⟨a, new, .brf _ _ _ _ h1, h2⟩
     ·exact .inr ⟨hn, fr', hp', a, .brf _ _ _ _ _ _ _ h1, h2⟩
 | blk b mk =>
   intro fr hp K h
   simp only [AR.vc, forceH_eq, appH_eq] at h
   exact .inl ⟨_, _, .blk b mk, h⟩
 | upd i b =>
   intro fr hp K h
   cases nb with
   | false => exact h.elim
   | true =>
     simp only [AR.vc, forceH_eq] at h
     exact .inr ⟨rfl, _, _, _, .upd _ _ _ _, h⟩
 | grow i b =>
   intro fr hp K h
   simp only [AR.vc] at h
   split at h
   ·rename_i hh
    simp only [Bool.and_eq_true] at hh
    simp only [forceLD_eq, forceH_eq] at h
    exact .inr ⟨hh.1, _, _, _, .grow _ _ _ _ (Nat.le_of_ble_eq_true hh.2), h⟩
   ·exact h.elim
 | frz j a r ih =>
   intro fr hp K h
   simp only [AR.vc] at h
   split at h
   ·rename_i hh
    simp only [Bool.and_eq_true] at hh
    simp only [forceLD_eq, forceH_eq] at h
    rcases ih h with ⟨x, new, h1, h2⟩ | ⟨hn, fr', hp', x, h1, h2⟩
    ·exact .inr ⟨hh.1, _, _, _, .frz _ _ _ _ _ _ _ _ (Nat.le_of_ble_eq_true hh.2) (h1.bo _), h2⟩
    ·exact .inr ⟨hn, _, _, _, .frz _ _ _ _ _ _ _ _ (Nat.le_of_ble_eq_true hh.2) h1, h2⟩
   ·exact h.elim
 | call f args =>
   intro fr hp K h
   simp only [AR.vc] at h
   split at h
   ·rename_i s2 h2
    split at h
    ·rename_i pre res hp2 mv hnb hs
     simp only [Bool.and_eq_true] at hnb
     split at h
     ·rename_i hl
      cases mv with
      | none =>
        obtain ⟨h3, h4⟩ := needs_sat h
        rw [forceH_eq, forceD_eq] at h4
        exact .inr ⟨hnb.1, _, _, _, .two _ _ _ _ s2 pre res hp2 h2 hs (Nat.le_of_ble_eq_true hl) h3 hnb.2, h4⟩
      | some j =>
        dsimp only at h
        split at h
        ·rename_i hj
         obtain ⟨h3, h4⟩ := needs_sat h
         rw [forceLD_eq, forceH_eq, forceD_eq] at h4
         exact .inr ⟨hnb.1, _, _, _, .mov _ _ _ _ s2 pre res hp2 j h2 hs (Nat.le_of_ble_eq_true hl) h3 hnb.2 (Nat.le_of_ble_eq_true hj), h4⟩
        ·exact h.elim
     ·exact h.elim
    ·exact h.elim
   ·rename_i h2
    split at h
    ·rename_i s1 h1
     rw [forceLD_eq, mapE_eq] at h
     split at h
     ·rename_i pre res new hs
      split at h
      ·rename_i hg
       obtain ⟨h3, h4⟩ := needs_sat h
       obtain ⟨h5, h6⟩ := needs_sat h4
       rw [forceH_eq, forceD_eq, appH_eq] at h6
       exact .inl ⟨_, _, .call f args s1 pre res new h2 h1 hs hg h3 h5, h6⟩
      ·exact h.elim
     ·exact h.elim
    ·exact h.elim
end
end Abs
end Go.Proofs.Ytdfdjlijghjdaaa

namespace Go.Proofs.Ytdfdjlijghjdaaa
namespace Abs
open Go Go.RowKit
section
variable {P : Program} {S : Sums} {C C' : Cx} {w w' : World} {H hp : Heap} {T : List Cnd}
theorem Tr.trans {h : Nat} {C C1 C2 : Cx} {w w1 w2 : World} (a : Tr h C w C1 w1) (b : Tr h C1 w1 C2 w2) : Tr h C w C2 w2 := by
 refine ⟨b.os.trans a.os, b.tape.trans a.tape, b.output.trans a.output, Nat.le_trans a.size b.size, fun k hk hn ho => ?_, fun q hq => b.imm q (a.imm q hq), fun q hq => ?_, fun i hi => (b.rho i hi).trans (a.rho i hi), fun i q c n hi hq => ?_, fun q x hq => ?_⟩
 ·refine (b.keep k (Nat.lt_of_lt_of_le hk a.size) (fun i q c n hq => ?_) ?_).trans (a.keep k hk hn ho)
  ·by_cases hi : i < h
   ·exact hn i q c n (by rw [<- a.rho i hi]; exact hq)
   ·rcases a.own i q c n (by omega) hq with ⟨j, c', n', _, hj⟩ | h1 | ⟨x, h1⟩
    ·exact hn j q c' n' hj
    ·omega
    ·intro e; subst e; rw [ho] at h1; cases h1
  ·cases hc : C1.O k with
   | none => rfl
   | some x =>
     rcases a.sub k x hc with ⟨y, h1⟩ | h1 | ⟨i, c, n, _, h1⟩
     ·rw [ho] at h1; cases h1
     ·omega
     ·exact (hn _ _ _ _ h1 rfl).elim
 ·rcases b.imm' q hq with h1 | (h1 | ⟨x, h1⟩) | ⟨i, c, n, hi, h1⟩
  ·exact a.imm' q h1
  ·exact .inr (.inl (.inl (Nat.le_trans a.size h1)))
  ·rcases a.sub q x h1 with h2 | h2 | h2
   ·exact .inr (.inl (.inr h2))
   ·exact .inr (.inl (.inl h2))
   ·exact .inr (.inr h2)
  ·rcases a.own i q c n hi h1 with ⟨j, c', n', hj, h2⟩ | h2 | h2
   ·exact .inr (.inr ⟨j, c', n', hj, h2⟩)
   ·exact .inr (.inl (.inl h2))
   ·exact .inr (.inl (.inr h2))
 ·rcases b.own i q c n hi hq with ⟨j, c', n', hj, h1⟩ | h1 | ⟨x, h1⟩
  ·exact a.own j q c' n' hj h1
  ·exact .inr (.inl (Nat.le_trans a.size h1))
  ·rcases a.sub q x h1 with h2 | h2 | ⟨j, c', n', hj, h2⟩
   ·exact .inr (.inr h2)
   ·exact .inr (.inl h2)
   ·exact .inl ⟨j, c', n', hj, h2⟩
 ·rcases b.sub q x hq with ⟨y, h1⟩ | h1 | ⟨i, c, n, hi, h1⟩
  ·exact a.sub q y h1
  ·exact .inr (.inl (Nat.le_trans a.size h1))
  ·rcases a.own i q c n hi h1 with ⟨j, c', n', hj, h2⟩ | h2 | h2
   ·exact .inr (.inr ⟨j, c', n', hj, h2⟩)
   ·exact .inr (.inl h2)
   ·exact .inl h2
theorem Tr.refl (h : Nat) (C : Cx) (w : World) : Tr h C w C w :=
 ⟨rfl, rfl, rfl, Nat.le_refl _, fun _ _ _ _ => rfl, fun _ h => h, fun _ h => .inl h, fun _ _ => rfl, fun i _b c n h h' => .inl ⟨i, c, n, h, h'⟩, fun b x h => .inl ⟨x, h⟩⟩
theorem getB_append (l m : Heap) (i : Nat) (h : i < l.length) : getB (l ++ m) i = getB l i := by
 rw [getB_eq, getB_eq, List.getD_eq_getElem?_getD, List.getD_eq_getElem?_getD, List.getElem?_append_left h]
theorem getB_append_r (l m : Heap) (t : Nat) : getB (l ++ m) (l.length + t) = getB m t := by
 rw [getB_eq, getB_eq, List.getD_eq_getElem?_getD, List.getD_eq_getElem?_getD, List.getElem?_append_right (by omega), Nat.add_sub_cancel_left]
theorem HR.lt (h : HR C hp w) {i : Nat} {p : Pl} (hi : C.ρ i = some p) : i < hp.length :=
 getB_lt fun e => by have := h.live i p hi; rw [e] at this; cases p <;> exact this
theorem HR.ext (h : HR C hp w) (new : Heap) : HR C (hp ++ new) w :=
 ⟨fun i p hi => by rw [getB_append _ _ _ (h.lt hi)]; exact h.live i p hi, h.inj, h.fresh, h.ilt, h.sub⟩
theorem HR.free (h : HR C hp w) (new : Heap) : Free C (hp ++ new) hp new := fun t _ =>
 ⟨getB_append_r _ _ _, by
  cases hi : C.ρ (hp.length + t) with
  | none => rfl
  | some p => have := h.lt hi; omega⟩
theorem Grow.frame {base n : Nat} (g : Grow base n C w C' w') (hn : ∀ i, base <= i -> i < base + n -> C.ρ i = none) (hi : ∀ b, C.I b -> b < w.heap.size) {fr : List AV} {tm : Array Value} (h : FR T C w fr tm) : FR T C' w' fr tm :=
 h.mono (g.cext hn hi)
def Post (lo : Nat) (T : List Cnd) (C : Cx) (w : World) (tm : Array Value) (fr : List AV) (hp : Heap) (a : AV) (v : Value) (w' : World) : Prop :=
 ∃ C', HR C' hp w' /\ Rel C' w' a v /\ FR T C' w' fr tm /\ Tr lo C w C' w'
theorem pure_post {new : Heap} {a : AV} {v : Value} {fr : List AV} {tm : Array Value} {lo : Nat} (hH : HR C hp w) (hF : FR T C w fr tm) (hlo : lo <= hp.length)
  (h : ∃ C', HR C' (hp ++ new) w' /\ Rel C' w' a v /\ Grow hp.length new.length C w C' w') : Post lo T C w tm fr (hp ++ new) a v w' := by
 obtain ⟨C', h1, h2, h3⟩ := h
 refine ⟨C', h1, h2, h3.frame (fun i h4 h5 => ?_) hH.ilt hF, h3.tr hlo⟩
 obtain ⟨t, rfl⟩ := Nat.exists_eq_add_of_le h4
 exact (hH.free new t (by omega)).2
def Sees (fr : List AV) (ρ : Operand -> AV) : Prop := ∀ (T : List Cnd) (C : Cx) (w : World) (act : Act), FR T C w fr act.tmps -> ∀ x, Rel C w (ρ x) (act.eval x)
theorem sees_evM (fr : List AV) (l : List Nat) : Sees fr (evM (l.map fun t => (t, unGd [] (getL fr t)))) := fun T C w act hF x => by
 rcases evM_map [] fr l x with h | h
 ·rw [h]; exact ev_rel hF (c := true) rfl (fun k hk => by simp [memN] at hk) x
 ·rw [h]; exact .top _
theorem exec_exact (hS : SumsOK P S) (o : Oper) {ρ : Operand -> AV} {fr : List AV} {act : Act} (hρ : Sees fr ρ) (hH : HR C hp w) (hF : FR T C w fr act.tmps) (hlo : S.lo <= hp.length) {a : AV} {new : Heap}
  (hq : PO S hp (aop P S (ρ) hp o.op) a new) : Ran P o act.eval w (Post S.lo T C w act.tmps fr (hp ++ new) a) :=
 (exec_pure hS o (fun x _ => hρ T C w act hF x) (hH.ext new) (fun _i hi => getB_append _ _ _ hi) hq (hH.free new)).mono
  fun _v _w' h => pure_post hH hF hlo h
def pureAR : AR -> Bool
 | .need _ r => pureAR r
 | .val _ => true
 | .blk _ _ => true
 | .fail => true
 | _ => false
theorem BO.pure {r : AR} {fr fr' : List AV} {hp' : Heap} {a : AV} (h : BO S fr hp r fr' hp' a) (hpu : pureAR r = true) : ∃ new, fr' = fr /\ hp' = hp ++ new /\ PO S hp r a new := by
 induction h with
 | val fr hp a => exact ⟨[], rfl, by simp, .val a⟩
 | need fr hp p r fr' hp' a h h' ih => obtain ⟨new, h1, h2, h3⟩ := ih hpu; exact ⟨new, h1, h2, .need _ _ _ _ h h3⟩
 | blk fr hp b mk => exact ⟨[b], rfl, rfl, .blk b mk⟩
 | _ => simp [pureAR] at hpu
theorem pure_bounds {n : LN} {lo hi : Option AV} {k : Nat -> LN -> AR} (hk : ∀ l m, pureAR (k l m) = true) : pureAR (boundsA n lo hi k) = true := by
 unfold boundsA
 repeat' split
 all_goals first | exact hk _ _ | rfl
theorem store_big (_hS : SumsOK P S) (o : Oper) {t : TypeId} {p x : Operand} (ho : o.op = .store t p x) {ρ : Operand -> AV} {fr fr' : List AV} {act : Act} {hp' : Heap} {a : AV} (hρ : Sees fr ρ) (hH : HR C hp w) (hF : FR T C w fr act.tmps)
  (h : BO S fr hp (storeA P hp t (ρ p) (ρ x)) fr' hp' a) : Ran P o act.eval w (Post S.lo T C w act.tmps fr' hp' a) := by
 have hev := hρ T C w act hF
 have key : (∃ i B, storeA P hp t (ρ p) (ρ x) = .upd i B) \/ (∃ q r, storeA P hp t (ρ p) (ρ x) = .need q r) \/ storeA P hp t (ρ p) (ρ x) = .fail := by
  unfold storeA
  repeat' split
  all_goals first | exact .inr (.inr rfl) | exact .inl ⟨_, _, rfl⟩ | exact .inr (.inl ⟨_, _, rfl⟩)
 rcases key with ⟨i, B, key⟩ | ⟨q, r, key⟩ | key
 ·rw [key] at h
  obtain ⟨w', hrun, h1, h2, h3⟩ := store_upd hH (hev p) (hev x) key S.lo
  cases h
  refine .inr (.inr ⟨w', ?_, C, h1, .tup _ _ .nil, hF.mono h2, h3⟩)
  obtain ⟨dst, op, type, pos, after, guard⟩ := o
  simp only at ho
  subst ho
  simp [execOp, hrun]
 ·rw [key] at h
  cases h with
  | need _ _ _ _ _ _ _ hq h =>
    obtain ⟨i, B, rfl, w', hrun, h1, h2, h3⟩ := store_updN hH (hev p) (hev x) key hq S.lo
    cases h
    refine .inr (.inr ⟨w', ?_, C, h1, .tup _ _ .nil, hF.mono h2, h3⟩)
    obtain ⟨dst, op, type, pos, after, guard⟩ := o
    simp only at ho
    subst ho
    simp [execOp, hrun]
 ·rw [key] at h; cases h
theorem map_big (hS : SumsOK P S) (o : Oper) {t : TypeId} {m k x : Operand} (ho : o.op = .mapUpdate t m k x) {ρ : Operand -> AV} {fr fr' : List AV} {act : Act} {hp' : Heap} {a : AV} (hρ : Sees fr ρ) (hH : HR C hp w) (hF : FR T C w fr act.tmps)
  (h : BO S fr hp (mapUpdateA P S hp t (ρ m) (ρ k) (ρ x)) fr' hp' a) : Ran P o act.eval w (Post S.lo T C w act.tmps fr' hp' a) := by
 have hev := hρ T C w act hF
 have key : (∃ q r, mapUpdateA P S hp t (ρ m) (ρ k) (ρ x) = .need q r) \/ mapUpdateA P S hp t (ρ m) (ρ k) (ρ x) = .fail := by
  unfold mapUpdateA
  repeat' split
  all_goals first | exact .inr rfl | exact .inl ⟨_, _, rfl⟩
 rcases key with ⟨q, r, key⟩ | key
 ·rw [key] at h
  cases h with
  | need _ _ _ _ _ _ _ hq h =>
    obtain ⟨q', i, B, b, cp, n', es, ck, e, rfl, hrest⟩ := run_update hS.eqs hH (hev m) (hev k) (hev x) key hq
    cases h with
    | need _ _ _ _ _ _ _ hq' h =>
      obtain ⟨hrun, hρi, hlt, hh, hB⟩ := hrest hq'
      cases h
      have hbl : b < w.heap.size := (hH.fresh _ _ _ _ hρi).1
      obtain ⟨h1, h2, h3⟩ := hH.upd (w' := { w with heap := w.heap.setIfInBounds b (.map (es.push e) (ck + 1)) }) (B := B) hρi (fun j hj => by simp [Array.getElem?_setIfInBounds_ne (Ne.symm hj)]) (by simp) rfl rfl rfl
       (fun hx => hB C _ (fun l vs ho hr => hr.mono hx) (by simp [Array.getElem?_setIfInBounds_self, hbl])) hlt S.lo
      refine .inr (.inr ⟨_, ?_, C, h1, .tup _ _ .nil, hF.mono h2, h3⟩)
      obtain ⟨dst, op, type, pos, after, guard⟩ := o
      simp only at ho
      subst ho
      simp [execOp, hrun]
 ·rw [key] at h; cases h
theorem run_of_post {o : Oper} {m : Sem Value} {σ : Operand -> Value} (hx : (execOp σ o).run P w = ((m >>= fun v => pure (.value v)) : Sem Next).run P w) {K : Value -> World -> Prop}
  (h : ∃ v w', m.run P w = .ok v w' /\ K v w') : Ran P o σ w K := by
 obtain ⟨v, w', hr, hk⟩ := h
 exact .inl ⟨v, w', by rw [hx]; simp [hr], hk⟩
theorem slice_big (hS : SumsOK P S) (o : Oper) {t : TypeId} {x : Operand} {lo hi mx : Option Operand} (ho : o.op = .slice t x lo hi mx) {ρ : Operand -> AV} {fr fr' : List AV} {act : Act} {hp' : Heap} {a : AV} (hρ : Sees fr ρ) (hH : HR C hp w) (hF : FR T C w fr act.tmps) (hlo : S.lo <= hp.length)
  (h : BO S fr hp (aop P S (ρ) hp o.op) fr' hp' a) : Ran P o act.eval w (Post S.lo T C w act.tmps fr' hp' a) := by
 have hev := hρ T C w act hF
 by_cases hpure : pureAR (aop P S (ρ) hp o.op) = true
 ·obtain ⟨new, rfl, rfl, hpo⟩ := h.pure hpure
  exact exec_exact hS o hρ hH hF hlo hpo
 ·obtain ⟨dst, op, type, pos, after, guard⟩ := o
  simp only at ho
  subst ho
  simp only [aop] at h hpure
  refine run_of_post (m := Instr.sliceAt t (act.eval x) (lo.map act.eval) (hi.map act.eval) (mx.map act.eval)) rfl ?_
  unfold sliceA at h hpure
  split at h
  ·rename_i e hmx hu
   have hmx' : mx = none := by cases mx <;> simp_all
   subst hmx'
   simp only [Option.map_none, hu] at hpure
   split at h
   ·rename_i n sz el hxe
    simp only [hxe] at hpure
    split at h
    ·rename_i h1 h2
     simp only [h1, h2] at hpure
     exact absurd (pure_bounds fun _ _ => rfl) hpure
    ·cases h
   ·rename_i j hxe
    split at h
    ·rename_i e' sz n el hb
     split at h
     ·rename_i hsz hnz
      obtain rfl : sz = sizeT P e := Nat.eq_of_beq_eq_true hsz
      obtain ⟨ie, hie⟩ : ∃ ie, P.info? e = some ie := by
       cases hz : sizeT P e with
       | zero => rw [hz] at hnz; cases hnz
       | succ n => exact sizeT_info hz
      cases h with
      | frz _ _ _ _ _ _ _ _ hl h =>
        obtain ⟨C1, ht, h1, h2⟩ := freeze hH hb hl
        have hF1 : FR T C1 w (mapR.mapRL (at1 j (.slc n (sizeT P e) el)) fr) act.tmps := ht.frame (by trivial) hF
        have hx1 : Rel C1 w (.slc n (sizeT P e) el) (act.eval x) := ht.row _ (by rw [<- hxe]; exact hev x)
        obtain ⟨new, rfl, rfl, hpo⟩ := h.pure (pure_bounds fun _ _ => rfl)
        have key : ∀ y : Option Operand, (y.map (ρ) = none /\ y.map act.eval = none) \/ ∃ b u, y.map (ρ) = some b /\ y.map act.eval = some u /\ Rel C w b u := fun y => by
         cases y with
         | none => exact .inl ⟨rfl, rfl⟩
         | some y => exact .inr ⟨_, _, rfl, rfl, hev y⟩
        have key1 : ∀ y : Option Operand, (∃ k n, y.map (ρ) = some (.li k n)) \/ (∃ k n, y.map (ρ) = some (.si k n)) \/ y.map (ρ) = none ->
          ((y.map (ρ) = none /\ y.map act.eval = none) \/ ∃ b u, y.map (ρ) = some b /\ y.map act.eval = some u /\ Rel C1 w b u) := fun y hy => by
         rcases key y with h | ⟨b, u, h3, h4, h5⟩
         ·exact .inl h
         ·refine .inr ⟨b, u, h3, h4, ?_⟩
          rcases hy with ⟨k, n, hy⟩ | ⟨k, n, hy⟩ | hy
          ·rw [h3] at hy; injection hy with hy; subst hy; cases h5; exact .li _ _
          ·rw [h3] at hy; injection hy with hy; subst hy; cases h5; exact .si _ _
          ·rw [h3] at hy; cases hy
        have lits : ∀ {lo hi : Option AV} {k : Nat -> LN -> AR} {a : AV} {new : Heap}, PO S (setB (mapH (at1 j (.slc n (sizeT P e) el)) hp) j .dead) (boundsA n lo hi k) a new ->
          ((∃ k n, lo = some (.li k n)) \/ (∃ k n, lo = some (.si k n)) \/ lo = none) /\ ((∃ k n, hi = some (.li k n)) \/ (∃ k n, hi = some (.si k n)) \/ hi = none) := by
         intro lo hi k a new hq
         have kint : ∀ {b : AV} {q : IntKind}, kindOf b = some q -> (∃ k n, some b = some (.li k n)) \/ (∃ k n, some b = some (.si k n)) \/ some b = none := fun {b q} h => by
          cases b <;> simp [kindOf] at h <;> simp
         unfold boundsA at hq
         split at hq
         ·exact ⟨.inr (.inr rfl), .inr (.inr rfl)⟩
         ·exact ⟨.inl ⟨_, _, rfl⟩, .inr (.inr rfl)⟩
         ·exact ⟨.inr (.inl ⟨_, _, rfl⟩), .inr (.inr rfl)⟩
         ·exact ⟨.inr (.inr rfl), .inl ⟨_, _, rfl⟩⟩
         ·exact ⟨.inr (.inr rfl), .inr (.inl ⟨_, _, rfl⟩)⟩
         ·split at hq
          ·rename_i h1 h2; exact ⟨kint h1, kint h2⟩
          ·exact hq.fail_inv.elim
         ·exact hq.fail_inv.elim
        obtain ⟨k1, k2⟩ := lits hpo
        obtain ⟨rfl, v, hr, hv⟩ := vd_bounds (P := P) (S := S) hu rfl hie hx1 (key1 lo k1) (key1 hi k2) _ _ hpo
        refine ⟨v, w, hr, C1, by rw [List.append_nil]; exact h1, hv, hF1, h2⟩
     ·cases h
    ·cases h
   ·cases h
  ·cases h
def RowsIn (a b : Heap) : Prop := ∀ i e sz n el, getB a i = .row e sz n el -> getB b i = .row e sz n el
theorem prel_turn {j : Nat} {s : AV} (t : Turn j s C w C' w') : ∀ {ps : List (Nat × AV)} {vs : List (Nat × Value)}, PRel C w ps vs -> PRel C' w' (ps.map fun x => (x.1, mapR (at1 j s) x.2)) vs
 | _, _, .nil => .nil
 | _, _, .cons _ _ _ _ _ h h' => .cons _ _ _ _ _ (t.rel h) (prel_turn t h')
theorem buildSlice_pure (hpb : Heap) {t : TypeId} {n d : Nat} {ps : List (Nat × AV)} (hno : rowIn.rowInL (ps.map (·.2)) = none) :
  pureAR (buildSliceA P hpb t n (d + 1) ps) = true /\ buildSliceA P hpb t n (d + 1) ps = buildSliceA P hp t n (d + 1) ps := by
 unfold buildSliceA
 simp only [hno]
 refine ⟨?_, trivial⟩
 repeat' split
 all_goals rfl
theorem buildSlice_big {t : TypeId} {n : Nat} {parts : Array (Nat × Value)} {tm : Array Value} {fr' : List AV} {hp' : Heap} {a : AV} :
  ∀ (d : Nat) (ps : List (Nat × AV)) (hpb hp : Heap) (fr : List AV) (C : Cx), HR C hp w -> FR T C w fr tm -> PRel C w ps parts.toList -> RowsIn hpb hp -> S.lo <= hp.length ->
    BO S fr hp (buildSliceA P hpb t n d ps) fr' hp' a -> ∃ v w', (Instr.buildSlice t n parts).run P w = .ok v w' /\ Post S.lo T C w tm fr' hp' a v w' := by
 intro d
 induction d with
 | zero => intro ps hpb hp fr C hH hF hps hrows hlo h; cases h
 | succ d ih =>
   intro ps hpb hp fr C hH hF hps hrows hlo h
   cases hrow : rowIn.rowInL (ps.map (·.2)) with
   | none =>
     obtain ⟨h1, h2⟩ := buildSlice_pure (P := P) (hp := hp) hpb (t := t) (n := n) (d := d) hrow
     obtain ⟨new, rfl, rfl, hpo⟩ := h.pure h1
     rw [h2] at hpo
     obtain ⟨v, w', C', hr, h3, h4, h5⟩ := md_buildSlice (P := P) (S := S) (t := t) (n := n) (hp := hp) (hH.ext new) hps d hrow _ _ hpo (hH.free new)
     exact ⟨v, w', hr, pure_post hH hF hlo ⟨C', h3, h4, h5⟩⟩
   | some j =>
     rw [buildSliceA] at h
     simp only [hrow] at h
     split at h
     ·rename_i s hs
      unfold rowSlc at hs
      split at hs
      ·rename_i e sz m el hb
       injection hs with hs; subst hs
       cases h with
       | frz _ _ _ _ _ _ _ _ hl h =>
         obtain ⟨C1, ht, h1, h2⟩ := freeze hH (hrows _ _ _ _ _ hb) hl
         obtain ⟨v, w', hr, C2, h3, h4, h5, h6⟩ := ih _ _ _ _ C1 h1 (ht.frame (by trivial) hF) (prel_turn ht hps) (fun i e' sz' n' el' hi => by
          have hj : j < hpb.length := getB_lt (by rw [hb]; simp)
          rw [getB_set] at hi
          split at hi
          ·cases hi
          ·rename_i hij
           have hne : i ≠ j := fun e => hij ⟨e, hj⟩
           rw [getB_set_ne hne, getB_mapH, hrows _ _ _ _ _ hi]; rfl) (by
            have : ∀ (l : Heap) (i : Nat) (b : Blk), (setB l i b).length = l.length := fun l i b => by rw [setB_eq]; simp
            rw [this, len_mapH]; exact hlo) h
         exact ⟨v, w', hr, C2, h3, h4, h5, h2.trans h6⟩
      ·cases hs
     ·cases h
end
end Abs
end Go.Proofs.Ytdfdjlijghjdaaa

namespace Go.Proofs.Ytdfdjlijghjdaaa
namespace Abs
open Go Go.RowKit
section
variable {P : Program} {S : Sums} {C C' : Cx} {w w' : World} {H hp : Heap} {T : List Cnd}
theorem Since.tr {h lo : Nat} (s : Since h C w C' w') (hl : lo <= h) : Tr lo C w C' w' :=
 ⟨s.os, s.tape, s.output, s.size, fun k hk hn _ => s.keep k hk fun i b c n _ hi => hn i b c n hi, s.imm, fun b hb => (s.imm' b hb).imp id fun h => .inl (.inl h), fun i hi => s.rho i (by omega), fun i b c n hi h' => (by
  by_cases hh : i < h
  ·rw [s.rho i hh] at h'; exact .inl ⟨i, c, n, hi, h'⟩
  ·exact .inr (.inl (s.own i b c n (by omega) h'))), fun b x hb => .inr (.inl (s.sub b x hb))⟩
theorem Since.cext (hH : HR C hp w) (s : Since hp.length C w C' w') : Cext C w C' w' :=
 ⟨fun i p hp' => by rw [s.rho i (hH.lt hp')]; exact hp', s.imm, fun b hb => s.keep b (hH.ilt b hb) fun i q c n _ hi e => (hH.fresh _ _ _ _ hi).2 (e ▸ hb)⟩
theorem SinceJ.tr {j lo : Nat} (s : SinceJ j hp.length C w C' w') (hl : lo <= j) : Tr lo C w C' w' :=
 have hj := s.jlt
 ⟨s.os, s.tape, s.output, s.size, fun k hk hn _ => s.keep k hk hn, s.imm, fun b hb => (by
  rcases s.imm' b hb with h | h | ⟨c, n, h⟩
  ·exact .inl h
  ·exact .inr (.inl (.inl h))
  ·exact .inr (.inr ⟨j, c, n, hl, h⟩)), fun i hi => s.rho i (by omega) (by omega), fun i b c n hi h' => (by
  by_cases hij : i = j \/ hp.length <= i
  ·rcases s.own i b c n hij h' with ⟨c', n', h⟩ | h
   ·exact .inl ⟨j, c', n', hl, h⟩
   ·exact .inr (.inl h)
  ·rw [s.rho i (by omega) (by omega)] at h'
   exact .inl ⟨i, c, n, hi, h'⟩), fun b x hb => (by
  rcases s.sub b x hb with h | ⟨c, n, h⟩
  ·exact .inr (.inl h)
  ·exact .inr (.inr ⟨j, c, n, hl, h⟩))⟩
theorem SinceJ.turn {j : Nat} (hH : HR C hp w) (s : SinceJ j hp.length C w C' w') : Turn j .top C w ⟨fun i => if i = j then C'.ρ j else C.ρ i, C'.I, C'.O⟩ w' /\ Cext ⟨fun i => if i = j then C'.ρ j else C.ρ i, C'.I, C'.O⟩ w' C' w' := by
 refine ⟨⟨fun i hi => by simp [hi], s.imm, fun b hb => s.keep b (hH.ilt b hb) fun i q c n hi e => (hH.fresh _ _ _ _ hi).2 (e ▸ hb), fun v _ => .top v⟩, fun i p hp' => ?_, fun _ h => h, fun _ _ => rfl⟩
 simp only at hp'
 split at hp'
 ·rename_i e; subst e; exact hp'
 ·rename_i e
  rw [s.rho i (hH.lt hp') e]; exact hp'
theorem SinceJ.frame {j : Nat} (hH : HR C hp w) (s : SinceJ j hp.length C w C' w') {fr : List AV} {tm : Array Value} (hF : FR T C w fr tm) : FR T C' w' (mapR.mapRL (at1 j .top) fr) tm :=
 ((s.turn hH).1.frame (by trivial) hF).mono (s.turn hH).2
theorem noRows_get : ∀ {l : Heap} {i : Nat}, noRowsH l = true -> ∀ e e' sz n fz ln el ho, getB l i ≠ .rows e e' sz n fz ln el ho
 | [], i, _, _, _, _, _, _, _, _, _ => by simp [getB]
 | b :: l, 0, h, _, _, _, _, _, _, _, _ => by cases b <;> simp [noRowsH] at h <;> simp [getB]
 | b :: l, i + 1, h, _, _, _, _, _, _, _, _ => by
   have : noRowsH l = true := by cases b <;> simp [noRowsH] at h <;> exact h
   simp only [getB]
   exact noRows_get this _ _ _ _ _ _ _ _
theorem HR.noO (hH : HR C hp w) (hn : noRowsH hp = true) : HR ⟨C.ρ, C.I, fun _ => none⟩ hp w := by
 have hx : Cext C w ⟨C.ρ, C.I, fun _ => none⟩ w := ⟨fun _ _ h => h, fun _ h => h, fun _ _ => rfl⟩
 refine ⟨fun i p hi => ?_, hH.inj, hH.fresh, hH.ilt, fun b x h => by cases h⟩
 have hl := hH.live i p hi
 have hno := noRows_get (i := i) hn
 revert hl hno
 generalize getB hp i = b
 intro hl hno
 match p, b, hl with
 | .at q c m, .cells t l, h =>
   obtain ⟨vs, hr, hh⟩ := h
   exact ⟨vs, hr.mono hx, hh⟩
 | .at q c m, .row e sz k el, h =>
   obtain ⟨h1, h2, h3, cs, vs, hh, hs, hc⟩ := h
   exact ⟨h1, h2, h3, cs, vs, hh, hs, fun k hk => ⟨(hc k hk).1.mono hx, (hc k hk).2⟩⟩
 | .nil, .row e sz k el, h => exact h
 | .at q c m, .mat t wd k f, h =>
   obtain ⟨h1, h2, h3, cs, hh, hs, hc⟩ := h
   exact ⟨h1, h2, h3, cs, hh, hs, fun k hk j hj => by
    obtain ⟨ho, v, hv, hr⟩ := hc k hk j hj
    exact ⟨ho, v, hv, hr.mono hx⟩⟩
 | .at q c m, .tab k sz el, h =>
   obtain ⟨es, ck, vs, hh, hs, hc⟩ := h
   exact ⟨es, ck, vs, hh, hs, fun k hk => ⟨(hc k hk).1.mono hx, (hc k hk).2⟩⟩
 | .at q c m, .rows e e' sz k fz ln el ho, h => exact (hno _ _ _ _ _ _ _ _ rfl).elim
theorem Tr.ofO {lo : Nat} (t : Tr lo ⟨C.ρ, C.I, fun _ => none⟩ w C' w') : Tr lo C w C' w' :=
 ⟨t.os, t.tape, t.output, t.size, fun k hk hn _ => t.keep k hk hn rfl, t.imm, fun b hb => (by
  rcases t.imm' b hb with h | (h | ⟨x, h⟩) | h
  ·exact .inl h
  ·exact .inr (.inl (.inl h))
  ·cases h
  ·exact .inr (.inr h)), t.rho, fun i b c n hi h => (by
  rcases t.own i b c n hi h with h | h | ⟨x, h⟩
  ·exact .inl h
  ·exact .inr (.inl h)
  ·cases h), fun b x h => (by
  rcases t.sub b x h with ⟨y, h⟩ | h | h
  ·cases h
  ·exact .inr (.inl h)
  ·exact .inr (.inr h))⟩
theorem append_big (hS : SumsOK P S) (o : Oper) {c : Call} {s x : Operand} {t : TypeId} (ho : o.op = .call c) (hc : c.callee = .builtin .append) (ha : c.args.toList = [s, x]) (hty : c.argTypes.toList = [t, t]) {ρ : Operand -> AV} {fr fr' : List AV} {act : Act} {hp' : Heap} {a : AV}
  (hρ : Sees fr ρ) (hH : HR C hp w) (hF : FR T C w fr act.tmps) (hlo : S.lo <= hp.length)
  (h : BO S fr hp (appendA P S hp t (ρ s) (ρ x)) fr' hp' a) (hop : aop P S (ρ) hp o.op = appendA P S hp t (ρ s) (ρ x)) : Ran P o act.eval w (Post S.lo T C w act.tmps fr' hp' a) := by
 have hev := hρ T C w act hF
 by_cases hpure : pureAR (appendA P S hp t (ρ s) (ρ x)) = true
 ·obtain ⟨new, rfl, rfl, hpo⟩ := h.pure hpure
  exact exec_exact hS o hρ hH hF hlo (by rw [hop]; exact hpo)
 ·clear hop
  obtain ⟨dst, op, type, pos, after, guard⟩ := o
  obtain ⟨cal, args, tys⟩ := c
  obtain ⟨args⟩ := args
  obtain ⟨tys⟩ := tys
  simp only at ho hc ha hty
  subst ho hc ha hty
  refine run_of_post (m := Builtin.append_ #[t, t] type #[act.eval s, act.eval x]) (by simp [execOp, resolve, invoke, builtin]) ?_
  unfold appendA at h hpure
  split at h
  ·rename_i e hu
   simp only [hu] at hpure
   split at h
   ·rename_i hn
    simp only [hn] at hpure
    exfalso
    revert hpure
    repeat' split
    all_goals (intro hpure; exact hpure rfl)
   ·rename_i hn
    simp only [hn] at hpure
    split at h
    ·cases h
    ·rename_i m sz elx hr
     simp only [hr] at hpure
     split at h
     ·rename_i hsz hnz
      simp only [hsz, hnz] at hpure
      obtain rfl : sz = sizeT P e := Nat.eq_of_beq_eq_true hsz
      have hpos : 0 < sizeT P e := by
       rcases Nat.eq_zero_or_pos (sizeT P e) with h | h
       ·rw [h] at hnz; cases hnz
       ·exact h
      split at h
      ·rename_i hsn
       simp only [hsn] at hpure
       exfalso
       revert hpure
       repeat' split
       all_goals (intro hpure; exact hpure rfl)
      ·rename_i hsn
       split at h
       ·rename_i i hsi
        split at h
        ·rename_i e' sz' n el hb hlo'
         split at h
         ·rename_i hc
          simp only [Bool.and_eq_true, decide_eq_true_eq] at hc
          obtain ⟨⟨rfl, rfl⟩, hz⟩ := hc
          obtain ⟨z, hz⟩ := Option.isSome_iff_exists.1 hz
          cases h with
          | need _ _ _ _ _ _ _ hb' h =>
            cases h with
            | grow _ _ _ _ hl =>
              obtain ⟨u', w', C', hrun, ht, h1, h2, h3⟩ := append_grow (P := P) (ty := type) hH hu (by rw [<- hsi]; exact hev s) hb (hev x) hr rfl hpos hz hb' hl
              exact ⟨u', w', hrun, C', h1, h2, ht.frame (by trivial) hF, h3⟩
         ·cases h
        ·cases h
       ·cases h
     ·cases h
  ·cases h
theorem mapRL_app (f : Nat -> Option AV) : ∀ (l m : List AV), mapR.mapRL f (appL l m) = appL (mapR.mapRL f l) (mapR.mapRL f m)
 | [], _ => rfl
 | a :: l, m => by simp [appL, mapR.mapRL, mapRL_app f l m]
theorem mapRL_ev (f : Nat -> Option AV) (ρ : Operand -> AV) : ∀ l : List Operand, mapR.mapRL f (evL ρ l) = evL (fun x => mapR f (ρ x)) l
 | [] => rfl
 | a :: l => by simp [evL, mapR.mapRL, mapRL_ev f ρ l]
theorem call_ran (hS : SumsOK P S) (o : Oper) {c : Call} {f : Operand} (ho : o.op = .call c) (hc : c.callee = .value f) {act : Act} {fr' : List AV} {hp' : Heap} {a : AV} {g : FuncId} :
  ∀ (d : Nat) (ρ : Operand -> AV) (fr : List AV) (hp : Heap) (C : Cx) (first cap : List AV), (∀ x, Rel C w (ρ x) (act.eval x)) -> HR C hp w -> FR T C w fr act.tmps -> S.lo <= hp.length -> ρ f = .fn (.func g) first cap ->
    BO S fr hp (callA S g d hp (appL first (appL (evL (ρ) c.args.toList) cap))) fr' hp' a -> Ran P o act.eval w (Post S.lo T C w act.tmps fr' hp' a) := by
 intro d
 induction d with
 | zero => intro ρ fr hp C first cap hev hH hF hlo hfe h; rw [callA] at h; cases h
 | succ d ih =>
   intro ρ fr hp C first cap hev hH hF hlo hfe h
   have hop : aop P S (ρ) hp o.op = (match ρ f with | .fn (.func g) first cap => callA S g 20 hp (appL first (appL (evL (ρ) c.args.toList) cap)) | _ => .fail) := by
    rw [ho]; obtain ⟨cal, args, tys⟩ := c; simp only at hc; subst hc; rfl
   rw [callA] at h
   split at h
   ·rename_i hno
    cases h with
    | one _ _ _ _ _ new hpo =>
      refine (exec_pure hS o (fun x _ => hev x) (hH.ext new) (fun _i hi => getB_append _ _ _ hi) (a := a) (new := new) ?_ (hH.free new)).mono fun _v _w' h => pure_post hH hF hlo h
      rw [hop, hfe]
      simp only
      rw [callA, hno]
      exact hpo
    | two _ _ _ _ s2 pre res hp2 h2 hs hl hpre hnr =>
      clear hop ih
      obtain ⟨dst, op, type, pos, after, guard⟩ := o
      obtain ⟨cal, args, tys⟩ := c
      simp only at ho hc
      subst ho hc
      obtain ⟨fn, hfn, hname, hbody⟩ := hS.bodyTwo _ _ h2
      have hfnc := hS.two _ _ h2 _ _ _ _ _ _ hs hpre
      have hfv := hev f
      rw [hfe] at hfv
      generalize hv : act.eval f = u at hfv
      cases hfv with
      | fn _ _ _ vs ws h h' =>
        have hargs := evL_rel (C := C) (w := w) (ρ := ρ) (σ := act.eval) (l := args.toList) fun x _ => hev x
        have hall : RelL C w (appL first (appL (evL (ρ) args.toList) cap)) (vs ++ (args.toList.map act.eval ++ ws)) := by
         rw [appL_eq, appL_eq]; exact h.append (hargs.append h')
        refine .inr (.inl ⟨g, ⟨vs ++ (args.toList.map act.eval ++ ws)⟩, ?_, ?_⟩)
        ·have e1 : (⟨vs⟩ : Array Value) ++ args.map act.eval ++ ⟨ws⟩ = ⟨vs ++ (args.toList.map act.eval ++ ws)⟩ := by
          apply Array.ext'; simp
         have := run_callFunc (P := P) hfn hname hbody ⟨vs ++ (args.toList.map act.eval ++ ws)⟩ w
         simp only [execOp, resolve, Sem.run_bind]
         simp only [hv, Deferred.ofValue, Sem.run_pure, Result.andThen_ok, invoke, e1]
         exact this
        ·have hx0 : Cext C w ⟨C.ρ, C.I, fun _ => none⟩ w := ⟨fun _ _ h => h, fun _ h => h, fun _ _ => rfl⟩
         refine ((show Fn P g _ _ _ _ from hfnc) ⟨C.ρ, C.I, fun _ => none⟩ w _ (fun _ => rfl) (hH.noO hnr) (hall.mono hx0)).mono fun e w' ⟨v, C1, he, h1, hr, hs1⟩ => ⟨v, he, C1, h1, hr, (hF.mono hx0).mono (hs1.cext (hH.noO hnr)), (hs1.tr hlo).ofO⟩
    | mov _ _ _ _ s2 pre res hp2 mj h2 hs hl hpre hnr hmj =>
      clear hop ih
      obtain ⟨dst, op, type, pos, after, guard⟩ := o
      obtain ⟨cal, args, tys⟩ := c
      simp only at ho hc
      subst ho hc
      obtain ⟨fn, hfn, hname, hbody⟩ := hS.bodyTwo _ _ h2
      have hfnc := hS.two _ _ h2 _ _ _ _ _ _ hs hpre
      have hfv := hev f
      rw [hfe] at hfv
      generalize hv : act.eval f = u at hfv
      cases hfv with
      | fn _ _ _ vs ws h h' =>
        have hargs := evL_rel (C := C) (w := w) (ρ := ρ) (σ := act.eval) (l := args.toList) fun x _ => hev x
        have hall : RelL C w (appL first (appL (evL (ρ) args.toList) cap)) (vs ++ (args.toList.map act.eval ++ ws)) := by
         rw [appL_eq, appL_eq]; exact h.append (hargs.append h')
        refine .inr (.inl ⟨g, ⟨vs ++ (args.toList.map act.eval ++ ws)⟩, ?_, ?_⟩)
        ·have e1 : (⟨vs⟩ : Array Value) ++ args.map act.eval ++ ⟨ws⟩ = ⟨vs ++ (args.toList.map act.eval ++ ws)⟩ := by
          apply Array.ext'; simp
         have := run_callFunc (P := P) hfn hname hbody ⟨vs ++ (args.toList.map act.eval ++ ws)⟩ w
         simp only [execOp, resolve, Sem.run_bind]
         simp only [hv, Deferred.ofValue, Sem.run_pure, Result.andThen_ok, invoke, e1]
         exact this
        ·have hx0 : Cext C w ⟨C.ρ, C.I, fun _ => none⟩ w := ⟨fun _ _ h => h, fun _ h => h, fun _ _ => rfl⟩
         refine ((show FnJ P g _ _ _ _ mj from hfnc) ⟨C.ρ, C.I, fun _ => none⟩ w _ (fun _ => rfl) (hH.noO hnr) (hall.mono hx0)).mono fun e w' ⟨v, C1, he, h1, hr, hs1⟩ => ⟨v, he, C1, h1, hr, hs1.frame (hH.noO hnr) (hF.mono hx0), (hs1.tr hmj).ofO⟩
   ·rename_i j s hfz
    have hb : ∃ e sz n el, getB hp j = .row e sz n el /\ s = .slc n sz el := by
     unfold frzCall at hfz
     split at hfz
     ·cases hfz
     ·split at hfz
      ·cases hfz
      ·rename_i s' hs'
       split at hfz
       ·cases hfz
       ·split at hfz
        ·cases hfz
        ·split at hfz
         ·cases hfz
         ·split at hfz
          ·cases hfz
          ·injection hfz with hfz; injection hfz with e1 e2; subst e1 e2
           unfold rowSlc at hs'
           split at hs'
           ·rename_i e sz m el hb
            injection hs' with hs'
            exact ⟨e, sz, m, el, hb, hs'.symm⟩
           ·cases hs'
    obtain ⟨e, sz, n, el, hb, rfl⟩ := hb
    cases h with
    | frz _ _ _ _ _ _ _ _ hl h =>
      obtain ⟨C1, ht, h1, h2⟩ := freeze hH hb hl
      rw [mapRL_app, mapRL_app, mapRL_ev] at h
      refine (ih (fun x => mapR (at1 j (.slc n sz el)) (ρ x)) _ _ C1 _ _ (fun x => ht.rel (hev x)) h1 (ht.frame (by trivial) hF) ?_ (by simp only [hfe, mapR]) h).mono fun v w' ⟨C2, h3, h4, h5, h6⟩ => ⟨C2, h3, h4, h5, h2.trans h6⟩
      have : ∀ (l : Heap) (i : Nat) (b : Blk), (setB l i b).length = l.length := fun l i b => by rw [setB_eq]; simp
      rw [this, len_mapH]; exact hlo
theorem call_big (hS : SumsOK P S) (o : Oper) {c : Call} {f : Operand} (ho : o.op = .call c) (hc : c.callee = .value f) {ρ : Operand -> AV} {fr fr' : List AV} {act : Act} {hp' : Heap} {a : AV}
  (hρ : Sees fr ρ) (hH : HR C hp w) (hF : FR T C w fr act.tmps) (hlo : S.lo <= hp.length) (h : BO S fr hp (aop P S (ρ) hp o.op) fr' hp' a) : Ran P o act.eval w (Post S.lo T C w act.tmps fr' hp' a) := by
 have hev := hρ T C w act hF
 have hop : aop P S (ρ) hp o.op = (match ρ f with | .fn (.func g) first cap => callA S g 20 hp (appL first (appL (evL (ρ) c.args.toList) cap)) | _ => .fail) := by
  rw [ho]; obtain ⟨cal, args, tys⟩ := c; simp only at hc; subst hc; rfl
 rw [hop] at h
 split at h
 ·rename_i g first cap hfe
  exact call_ran hS o ho hc 20 ρ fr hp C first cap hev hH hF hlo hfe h
 ·cases h
theorem exec_big (hS : SumsOK P S) (o : Oper) (ht : turnOp o.op = true) {ρ : Operand -> AV} {fr fr' : List AV} {act : Act} {hp' : Heap} {a : AV}
  (hρ : Sees fr ρ) (hH : HR C hp w) (hF : FR T C w fr act.tmps) (hlo : S.lo <= hp.length) (h : BO S fr hp (aop P S (ρ) hp o.op) fr' hp' a) : Ran P o act.eval w (Post S.lo T C w act.tmps fr' hp' a) := by
 have hev := hρ T C w act hF
 cases hop : o.op with
 | store t p x => rw [hop] at h; exact store_big hS o hop hρ hH hF h
 | slice t x lo hi mx => exact slice_big hS o hop hρ hH hF hlo h
 | mapUpdate t m k x => rw [hop] at h; exact map_big hS o hop hρ hH hF h
 | buildSlice t n parts =>
   rw [hop] at h
   have hp' : PRel C w (partsA (ρ) parts.toList) (parts.map fun (i, x) => (i, act.eval x)).toList := by
    rw [Array.toList_map]
    exact prel_parts _ fun x _ => hev _
   refine run_of_post (m := Instr.buildSlice t n (parts.map fun (i, x) => (i, act.eval x))) ?_ (buildSlice_big 20 _ hp hp fr C hH hF hp' (fun _ _ _ _ _ h => h) hlo h)
   obtain ⟨dst, op, type, pos, after, guard⟩ := o
   simp only at hop
   subst hop
   rfl
 | call c =>
   cases hc : c.callee with
   | value f => exact call_big hS o hop hc hρ hH hF hlo h
   | invoke r m => rw [hop] at ht; simp [turnOp, hc] at ht
   | builtin b =>
     rw [hop] at ht
     cases b <;> simp [turnOp, hc] at ht
     have hop' : aop P S (ρ) hp o.op = (match c.args.toList, c.argTypes.toList with
      | [s, x], [t, t'] => (match Nat.beq t t' with | true => appendA P S hp t (ρ s) (ρ x) | false => .fail)
      | _, _ => .fail) := by
      rw [hop]; obtain ⟨cal, args, tys⟩ := c; simp only at hc; subst hc; rfl
     rw [hop'] at h
     split at h
     ·rename_i s x t t' ha hty
      split at h
      ·rename_i htt
       obtain rfl : t = t' := Nat.eq_of_beq_eq_true htt
       exact append_big hS o hop hc ha hty hρ hH hF hlo h (by rw [hop', ha, hty]; simp only [htt])
      ·cases h
     ·cases h
 | _ => rw [hop] at ht; cases ht
end
end Abs
end Go.Proofs.Ytdfdjlijghjdaaa

namespace Go.Proofs.Ytdfdjlijghjdaaa
namespace Abs
open Go Go.RowKit
def SubT (T T' : List Cnd) : Prop := ∀ (k : Nat) (x : Cnd), T[k]? = some x -> T'[k]? = some x
theorem SubT.refl (T : List Cnd) : SubT T T := fun _ _ h => h
theorem SubT.trans {T T' T'' : List Cnd} (h : SubT T T') (h' : SubT T' T'') : SubT T T'' := fun k x e => h' k x (h k x e)
def Ctx.on : Ctx -> Bool
 | none => true
 | some (_, x) => x.c
def CtxOK (T : List Cnd) (ctx : Ctx) : Prop := match ctx with | none => True | some (k, x) => T[k]? = some x /\ AncOK T x.c x.anc
def PureStep (P : Program) (T : List Cnd) (o : Oper) (ctx : Ctx) (fr : List AV) (hp : Heap) (b : AV) (new : Heap) : Prop :=
 ctx.on = true -> ∀ (T' : List Cnd), SubT T T' -> ∀ (C : Cx) (w : World) (H : Heap) (act : Act), HR C H w -> Pre hp H -> Free C H hp new -> (∀ x ∈ o.op.operands, RelG T' C w (ev fr x) (act.eval x)) ->
  Ran P o act.eval w fun v w' => ∃ C', HR C' H w' /\ Rel C' w' b v /\ Grow hp.length new.length C w C' w'
section
variable {P : Program} {S : Sums} {C C' : Cx} {w w' : World} {H hp : Heap} {T : List Cnd}
theorem AncOK.sub {T T' : List Cnd} (hs : SubT T T') {c : Bool} {anc : List Nat} (h : AncOK T c anc) : AncOK T' c anc := fun k hk => by
 obtain ⟨x, hx, hc⟩ := h k hk
 exact ⟨x, hs k x hx, hc⟩
theorem ctx_anc {ctx : Ctx} (h : CtxOK T ctx) : AncOK T ctx.on ctx.anc := by
 match ctx, h with
 | none, _ => intro k hk; simp [Ctx.anc, memN] at hk
 | some (k, x), h => exact h.2
theorem unGd_rel {a : AV} {v : Value} (h : RelG T C w a v) {c : Bool} (hc : c = true) {anc : List Nat} (ha : AncOK T c anc) : Rel C w (unGd anc a) v := by
 cases a <;> try exact h.1
 case gd k b =>
  simp only [unGd]
  split
  ·rename_i hm
   obtain ⟨y, hy, hy'⟩ := ha k hm
   obtain ⟨x, hx, h1, _⟩ := h.2 k b rfl
   rw [hy] at hx; injection hx with hx; subst hx
   exact h1 (hy' hc)
  ·exact .top _
theorem needsC_sat {R : AV -> Heap -> Prop} {c : Bool} : ∀ {l : List Cd} {k : VC}, (needsC c l k).sat R -> (c = true -> ∀ p ∈ l, p.ok) /\ k.sat R
 | [], k, h => ⟨fun _ p hp => by simp at hp, h⟩
 | p :: l, k, h => by
   obtain ⟨h1, h2⟩ := needsC_sat h.2
   exact ⟨fun hc q hq => by
    rcases List.mem_cons.1 hq with rfl | hq
    ·exact h.1 hc
    ·exact h1 hc q hq, h2⟩
theorem vcC_sat {R : AV -> Heap -> Prop} {k : Nat} {c : Bool} : ∀ {r : AR} {K : Heap -> AV -> VC}, (r.vcC S k c hp K).sat R -> ∃ a new, (c = true -> PO S hp r a new) /\ (K (hp ++ new) (.gd k a)).sat R := by
 intro r
 induction r with
 | val a =>
   intro K h
   simp only [AR.vcC, forceD_eq] at h
   exact ⟨a, [], fun _ => .val a, by rwa [List.append_nil]⟩
 | need p r ih =>
   intro K h
   obtain ⟨a, new, h1, h2⟩ := ih h.2
   exact ⟨a, new, fun hc => .need _ _ _ _ (h.1 hc) (h1 hc), h2⟩
 | br b t e iht ihe =>
   intro K h
   cases b with
   | true => obtain ⟨a, new, h1, h2⟩ := iht (h.1 rfl); exact ⟨a, new, fun hc => .brt _ _ _ _ (h1 hc), h2⟩
   | false => obtain ⟨a, new, h1, h2⟩ := ihe (h.2 rfl); exact ⟨a, new, fun hc => .brf _ _ _ _ (h1 hc), h2⟩
 | blk b mk =>
   intro K h
   simp only [AR.vcC, forceH_eq, appH_eq] at h
   exact ⟨_, _, fun _ => .blk b mk, h⟩
 | call f args =>
   intro K h
   simp only [AR.vcC] at h
   split at h
   ·exact h.elim
   ·rename_i h2
    split at h
    ·rename_i s1 h1
     rw [forceLD_eq, mapE_eq] at h
     split at h
     ·rename_i pre res new hs
      split at h
      ·rename_i hg
       obtain ⟨h3, h4⟩ := needsC_sat h
       obtain ⟨h5, h6⟩ := needsC_sat h4
       rw [forceH_eq, forceD_eq, appH_eq] at h6
       exact ⟨_, _, fun hc => .call f args s1 pre res new h2 h1 hs hg (h3 hc) (h5 hc), h6⟩
      ·exact h.elim
     ·exact h.elim
    ·exact h.elim
 | _ => intro K h; exact h.elim
theorem setF_eq : ∀ (fr : List AV) (d : Nat) (a : AV) (k : List AV -> VC), setF fr d a k = k (setL fr d a)
 | [], _, _, _ => rfl
 | _ :: _, 0, _, _ => rfl
 | x :: l, d + 1, a, k => by rw [setF_succ, setF_eq l]; rfl
theorem setK_eq (fr : List AV) (d : Option Nat) (a : AV) (k : List AV -> VC) : setK fr d a k = k (setO fr d a) := by
 cases d with
 | none => rfl
 | some d => simp only [setK, forceV_eq, setF_eq, setO]
theorem pureStep_aop (hS : SumsOK P S) {o : Oper} {ctx : Ctx} {fr : List AV} {b : AV} {new : Heap} (l : List Nat) (hc : CtxOK T ctx) (hq : ctx.on = true -> PO S hp (aop P S (evM (l.map fun t => (t, unGd ctx.anc (getL fr t)))) hp o.op) b new) : PureStep P T o ctx fr hp b new :=
 fun hon T' hs C w H act hH hpre hf hops => exec_pure hS o (fun x hx => by
  rcases evM_map ctx.anc fr l x with h | h
  ·rw [h]; exact unGd_rel (hops x hx) hon ((ctx_anc hc).sub hs)
  ·rw [h]; exact .top _) hH hpre (hq hon) hf
theorem run_pick {o : Oper} {c a b : Operand} (ho : o.op = .pick c a b) {σ : Operand -> Value} {t : Bool} (hc : σ c = .bool t) : (execOp σ o).run P w = .ok (.value (if t then σ a else σ b)) w := by
 obtain ⟨dst, op, type, pos, after, guard⟩ := o
 simp only at ho
 subst ho
 simp [execOp, hc, asBool]
theorem needO_sat {R : AV -> Heap -> Prop} {ctx : Ctx} {cb w0 : Bool} {g : Option Bool} {k : VC} (h : (needO ctx cb w0 g k).sat R) : (∀ y, g = some y -> ctx.on = true -> cb = w0 -> y = true) /\ k.sat R := by
 unfold needO at h
 split at h
 ·exact ⟨fun y e => by simp at e, h⟩
 ·rename_i y
  split at h
  ·exact ⟨fun y' e _ => by injection e with e; subst e; exact h.1, h.2⟩
  ·rename_i k' q1 q2 c q3
   exact ⟨fun y' e hc => by injection e with e; subst e; exact h.1 hc, h.2⟩
theorem armOf_rel {T' : List Cnd} (hs : SubT T T') {ctx : Ctx} (hc : CtxOK T ctx) (hon : ctx.on = true) {a x : AV} {g : Option Bool} {v : Value} (h : armOf ctx.anc T a = some (x, g)) (hr : RelG T' C w a v) (hg : ∀ y, g = some y -> y = true) : Rel C w x v := by
 unfold armOf at h
 split at h
 ·rename_i k b
  split at h
  ·rename_i hm
   injection h with h; injection h with h1 h2
   subst h1
   obtain ⟨y, hy, hy'⟩ := (ctx_anc hc) k hm
   obtain ⟨x', hx, h3, _⟩ := hr.2 k b rfl
   rw [hs k y hy] at hx; injection hx with hx; subst hx
   exact h3 (hy' hon)
  ·split at h
   ·rename_i j wt c an hT
    injection h with h; injection h with h1 h2
    subst h1
    obtain ⟨x', hx, h3, _⟩ := hr.2 k b rfl
    rw [hs k _ hT] at hx; injection hx with hx; subst hx
    exact h3 (hg c h2.symm)
   ·cases h
 ·injection h with h; injection h with h1 h2
  subst h1
  exact hr.1
theorem bite_eq (c a b : Bool) : bite c a b = if c then a else b := by unfold bite; cases c <;> rfl
theorem bor_eq (a b : Bool) : bor a b = (a || b) := by unfold bor; rfl
theorem band_eq (a b : Bool) : band a b = (a && b) := by unfold band; rfl
theorem bnot_eq (a : Bool) : bnot a = !a := by unfold bnot; rfl
theorem pick_sat {R : AV -> Heap -> Prop} {o : Oper} {c a b : Operand} (ho : o.op = .pick c a b) {ctx : Ctx} {fr : List AV} (hctx : CtxOK T ctx) {k : AV -> VC} (h : (pickK ctx T (ev fr c) (ev fr a) (ev fr b) k).sat R) :
  ∃ x, PureStep P T o ctx fr hp x [] /\ (k (wrapA ctx x)).sat R := by
 have hopc : c ∈ o.op.operands := by rw [ho]; simp [Op.operands]
 have hopa : a ∈ o.op.operands := by rw [ho]; simp [Op.operands]
 have hopb : b ∈ o.op.operands := by rw [ho]; simp [Op.operands]
 unfold pickK at h
 split at h
 ·rename_i hc
  refine ⟨unGd ctx.anc (ev fr a), fun hon T' hs C w H act hH hpre hf hops => ?_, ?_⟩
  ·have h1 := unGd_rel (hops c hopc) hon ((ctx_anc hctx).sub hs)
   rw [hc] at h1
   have hv : act.eval c = .bool true := by generalize act.eval c = u at h1; cases h1; rfl
   refine .inl ⟨_, w, run_pick ho hv, C, hH, ?_, .refl _ _ _⟩
   exact unGd_rel (hops a hopa) hon ((ctx_anc hctx).sub hs)
  ·split at h
   ·exact h.elim
   ·rwa [forceD_eq] at h
 ·rename_i hc
  refine ⟨unGd ctx.anc (ev fr b), fun hon T' hs C w H act hH hpre hf hops => ?_, ?_⟩
  ·have h1 := unGd_rel (hops c hopc) hon ((ctx_anc hctx).sub hs)
   rw [hc] at h1
   have hv : act.eval c = .bool false := by generalize act.eval c = u at h1; cases h1; rfl
   refine .inl ⟨_, w, run_pick ho hv, C, hH, ?_, .refl _ _ _⟩
   exact unGd_rel (hops b hopb) hon ((ctx_anc hctx).sub hs)
  ·split at h
   ·exact h.elim
   ·rwa [forceD_eq] at h
 ·rename_i cb hc
  split at h
  ·rename_i xa ga xb gb ha hb
   obtain ⟨h1, h2⟩ := needO_sat h
   obtain ⟨h3, h4⟩ := needO_sat h2
   have key : ∀ (p q r : Bool), (xa = .lb p \/ xa = .sb p) -> (xb = .lb q \/ xb = .sb q) -> r = (if cb then p else q) -> (k (wrapA ctx (.sb r))).sat R -> ∃ x, PureStep P T o ctx fr hp x [] /\ (k (wrapA ctx x)).sat R := by
    intro p q r hp hq hr hk
    refine ⟨.sb r, fun hon T' hs C w H act hH hpre hf hops => ?_, hk⟩
    have h5 := unGd_rel (hops c hopc) hon ((ctx_anc hctx).sub hs)
    rw [hc] at h5
    have hv : act.eval c = .bool cb := by generalize act.eval c = u at h5; cases h5; rfl
    refine .inl ⟨_, w, run_pick ho hv, C, hH, ?_, .refl _ _ _⟩
    subst hr
    cases cb with
    | true =>
      have h6 := armOf_rel hs hctx hon ha (hops a hopa) (fun y hy => h1 y hy hon rfl)
      rcases hp with rfl | rfl
      ·generalize act.eval a = u at h6; cases h6; exact .sb _
      ·generalize act.eval a = u at h6; cases h6; exact .sb _
    | false =>
      have h6 := armOf_rel hs hctx hon hb (hops b hopb) (fun y hy => h3 y hy hon rfl)
      rcases hq with rfl | rfl
      ·generalize act.eval b = u at h6; cases h6; exact .sb _
      ·generalize act.eval b = u at h6; cases h6; exact .sb _
   split at h4
   ·exact key _ _ _ (.inl rfl) (.inr rfl) (by rw [bor_eq]; cases cb <;> simp) h4
   ·exact key _ _ _ (.inr rfl) (.inl rfl) (by rw [band_eq]; cases cb <;> simp) h4
   ·exact key _ _ _ (.inr rfl) (.inr rfl) (bite_eq _ _ _) h4
   ·exact key _ _ _ (.inr rfl) (.inl rfl) (bite_eq _ _ _) h4
   ·exact key _ _ _ (.inl rfl) (.inr rfl) (bite_eq _ _ _) h4
   ·exact key _ _ _ (.inl rfl) (.inl rfl) (bite_eq _ _ _) h4
   ·exact h4.elim
  ·exact h.elim
 ·exact h.elim
theorem runOp_sat (hS : SumsOK P S) {R : AV -> Heap -> Prop} {nb : Bool} {o : Oper} {ctx : Ctx} {fr : List AV} (hctx : CtxOK T ctx) {K : List AV -> Heap -> VC} (h : (runOp P S nb ctx T o fr hp K).sat R) :
  (∃ b new, PureStep P T o ctx fr hp b new /\ (K (setO fr o.dst (wrapA ctx b)) (hp ++ new)).sat R) \/
  (nb = true /\ ctx = none /\ turnOp o.op = true /\ ∃ ρ, Sees fr ρ /\ ∃ fr' hp' a, BO S fr hp (aop P S ρ hp o.op) fr' hp' a /\ (K (setO fr' o.dst (noGd a)) hp').sat R) := by
 unfold runOp at h
 split at h
 ·rename_i c a b ho
  rw [forceV_eq, forceV_eq, forceV_eq] at h
  obtain ⟨x, h1, h2⟩ := pick_sat (P := P) (hp := hp) ho hctx h
  rw [setK_eq] at h2
  exact .inl ⟨x, [], h1, by rwa [List.append_nil]⟩
 ·split at h
  ·rw [forceM_eq] at h
   rcases vc_sat h with ⟨a, new, h1, h2⟩ | ⟨hn, fr', hp', a, h1, h2⟩
   ·rw [setK_eq] at h2
    exact .inl ⟨a, new, pureStep_aop hS _ hctx fun _ => h1, h2⟩
   ·rw [setK_eq] at h2
    simp only [Bool.and_eq_true] at hn
    exact .inr ⟨hn.2, rfl, hn.1, _, sees_evM fr _, fr', hp', a, h1, h2⟩
  ·rename_i k q1 q2 c anc
   rw [forceM_eq] at h
   obtain ⟨a, new, h1, h2⟩ := vcC_sat h
   rw [setK_eq] at h2
   exact .inl ⟨a, new, pureStep_aop hS _ hctx h1, h2⟩
end
end Abs
end Go.Proofs.Ytdfdjlijghjdaaa

namespace Go.Proofs.Ytdfdjlijghjdaaa
namespace Abs
open Go Go.RowKit
theorem allLt_spec {f : Nat -> Bool} : ∀ {n : Nat}, allLt f n = true -> ∀ i, i < n -> f i = true
 | 0, _, i, hi => by omega
 | n + 1, h, i, hi => by
   simp only [allLt] at h
   split at h
   ·rename_i hf
    rcases Nat.lt_or_ge i n with hlt | hge
    ·exact allLt_spec h i hlt
    ·obtain rfl : i = n := by omega
     exact hf
   ·cases h
theorem uniq_spec {all : List Oper} (h : uniqOK all = true) {j : Nat} {o : Oper} (hj : all[j]? = some o) :
  (∀ d, o.dst = some d -> ∀ i o', i ≠ j -> all[i]? = some o' -> o'.dst ≠ some d) /\ (∀ g w, o.guard = some (g, w) -> g < j) := by
 have hlt : j < all.length := (List.getElem?_eq_some_iff.1 hj).1
 have h1 := allLt_spec h j hlt
 simp only [hj, Bool.and_eq_true] at h1
 refine ⟨fun d hd i o' hne hi he => ?_, fun g w hg => ?_⟩
 ·have h2 := h1.1
  simp only [hd] at h2
  have h3 := allLt_spec h2 i (List.getElem?_eq_some_iff.1 hi).1
  simp only [hi] at h3
  have : Nat.beq i j = false := by
   rcases hb : Nat.beq i j with _ | _
   ·rfl
   ·exact absurd (Nat.eq_of_beq_eq_true hb) hne
  simp [he, this] at h3
 ·have h2 := h1.2
  simp only [hg] at h2
  have := Nat.le_of_ble_eq_true (show Nat.ble (g + 1) j = true from h2)
  omega
def gW (T : List Cnd) (want : Bool) : AV -> Option Bool
 | .tup [] => some false
 | .lb b => some (b == want)
 | .sb b => some (b == want)
 | .gd p (.lb b) => (match T[p]? with | some x => some (x.c && (b == want)) | none => none)
 | .gd p (.sb b) => (match T[p]? with | some x => some (x.c && (b == want)) | none => none)
 | _ => none
def yv (v : Value) : Option Bool := match v with | .bool b => some b | _ => none
def Wants (all : List Oper) (T : List Cnd) (fr : List AV) (o : Oper) (r : Bool) : Prop :=
 match o.guard with
 | none => r = true
 | some (j, want) => ∃ d, dstOf all j = some d /\ gW T want (getL fr d) = some r
theorem gW_sub {T T' : List Cnd} (hs : SubT T T') {want r : Bool} {a : AV} (h : gW T want a = some r) : gW T' want a = some r := by
 unfold gW at h ⊢
 split at h
 ·exact h
 ·exact h
 ·exact h
 ·split at h
  ·rename_i hx; rw [hs _ _ hx]; exact h
  ·cases h
 ·split at h
  ·rename_i hx; rw [hs _ _ hx]; exact h
  ·cases h
 ·cases h
theorem gW_rel {T : List Cnd} {C : Cx} {w : World} {want r : Bool} {a : AV} {v : Value} (h : gW T want a = some r) (hr : RelG T C w a v) : (yv v == some want) = r := by
 unfold gW at h
 split at h
 ·injection h with h; subst h
  have := hr.1
  cases this with | tup _ vs h => rfl
 ·injection h with h; subst h
  have := hr.1
  cases this; simp [yv]
 ·injection h with h; subst h
  have := hr.1
  cases this; simp [yv]
 ·rename_i p b
  obtain ⟨x, hx, h1, h2⟩ := hr.2 p _ rfl
  simp only [hx] at h
  injection h with h; subst h
  cases hc : x.c with
  | true => have := h1 hc; cases this; simp [yv]
  | false => rw [h2 hc]; simp [yv, undef]
 ·rename_i p b
  obtain ⟨x, hx, h1, h2⟩ := hr.2 p _ rfl
  simp only [hx] at h
  injection h with h; subst h
  cases hc : x.c with
  | true => have := h1 hc; cases this; simp [yv]
  | false => rw [h2 hc]; simp [yv, undef]
 ·cases h
theorem dstOf_some {all : List Oper} {j d : Nat} (h : dstOf all j = some d) : ∃ o, all[j]? = some o /\ o.dst = some d := by
 unfold dstOf at h
 split at h
 ·rename_i o ho; exact ⟨o, ho, h⟩
 ·cases h
theorem yielded_eq {all : List Oper} {j d : Nat} (h : dstOf all j = some d) (tm : Array Value) : yielded all.toArray tm j = yv (tm.getD d undef) := by
 obtain ⟨o, ho, hd⟩ := dstOf_some h
 unfold yielded
 simp only [List.getElem?_toArray, ho, Option.bind_some, hd]
 cases hv : tm[d]? with
 | none => simp [Array.getD_eq_getD_getElem?, hv, yv, undef]
 | some v =>
   simp only [Array.getD_eq_getD_getElem?, hv, Option.getD_some, yv]
   cases v <;> rfl
def gdst (all : List Oper) (o : Oper) (d : Nat) : Prop := ∃ j want, o.guard = some (j, want) /\ dstOf all j = some d
theorem wanted_eq {all : List Oper} {T : List Cnd} {C : Cx} {w : World} {fr : List AV} {o : Oper} {r : Bool} {tm : Array Value} (h : Wants all T fr o r)
  (hr : ∀ d, gdst all o d -> RelG T C w (getL fr d) (tm.getD d undef)) : Region.wanted o (yielded all.toArray tm) = r := by
 unfold Wants at h
 unfold Region.wanted
 split at h
 ·rename_i hg; rw [hg]; exact h.symm
 ·rename_i j want hg
  obtain ⟨d, h1, h2⟩ := h
  rw [hg]
  simp only [yielded_eq h1]
  exact gW_rel h2 (hr d ⟨j, want, hg, h1⟩)
def TOK (all : List Oper) (T : List Cnd) (n : Nat) (fr : List AV) : Prop :=
 ∀ (k : Nat) (x : Cnd), T[k]? = some x -> x.j < n /\ (∃ d, dstOf all x.j = some d /\ gW T x.want (getL fr d) = some x.c) /\ AncOK T x.c x.anc
structure Info where
 ctx : Ctx
 sk : Bool
 b : AV
 new : Heap
def Info.val (i : Info) : AV := match i.sk with | true => .tup [] | false => wrapA i.ctx i.b
structure StepOK (P : Program) (all : List Oper) (T T1 : List Cnd) (o : Oper) (fr : List AV) (hp : Heap) (i : Info) : Prop where
 sub : SubT T T1
 wants : Wants all T1 fr o (!i.sk && i.ctx.on)
 step : i.sk = false -> PureStep P T1 o i.ctx fr hp i.b i.new /\ CtxOK T1 i.ctx
 skip : i.sk = true -> i.new = []
section
variable {P : Program} {S : Sums} {C C' : Cx} {w w' : World} {H hp : Heap} {T T1 T' : List Cnd} {all : List Oper}
theorem Grow.stay {base n : Nat} (hn : ∀ i, base <= i -> i < base + n -> C.ρ i = none) : Grow base n C w C w :=
 ⟨rfl, rfl, rfl, Nat.le_refl _, fun _ _ => rfl, fun _ h => h, fun _ h => .inl h, fun _ _ => rfl, fun i b c m h1 h2 h => (by rw [hn i h1 h2] at h; cases h), fun _ => rfl⟩
theorem Free.none {new : Heap} (hf : Free C H hp new) : ∀ i, hp.length <= i -> i < hp.length + new.length -> C.ρ i = none := fun i h1 h2 => by
 obtain ⟨t, rfl⟩ := Nat.exists_eq_add_of_le h1
 exact (hf t (by omega)).2
theorem run_info {o : Oper} {fr : List AV} {i : Info} (hst : StepOK P all T T1 o fr hp i) (hs : SubT T1 T') {act : Act} (hH : HR C H w) (hpre : Pre hp H) (hf : Free C H hp i.new)
  (hops : ∀ x ∈ o.op.operands, RelG T' C w (ev fr x) (act.eval x)) (hg : ∀ d, gdst all o d -> RelG T' C w (getL fr d) (act.tmps.getD d undef)) :
  let Q := fun v w' => ∃ C', HR C' H w' /\ RelG T' C' w' i.val v /\ Grow hp.length i.new.length C w C' w'
  (Region.wanted o (yielded all.toArray act.tmps) = true /\ Ran P o act.eval w Q) \/ (Region.wanted o (yielded all.toArray act.tmps) = false /\ Q undef w) := by
 intro Q
 have hw := hst.wants
 have hwant : Region.wanted o (yielded all.toArray act.tmps) = (!i.sk && i.ctx.on) := wanted_eq (T := T') (C := C) (w := w) (fr := fr) (by
  unfold Wants at hw ⊢
  split
  ·rename_i hg; rw [hg] at hw; exact hw
  ·rename_i j want hg
   rw [hg] at hw
   obtain ⟨d, h1, h2⟩ := hw
   exact ⟨d, h1, gW_sub hs h2⟩) hg
 cases hsk : i.sk with
 | true =>
   rw [hsk] at hwant
   refine .inr ⟨hwant, C, hH, ?_, .stay hf.none⟩
   simp only [Info.val, hsk]
   exact .plain (.tup _ _ .nil) trivial
 | false =>
   rw [hsk] at hwant
   obtain ⟨h1, h2⟩ := hst.step hsk
   cases hon : i.ctx.on with
   | true =>
     rw [hon] at hwant
     refine .inl ⟨hwant, (h1 hon T' hs C w H act hH hpre hf hops).mono fun v w' ⟨C', h3, h4, h5⟩ => ⟨C', h3, ?_, h5⟩⟩
     simp only [Info.val, hsk]
     match hc : i.ctx with
     | none => exact .plain (rel_noGd h4) (notGd_noGd _)
     | some (k, x) =>
       rw [hc] at h2 hon
       exact ⟨.gd _ _ _, fun k' b' e => by
        injection e with e1 e2; subst e1 e2
        exact ⟨x, hs _ _ h2.1, fun _ => h4, fun h => by rw [show x.c = true from hon] at h; cases h⟩⟩
   | false =>
     rw [hon] at hwant
     refine .inr ⟨hwant, C, hH, ?_, .stay hf.none⟩
     simp only [Info.val, hsk]
     match hc : i.ctx with
     | none => rw [hc] at hon; cases hon
     | some (k, x) =>
       rw [hc] at h2 hon
       exact ⟨.gd _ _ _, fun k' b' e => by
        injection e with e1 e2; subst e1 e2
        exact ⟨x, hs _ _ h2.1, ⟨(fun h => by rw [show x.c = false from hon] at h; cases h), fun _ => rfl⟩⟩⟩
theorem addC_eq (T : List Cnd) (x : Cnd) : addC T x = T ++ [x] := by
 induction T with
 | nil => rfl
 | cons y l ih => simp [addC, ih]
theorem lenK_eq : ∀ (T : List Cnd) (k : Nat -> VC), lenK T k = k T.length
 | [], _ => rfl
 | y :: l, k => by simp [lenK, lenK_eq l]
theorem forceT_eq : ∀ (T : List Cnd) (k : List Cnd -> VC), forceT T k = k T
 | [], _ => rfl
 | ⟨_, _, _, _⟩ :: l, k => by simp [forceT, forceT_eq l]
theorem SubT.add (T : List Cnd) (x : Cnd) : SubT T (T ++ [x]) := fun k y h => by
 rw [List.getElem?_append_left (List.getElem?_eq_some_iff.1 h).1]; exact h
theorem findC_spec {j : Nat} {want : Bool} : ∀ {T : List Cnd} {n : Nat} {kx : Nat × Cnd}, findC j want T n = some kx -> n <= kx.1 /\ T[kx.1 - n]? = some kx.2 /\ kx.2.j = j /\ kx.2.want = want
 | [], _, _, h => by cases h
 | x :: l, n, kx, h => by
   simp only [findC] at h
   split at h
   ·rename_i h1 h2
    injection h with h; subst h
    exact ⟨Nat.le_refl _, by simp, Nat.eq_of_beq_eq_true h1, by simpa using h2⟩
   ·obtain ⟨h1, h2, h3⟩ := findC_spec h
    refine ⟨by omega, ?_, h3⟩
    rw [show kx.1 - n = (kx.1 - (n + 1)) + 1 by omega, List.getElem?_cons_succ]
    exact h2
theorem boolW_eq (want b : Bool) (k : Bool -> VC) : boolW want b k = k (b == want) := by
 cases want <;> simp [boolW, bnot_eq]
theorem TOK.set {n : Nat} {fr : List AV} (h : TOK all T n fr) (hu : uniqOK all = true) {o : Oper} (ho : all[n]? = some o) (a : AV) : TOK all T (n + 1) (setO fr o.dst a) := fun k x hx => by
 obtain ⟨h1, ⟨d, h2, h3⟩, h4⟩ := h k x hx
 refine ⟨by omega, ⟨d, h2, ?_⟩, h4⟩
 cases hd : o.dst with
 | none => exact h3
 | some d' =>
   obtain ⟨o', ho', hd'⟩ := dstOf_some h2
   simp only [setO]
   rw [getL_set, if_neg]
   ·exact h3
   ·rintro ⟨rfl, _⟩
    exact (uniq_spec hu ho).1 d hd x.j o' (by omega) ho' hd'
theorem TOK.add {n : Nat} {fr : List AV} (h : TOK all T n fr) {x : Cnd} (hx : x.j < n /\ (∃ d, dstOf all x.j = some d /\ gW (T ++ [x]) x.want (getL fr d) = some x.c) /\ AncOK (T ++ [x]) x.c x.anc) : TOK all (T ++ [x]) n fr := fun k y hy => by
 rcases Nat.lt_or_ge k T.length with hlt | hge
 ·rw [List.getElem?_append_left hlt] at hy
  obtain ⟨h1, ⟨d, h2, h3⟩, h4⟩ := h k y hy
  exact ⟨h1, ⟨d, h2, gW_sub (.add T x) h3⟩, h4.sub (.add T x)⟩
 ·rw [List.getElem?_append_right hge] at hy
  have : k - T.length = 0 := by
   rcases Nat.eq_zero_or_pos (k - T.length) with h | h
   ·exact h
   ·rw [List.getElem?_eq_none (by simp; omega)] at hy; cases hy
  rw [this] at hy
  simp at hy; subst hy; exact hx
theorem BO.gW {r : AR} {fr fr' : List AV} {hp' : Heap} {a : AV} (h : BO S fr hp r fr' hp' a) {t : Nat} {want b : Bool} (hb : gW T want (getL fr t) = some b) : gW T want (getL fr' t) = some b := by
 have key : ∀ (f : Nat -> Option AV) (x : AV), Abs.gW T want x = some b -> Abs.gW T want (mapR f x) = some b := fun f x hx => by
  unfold Abs.gW at hx
  split at hx
  ·exact hx
  ·exact hx
  ·exact hx
  ·exact hx
  ·exact hx
  ·cases hx
 induction h with
 | grow fr hp i b hl => rw [getL_mapRL]; exact key _ _ hb
 | mov fr hp f args s2 pre res hp2 j h2 hs hl hpre hnr hj => rw [getL_mapRL]; exact key _ _ hb
 | frz fr hp j a r fr' hp' x hl h ih => exact ih (by rw [getL_mapRL]; exact key _ _ hb)
 | need fr hp p r fr' hp' a h h' ih => exact ih hb
 | brt fr hp t e fr' hp' a h ih => exact ih hb
 | brf fr hp t e fr' hp' a h ih => exact ih hb
 | _ => exact hb
theorem TOK.bo {r : AR} {n : Nat} {fr fr' : List AV} {hp' : Heap} {a : AV} (ht : TOK all T n fr) (h : BO S fr hp r fr' hp' a) : TOK all T n fr' := fun k x hx => by
 obtain ⟨h1, ⟨d, h2, h3⟩, h4⟩ := ht k x hx
 exact ⟨h1, ⟨d, h2, h.gW h3⟩, h4⟩
theorem growOf_po {r : AR} {i : Nat} (h : growOf r = some i) {a : AV} {new : Heap} (hq : PO S hp r a new) : False := by
 induction hq with
 | need p r a new h1 h2 ih => exact ih h
 | _ => simp [growOf] at h
theorem growOf_bo {r : AR} {i : Nat} (h : growOf r = some i) {fr fr' : List AV} {hp' : Heap} {a : AV} (hq : BO S fr hp r fr' hp' a) : S.lo <= i /\ a = .row i /\ fr' = mapR.mapRL (at1 i .top) fr /\ ∃ b, hp' = setB (mapH (at1 i .top) hp) i b := by
 induction hq with
 | need fr hp p r fr' hp' a h1 h2 ih => exact ih h
 | grow fr hp j b hl =>
   simp only [growOf] at h
   injection h with h; subst h
   exact ⟨hl, rfl, rfl, b, rfl⟩
 | _ => simp [growOf] at h
theorem lateI_app {o : Oper} {fr : List AV} (h : lateI o fr = true) : ∃ c, o.op = .call c /\ c.callee = .builtin .append := by
 unfold lateI at h
 split at h
 ·rename_i c hc
  split at h
  ·rename_i h1 _; exact ⟨c, hc, h1⟩
  ·cases h
 ·cases h
def BarX (P : Program) (all : List Oper) (dr : Bool) (n : Nat) (T : List Cnd) (fr : List AV) : Prop := barAt dr all n = true \/ (dr = true /\ T = [] /\ barU P all n (getL fr) = true)
theorem barX_spec {P : Program} {S : Sums} {dr : Bool} {n : Nat} {T : List Cnd} {o : Oper} {fr : List AV} (h : barX P S dr all n T o (getL fr) = true) : BarX P all dr n T fr := by
 unfold barX at h
 split at h
 ·rename_i hb; exact .inl hb
 ·split at h
  ·exact .inr ⟨rfl, rfl, h⟩
  ·cases h
theorem splK_no {sp : Bool} {d : Option Nat} {fr : List AV} {k : List AV -> VC} (h : sp = false) : splK sp d fr k = k fr := by subst h; rfl
theorem splK_sat {R : AV -> Heap -> Prop} {sp : Bool} {d : Option Nat} {fr : List AV} {k : List AV -> VC} (h : (splK sp d fr k).sat R) : (k fr).sat R \/ ∃ e c, d = some e /\ getL fr e = .sb c /\ (k (setL fr e (.lb c))).sat R := by
 unfold splK at h
 split at h
 ·exact .inl h
 ·split at h
  ·exact .inl h
  ·rename_i e
   split at h
   ·rename_i c hv
    refine .inr ⟨e, c, rfl, hv, ?_⟩
    cases hc : c with
    | true => have := h.1 hc; rwa [setF_eq] at this
    | false => have := h.2 hc; rwa [setF_eq] at this
   ·exact .inl h
theorem PureStep.lit {P : Program} {T : List Cnd} {o : Oper} {ctx : Ctx} {fr : List AV} {hp : Heap} {c : Bool} {new : Heap} (h : PureStep P T o ctx fr hp (.sb c) new) : PureStep P T o ctx fr hp (.lb c) new :=
 fun h1 T' h2 C w H act h3 h4 h5 h6 => (h h1 T' h2 C w H act h3 h4 h5 h6).mono fun v w' ⟨C', g1, g2, g3⟩ => ⟨C', g1, by cases g2; exact .lb _, g3⟩
theorem setL_setL (l : List AV) (n : Nat) (a b : AV) : setL (setL l n a) n b = setL l n b := by rw [setL_eq, setL_eq, setL_eq, List.set_set]
theorem getL_big' {l : List AV} {n : Nat} (h : l.length <= n) : getL l n = .tup [] := by
 rw [getL_eq, List.getD_eq_getElem?_getD, List.getElem?_eq_none h]; rfl
theorem runOps_step (hS : SumsOK P S) {R : AV -> Heap -> Prop} {dr : Bool} {n : Nat} {o : Oper} {rest : List Oper} {fr : List AV} {K : List AV -> Heap -> VC} (hu : uniqOK all = true) (ho : all[n]? = some o) (ht : TOK all T n fr)
  (h : (runOps P S dr all none n (o :: rest) T fr hp K).sat R) :
  (∃ i T1, StepOK P all T T1 o fr hp i /\ TOK all T1 (n + 1) (setO fr o.dst i.val) /\ (runOps P S dr all none (n + 1) rest T1 (setO fr o.dst i.val) (hp ++ i.new) K).sat R) \/
  (BarX P all dr n T fr /\ turnOp o.op = true /\ Wants all T fr o true /\ ∃ ρ, Sees fr ρ /\ ∃ fr' hp' a, BO S fr hp (aop P S ρ hp o.op) fr' hp' a /\ TOK all T (n + 1) (setO fr' o.dst (noGd a)) /\
   (runOps P S dr all none (n + 1) rest T (setO fr' o.dst (noGd a)) hp' K).sat R) \/
  (dr = true /\ T = [] /\ o.guard = none /\ befAt all n = true /\ n + 1 < lateN all n /\ (∃ c, o.op = .call c /\ c.callee = .builtin .append) /\ ∃ ρ, ρ = evM ((tmpsO (opnds o.op)).map fun t => (t, unGd [] (getL fr t))) /\ ∃ i, growOf (aop P S ρ hp o.op) = some i /\ ∃ fr' hp' a, BO S fr hp (aop P S ρ hp o.op) fr' hp' a /\
   (runOps P S dr all (some (i, lateN all n)) (n + 1) rest [] (setO fr' o.dst (noGd a)) hp' K).sat R) := by
 have key : ∀ (ctx : Ctx) (T1 : List Cnd), SubT T T1 -> CtxOK T1 ctx -> TOK all T1 n fr -> Wants all T1 fr o ctx.on -> (ctx = none -> T1 = T) ->
   (runOp P S (barAt dr all n) ctx T1 o fr hp fun fr' hp' => runOps P S dr all none (n + 1) rest T1 fr' hp' K).sat R ->
   (∃ i T1, StepOK P all T T1 o fr hp i /\ TOK all T1 (n + 1) (setO fr o.dst i.val) /\ (runOps P S dr all none (n + 1) rest T1 (setO fr o.dst i.val) (hp ++ i.new) K).sat R) \/
   (BarX P all dr n T fr /\ turnOp o.op = true /\ Wants all T fr o true /\ ∃ ρ, Sees fr ρ /\ ∃ fr' hp' a, BO S fr hp (aop P S ρ hp o.op) fr' hp' a /\ TOK all T (n + 1) (setO fr' o.dst (noGd a)) /\
    (runOps P S dr all none (n + 1) rest T (setO fr' o.dst (noGd a)) hp' K).sat R) := by
  intro ctx T1 hsub hctx ht1 hw hT hh
  rcases runOp_sat hS hctx hh with ⟨b, new, h1, h2⟩ | ⟨hn, hc, htu, ρ, hρ, fr', hp', a, h1, h2⟩
  ·exact .inl ⟨⟨ctx, false, b, new⟩, T1, ⟨hsub, by simpa using hw, fun _ => ⟨h1, hctx⟩, fun h => by cases h⟩, ht1.set hu ho _, h2⟩
  ·subst hc
   obtain rfl := hT rfl
   exact .inr ⟨.inl hn, htu, hw, ρ, hρ, fr', hp', a, h1, (ht1.bo h1).set hu ho _, h2⟩
 have skip : Wants all T fr o false -> (setK fr o.dst (.tup []) fun fr' => runOps P S dr all none (n + 1) rest T fr' hp K).sat R ->
   (∃ i T1, StepOK P all T T1 o fr hp i /\ TOK all T1 (n + 1) (setO fr o.dst i.val) /\ (runOps P S dr all none (n + 1) rest T1 (setO fr o.dst i.val) (hp ++ i.new) K).sat R) \/
   (BarX P all dr n T fr /\ turnOp o.op = true /\ Wants all T fr o true /\ ∃ ρ, Sees fr ρ /\ ∃ fr' hp' a, BO S fr hp (aop P S ρ hp o.op) fr' hp' a /\ TOK all T (n + 1) (setO fr' o.dst (noGd a)) /\
    (runOps P S dr all none (n + 1) rest T (setO fr' o.dst (noGd a)) hp' K).sat R) := by
  intro hw hh
  rw [setK_eq] at hh
  exact .inl ⟨⟨none, true, .top, []⟩, T, ⟨.refl T, hw, (fun h => by cases h), fun _ => rfl⟩, ht.set hu ho _, by simpa [Info.val] using hh⟩
 have two : ∀ {A B C' : Prop}, A \/ B -> A \/ B \/ C' := fun h => h.imp id .inl
 simp only [runOps] at h
 split at h
 ·rename_i hg
  split at h
  ·rename_i hT0 hlate
   split at h
   ·rename_i hbar
    exact two (key none [] (.refl []) trivial ht (by unfold Wants; rw [hg]; rfl) (fun _ => rfl) (by rw [hbar]; exact h))
   ·split at h
    ·rename_i hbef hlt
     unfold runLate at h
     rw [forceM_eq] at h
     split at h
     ·rename_i i hgr
      rcases vc_sat h with ⟨a, new, h1, h2⟩ | ⟨_, fr', hp', a, h1, h2⟩
      ·exact (growOf_po hgr h1).elim
      ·rw [setK_eq] at h2
       refine .inr (.inr ⟨rfl, rfl, hg, hbef, by have := Nat.le_of_ble_eq_true (show Nat.ble (n + 1 + 1) (lateN all n) = true from hlt); omega, lateI_app hlate, _, rfl, i, hgr, fr', hp', a, h1, h2⟩)
     ·exact h.elim
    ·exact h.elim
  ·rcases runOp_sat hS (ctx := none) trivial h with ⟨b, new, h1, h2⟩ | ⟨hn, hc, htu, ρ, hρ, fr', hp', a, h1, h2⟩
   ·rcases splK_sat h2 with h3 | ⟨d, c, hd, hv, h3⟩
    ·exact .inl ⟨⟨none, false, b, new⟩, _, ⟨.refl _, by unfold Wants; rw [hg]; rfl, fun _ => ⟨h1, trivial⟩, fun h => by cases h⟩, ht.set hu ho _, h3⟩
    ·rw [hd] at hv h3
     simp only [setO] at hv h3
     rw [getL_set] at hv
     split at hv
     ·have hb : b = .sb c := by
       change noGd b = .sb c at hv
       cases b <;> first | (simp only [noGd] at hv; exact hv) | (simp [noGd] at hv)
      subst hb
      rw [setL_setL] at h3
      refine .inl ⟨⟨none, false, .lb c, new⟩, _, ⟨.refl _, by unfold Wants; rw [hg]; rfl, fun _ => ⟨h1.lit, trivial⟩, fun h => by cases h⟩, ht.set hu ho _, ?_⟩
      simp only [hd, setO]
      exact h3
     ·rename_i hnd
      exact .inl ⟨⟨none, false, b, new⟩, _, ⟨.refl _, by unfold Wants; rw [hg]; rfl, fun _ => ⟨h1, trivial⟩, fun h => by cases h⟩, ht.set hu ho _, by
       have hlen : ¬ d < fr.length := fun h => hnd ⟨rfl, h⟩
       rw [getL_big' (by omega)] at hv
       cases hv⟩
   ·rw [splK_no (by unfold splB; rw [htu])] at h2
    exact .inr (.inl ⟨barX_spec hn, htu, by unfold Wants; rw [hg], ρ, hρ, fr', hp', a, h1, (ht.bo h1).set hu ho _, h2⟩)
 ·rename_i j want hg
  refine two ?_
  have hjn : j < n := (uniq_spec hu ho).2 j want hg
  have mkW : ∀ {T1 : List Cnd} {d : Nat} {r : Bool}, dstOf all j = some d -> gW T1 want (getL fr d) = some r -> Wants all T1 fr o r := fun h1 h2 => by
   unfold Wants; rw [hg]; exact ⟨_, h1, h2⟩
  split at h
  ·rename_i kx hf
   obtain ⟨k, x⟩ := kx
   obtain ⟨_, h1, h2, h3⟩ := findC_spec hf
   simp only [Nat.sub_zero] at h1 h2 h3
   obtain ⟨_, ⟨d, h4, h5⟩, h6⟩ := ht k x h1
   rw [h2] at h4
   rw [h3] at h5
   exact key (some (k, x)) T (.refl T) ⟨h1, h6⟩ ht (mkW h4 h5) (fun h => by cases h) h
  ·split at h
   ·exact h.elim
   ·rename_i d hd
    split at h
    ·rename_i hv
     exact skip (mkW hd (by rw [hv]; rfl)) h
    ·rename_i b hv
     split at h
     ·rename_i hb
      exact key none T (.refl T) trivial ht (mkW hd (by rw [hv]; simp [gW, hb, Ctx.on])) (fun _ => rfl) h
     ·rename_i hb
      exact skip (mkW hd (by rw [hv]; simp [gW, hb])) h
    ·rename_i b hv
     rw [boolW_eq, lenK_eq, forceT_eq, addC_eq] at h
     have hT1 : (T ++ [(⟨j, want, b == want, [T.length]⟩ : Cnd)])[T.length]? = some ⟨j, want, b == want, [T.length]⟩ := by simp
     have hanc : AncOK (T ++ [(⟨j, want, b == want, [T.length]⟩ : Cnd)]) (b == want) [T.length] := fun k hk => by
      simp only [memN] at hk
      split at hk
      ·rename_i e
       obtain rfl : T.length = k := Nat.eq_of_beq_eq_true e
       exact ⟨_, hT1, fun h => h⟩
      ·cases hk
     exact key (some (T.length, ⟨j, want, b == want, [T.length]⟩)) (T ++ [⟨j, want, b == want, [T.length]⟩]) (.add _ _) ⟨hT1, hanc⟩
      (ht.add ⟨hjn, ⟨d, hd, by rw [hv]; rfl⟩, hanc⟩) (mkW hd (by rw [hv]; rfl)) (fun h => by cases h) h
    ·rename_i p b hv
     split at h
     ·rename_i x hb hx
      have hw : Wants all T fr o x.c := mkW hd (by rw [hv]; simp [gW, hx, hb])
      exact key (some (p, x)) T (.refl T) ⟨hx, (ht p x hx).2.2⟩ ht hw (fun h => by cases h) h
     ·rename_i x hb hx
      exact skip (mkW hd (by rw [hv]; simp [gW, hx, hb])) h
     ·exact h.elim
    ·rename_i p b hv
     split at h
     ·exact h.elim
     ·rename_i q1 q2 cx anc hx
      rw [boolW_eq, lenK_eq, forceT_eq, addC_eq] at h
      have hT1 : (T ++ [(⟨j, want, band cx (b == want), T.length :: anc⟩ : Cnd)])[T.length]? = some ⟨j, want, band cx (b == want), T.length :: anc⟩ := by simp
      have hanc : AncOK (T ++ [(⟨j, want, band cx (b == want), T.length :: anc⟩ : Cnd)]) (band cx (b == want)) (T.length :: anc) := fun k hk => by
       simp only [memN] at hk
       split at hk
       ·rename_i e
        obtain rfl : T.length = k := Nat.eq_of_beq_eq_true e
        exact ⟨_, hT1, fun h => h⟩
       ·obtain ⟨y, hy, hc⟩ := (ht p _ hx).2.2 k hk
        refine ⟨y, SubT.add _ _ _ _ hy, fun h => hc ?_⟩
        rw [band_eq] at h
        exact (Bool.and_eq_true _ _ ▸ h).1
      have hgw : gW (T ++ [(⟨j, want, band cx (b == want), T.length :: anc⟩ : Cnd)]) want (getL fr d) = some (band cx (b == want)) := by
       rw [hv]; simp only [gW, SubT.add T _ _ _ hx, band_eq]
      exact key (some (T.length, ⟨j, want, band cx (b == want), T.length :: anc⟩)) (T ++ [⟨j, want, band cx (b == want), T.length :: anc⟩]) (.add _ _) ⟨hT1, hanc⟩
       (ht.add ⟨hjn, ⟨d, hd, hgw⟩, hanc⟩) (mkW hd hgw) (fun h => by cases h) h
    ·exact h.elim
end
end Abs
end Go.Proofs.Ytdfdjlijghjdaaa

namespace Go.Proofs.Ytdfdjlijghjdaaa
namespace Abs
open Go Go.RowKit
theorem getN_eq : ∀ (l : List Nat) (n : Nat), getN l n = l.getD n 0
 | [], _ => rfl
 | _ :: _, 0 => rfl
 | _ :: l, n + 1 => by simp [getN, getN_eq l n]
theorem addN_eq (l : List Nat) (x : Nat) : addN l x = l ++ [x] := by
 induction l with
 | nil => rfl
 | cons y l ih => simp [addN, ih]
theorem masks_spec : ∀ (l : List Oper) (ms : List Nat), (∃ r, masks l ms = ms ++ r /\ r.length = l.length) /\
  ∀ p o, l[p]? = some o -> getN (masks l ms) (ms.length + p) = maskOf ((masks l ms).take (ms.length + p)) o.after.toList
 | [], ms => ⟨⟨[], by simp [masks]⟩, fun p o h => by simp at h⟩
 | o :: l, ms => by
   have ih := masks_spec l (ms ++ [maskOf ms o.after.toList])
   simp only [masks, addN_eq]
   obtain ⟨⟨r, hr, hl⟩, h2⟩ := ih
   refine ⟨⟨maskOf ms o.after.toList :: r, by rw [hr]; simp, by simp [hl]⟩, fun p o' hp => ?_⟩
   cases p with
   | zero =>
     simp at hp; subst hp
     rw [hr, getN_eq]
     simp
   | succ p =>
     simp at hp
     have := h2 p o' hp
     rw [List.length_append, List.length_singleton] at this
     rw [show ms.length + (p + 1) = ms.length + 1 + p by omega]
     exact this
theorem maskOf_spec {ms : List Nat} {j : Nat} : ∀ {l : List Edge}, (maskOf ms l).testBit j = true -> ∃ e ∈ l, Region.binds .any e = true /\ (e.on = j \/ (getN ms e.on).testBit j = true)
 | [], h => by simp [maskOf] at h
 | e :: l, h => by
   simp only [maskOf] at h
   split at h
   ·rename_i hb
    have h' : ((Nat.shiftLeft 1 e.on) ||| (getN ms e.on) ||| (maskOf ms l)).testBit j = true := h
    rw [Nat.testBit_or, Nat.testBit_or, Bool.or_eq_true, Bool.or_eq_true] at h'
    rcases h' with (h1 | h1) | h1
    ·refine ⟨e, by simp, hb, .inl ?_⟩
     have h2 : (1 <<< e.on).testBit j = true := h1
     rw [Nat.one_shiftLeft, Nat.testBit_two_pow] at h2
     simpa using h2
    ·exact ⟨e, by simp, hb, .inr h1⟩
    ·obtain ⟨e', he, h2⟩ := maskOf_spec h1
     exact ⟨e', by simp [he], h2⟩
   ·obtain ⟨e', he, h2⟩ := maskOf_spec h
    exact ⟨e', by simp [he], h2⟩
def Closed (all : List Oper) (D : Nat -> Prop) : Prop := ∀ (i : Nat) (o : Oper), all[i]? = some o -> D i -> ∀ e ∈ o.after.toList, Region.binds .any e = true -> D e.on
def Back (all : List Oper) : Prop := ∀ (i : Nat) (o : Oper), all[i]? = some o -> ∀ e ∈ o.after.toList, Region.binds .any e = true -> e.on < i
theorem back_spec {all : List Oper} (h : backOK all = true) : Back all := fun i o ho e he hb => by
 have h1 := allLt_spec h i (List.getElem?_eq_some_iff.1 ho).1
 simp only [ho] at h1
 have h2 := List.all_eq_true.1 h1 e he
 simp only [hb, Bool.not_true, Bool.false_or] at h2
 have := Nat.le_of_ble_eq_true (show Nat.ble (e.on + 1) i = true from h2)
 omega
theorem ord_closed {all : List Oper} (hback : Back all) {D : Nat -> Prop} (hD : Closed all D) {j : Nat} : ∀ (i : Nat) (o : Oper), all[i]? = some o -> (∀ e ∈ o.after.toList, Region.binds .any e = true -> D e.on) -> ordM (masks all []) j i = true -> D j := by
 intro i
 induction i using Nat.strongRecOn with
 | _ i ih =>
   intro o ho hpre h
   obtain ⟨⟨r, hr, hl⟩, h2⟩ := masks_spec all []
   have h3 := h2 i o ho
   simp only [List.length_nil, Nat.zero_add] at h3
   unfold ordM at h
   rw [h3] at h
   obtain ⟨e, he, hb, h4 | h4⟩ := maskOf_spec h
   ·exact h4 ▸ hpre e he hb
   ·have hlt : e.on < i := hback i o ho e he hb
    have hia : i < all.length := (List.getElem?_eq_some_iff.1 ho).1
    have h5 : ordM (masks all []) j e.on = true := by
     unfold ordM
     rw [getN_eq, List.getD_eq_getElem?_getD, List.getElem?_take_of_lt hlt, <- List.getD_eq_getElem?_getD, <- getN_eq] at h4
     exact h4
    have ho' : all[e.on]? = some (all[e.on]'(by omega)) := List.getElem?_eq_getElem _
    exact ih e.on hlt _ ho' (fun e' he' hb' => hD _ _ ho' (hpre e he hb) e' he' hb') h5
theorem ord_mem {all : List Oper} (hback : Back all) {D : Nat -> Prop} (hD : Closed all D) {j i : Nat} (hi : i < all.length) (h : D i) (ho : ordM (masks all []) j i = true) : D j :=
 ord_closed hback hD i _ (List.getElem?_eq_getElem hi) (hD i _ (List.getElem?_eq_getElem hi) h) ho
theorem nb_false {i j : Nat} (h : i ≠ j) : Nat.beq i j = false := by
 rcases hb : Nat.beq i j with _ | _
 ·rfl
 ·exact absurd (Nat.eq_of_beq_eq_true hb) h
theorem blt_true {i j : Nat} (h : i < j) : Nat.blt i j = true := by
 have : Nat.ble (i + 1) j = true := Nat.ble_eq_true_of_le h
 exact this
theorem blt_false {i j : Nat} (h : ¬ i < j) : Nat.blt i j = false := by
 rcases hb : Nat.blt i j with _ | _
 ·rfl
 ·exact absurd (Nat.le_of_ble_eq_true (show Nat.ble (i + 1) j = true from hb)) h
theorem bar_spec {all : List Oper} {i : Nat} (h : barAt true all i = true) {j : Nat} (hj : j < all.length) : (j < i -> ordM (masks all []) j i = true) /\ (i < j -> ordM (masks all []) i j = true) := by
 have h1 := allLt_spec (f := fun j => match Nat.blt j i with | true => ordM (masks all []) j i | false => (match Nat.beq j i with | true => true | false => ordM (masks all []) i j)) h j hj
 constructor
 ·intro hlt; rw [blt_true hlt] at h1; exact h1
 ·intro hlt; rw [blt_false (by omega), nb_false (by omega)] at h1; exact h1
theorem tmp_spec {all : List Oper} (h : tmpOK all = true) {j : Nat} {o : Oper} {d : Nat} (hj : all[j]? = some o) (hd : o.dst = some d) {i : Nat} {o' : Oper} (hi : all[i]? = some o') (hl : d ∈ looksL all o') :
  (j < i -> ordM (masks all []) j i = true) /\ (i < j -> ordM (masks all []) i j = true) := by
 have h1 := allLt_spec h j (List.getElem?_eq_some_iff.1 hj).1
 simp only [hj, hd, Bool.and_eq_true] at h1
 have h2 := allLt_spec h1.2 i (List.getElem?_eq_some_iff.1 hi).1
 simp only [hi] at h2
 have hc : (looksL all o').contains d = true := by simpa using hl
 simp only [hc] at h2
 constructor
 ·intro hlt; rw [blt_true hlt] at h2; exact h2
 ·intro hlt; rw [blt_false (by omega), nb_false (by omega)] at h2; exact h2
theorem looks_op {all : List Oper} {o : Oper} {t : Nat} (h : (.tmp t : Operand) ∈ o.op.operands) : t ∈ looksL all o := by
 unfold looksL
 refine List.mem_append_left _ (List.mem_filterMap.2 ⟨.tmp t, by simpa using h, rfl⟩)
theorem looks_gd {all : List Oper} {o : Oper} {d : Nat} (h : gdst all o d) : d ∈ looksL all o := by
 obtain ⟨j, want, hg, hd⟩ := h
 unfold looksL
 refine List.mem_append_right _ ?_
 rw [hg]
 unfold dstOf at hd
 split at hd
 ·rename_i o' ho'; simp [ho', hd]
 ·cases hd
end Abs
end Go.Proofs.Ytdfdjlijghjdaaa

namespace Go.Proofs.Ytdfdjlijghjdaaa
namespace Abs
open Go Go.RowKit
section
variable {P : Program} {S : Sums} {C C' : Cx} {w w' : World} {H hp : Heap} {T T1 T' : List Cnd} {all : List Oper}
theorem RelG.sub (hs : SubT T T') {a : AV} {v : Value} (h : RelG T C w a v) : RelG T' C w a v :=
 ⟨h.1, fun k b e => by
  obtain ⟨x, h1, h2⟩ := h.2 k b e
  exact ⟨x, hs k x h1, h2⟩⟩
theorem FR.sub (hs : SubT T T') {fr : List AV} {tm : Array Value} (h : FR T C w fr tm) : FR T' C w fr tm := ⟨h.len, fun t => (h.get t).sub hs⟩
theorem evG_rel {fr : List AV} {act : Act} (x : Operand) (h : ∀ t, x = .tmp t -> RelG T C w (getL fr t) (act.tmps.getD t undef)) : RelG T C w (ev fr x) (act.eval x) := by
 cases x with
 | tmp t => exact h t rfl
 | const v =>
   cases v <;> try exact .plain (.v _) trivial
   ·exact .plain (.lb _) trivial
   ·exact .plain (.li _ _) trivial
   ·exact .plain (.fn _ _ _ _ _ (relL_v _) (relL_v _)) trivial
   ·exact .plain (.agg _ _ (relL_v _)) trivial
   ·exact .plain (.tup _ _ (relL_v _)) trivial
 | global g => exact .plain (.v _) trivial
 | func f => exact .plain (.fn _ _ _ _ _ .nil .nil) trivial
theorem len_setB (l : Heap) (i : Nat) (b : Blk) : (setB l i b).length = l.length := by rw [setB_eq]; simp
theorem BO.len {r : AR} {fr fr' : List AV} {hp' : Heap} {a : AV} (h : BO S fr hp r fr' hp' a) : hp.length <= hp'.length := by
 induction h with
 | need fr hp p r fr' hp' a h h' ih => exact ih
 | brt fr hp t e fr' hp' a h ih => exact ih
 | brf fr hp t e fr' hp' a h ih => exact ih
 | blk => simp
 | upd => rw [len_setB]; exact Nat.le_refl _
 | grow => rw [len_setB, len_mapH]; exact Nat.le_refl _
 | frz fr hp j a r fr' hp' x hl h ih => rw [len_setB, len_mapH] at ih; exact ih
 | two fr hp f args s2 pre res hp2 h2 hs hl hpre => exact hl
 | mov fr hp f args s2 pre res hp2 j h2 hs hl hpre => exact hl
 | one => simp
 | val => exact Nat.le_refl _
theorem getL_clean : ∀ (l : List AV) (t : Nat), getL (cleanL l) t = noGd (getL l t)
 | [], _ => rfl
 | _ :: _, 0 => rfl
 | _ :: l, t + 1 => getL_clean l t
theorem len_clean : ∀ l : List AV, (cleanL l).length = l.length
 | [] => rfl
 | _ :: l => by simp [cleanL, len_clean l]
theorem cleanF_eq : ∀ (l : List AV) (k : List AV -> VC), cleanF l k = k (cleanL l)
 | [], k => rfl
 | a :: l, k => by
   have ih := fun k' => cleanF_eq l k'
   cases a <;> exact ih _
theorem FR.clean {fr : List AV} {tm : Array Value} (h : FR T C w fr tm) : FR [] C w (cleanL fr) tm :=
 ⟨by rw [len_clean, h.len], fun t => by rw [getL_clean]; exact .plain (rel_noGd (h.get t).1) (notGd_noGd _)⟩
theorem put_defers (a : Act) (d : Option Tmp) (v : Value) : (a.put d v).defers = a.defers := by cases d <;> rfl
def Goal (_P : Program) (S : Sums) (R : AV -> Heap -> Prop) (K : List AV -> Heap -> VC) (Q : Exit -> Act -> World -> Prop) (C : Cx) (w : World) (ds : Act -> Prop) : Prop :=
 ∀ (fr' : List AV) (hp' : Heap) (C' : Cx) (w' : World) (act' : Act), (K fr' hp').sat R -> S.lo <= hp'.length -> HR C' hp' w' -> FR [] C' w' fr' act'.tmps -> Tr S.lo C w C' w' -> ds act' -> Q .normal act' w'
def PutOK (all : List Oper) (ds : Act -> Prop) : Prop := ∀ o ∈ all, ∀ (a : Act) (v : Value), ds a -> ds (a.put o.dst v)
theorem Goal.step {R : AV -> Heap -> Prop} {K : List AV -> Heap -> VC} {Q : Exit -> Act -> World -> Prop} {ds : Act -> Prop} (g : Goal P S R K Q C w ds) (t : Tr S.lo C w C' w') : Goal P S R K Q C' w' ds :=
 fun fr' hp' C'' w'' act' h1 h2 h3 h4 h5 h6 => g fr' hp' C'' w'' act' h1 h2 h3 h4 (t.trans h5) h6
theorem inorder (hS : SumsOK P S) (hu : uniqOK all = true) {R : AV -> Heap -> Prop} {K : List AV -> Heap -> VC} {Q : Exit -> Act -> World -> Prop} {ds : Act -> Prop} (hput : PutOK all ds) {ro : Option Nat} {rm : Nat} :
  ∀ (rest : List Oper) (n : Nat) (T : List Cnd) (fr : List AV) (hp : Heap) (C : Cx) (w : World) (act : Act), all.drop n = rest -> TOK all T n fr -> S.lo <= hp.length -> HR C hp w -> FR T C w fr act.tmps ->
    (runOps P S false all none n rest T fr hp K).sat R -> ds act -> Goal P S R K Q C w ds -> wpOpsIn (fen ro) rm P all.toArray Q (List.range' n rest.length) act w := by
 intro rest
 induction rest with
 | nil =>
   intro n T fr hp C w act hd ht hlo hH hF h hds hgoal
   simp only [runOps, cleanF_eq] at h
   exact hgoal _ _ C w act h hlo hH hF.clean (.refl _ _ _) hds
 | cons o rest ih =>
   intro n T fr hp C w act hd ht hlo hH hF h hds hgoal
   have hlt : n < all.length := by
    rcases Nat.lt_or_ge n all.length with h | h
    ·exact h
    ·rw [List.drop_eq_nil_of_le h] at hd; cases hd
   have ho : all[n]? = some o := by
    have := List.getElem?_drop (xs := all) (i := n) (j := 0)
    rw [hd] at this; simpa using this.symm
   have hd' : all.drop (n + 1) = rest := by
    rw [<- List.drop_drop, hd]; rfl
   have hao : all.toArray[n]? = some o := by simpa using ho
   have hwp : ∀ {T : List Cnd} {fr : List AV} {hp : Heap} {C' : Cx} {w' : World} {act' : Act}, TOK all T (n + 1) fr -> S.lo <= hp.length -> HR C' hp w' -> FR T C' w' fr act'.tmps -> (runOps P S false all none (n + 1) rest T fr hp K).sat R ->
     ds act' -> Tr S.lo C w C' w' -> wpOpsIn (fen ro) rm P all.toArray Q (List.range' (n + 1) rest.length) act' w' := fun h1 h2 h3 h4 h5 h6 h7 => ih (n + 1) _ _ _ _ _ _ hd' h1 h2 h3 h4 h5 h6 (hgoal.step h7)
   rw [List.length_cons, List.range'_succ]
   simp only [wpOpsIn, hao]
   rcases runOps_step hS hu ho ht h with ⟨i, T1, hst, ht1, hh⟩ | ⟨_, htu, hw, ρ, hρ, fr', hp', a, hbo, ht1, hh⟩ | ⟨hdr, _⟩
   ·have hF1 := hF.sub hst.sub
    have hfree := hH.free i.new
    rcases run_info hst (.refl _) (act := act) (hH.ext i.new) (fun i hi => getB_append _ _ _ hi) hfree (fun x _ => evG_rel x fun t _ => hF1.get t) (fun d _ => hF1.get d) with ⟨hw, hr⟩ | ⟨hw, hr⟩
    ·rw [hw]
     simp only [if_true]
     refine Ran.wpIn (hr.mono fun v w' ⟨C', h1, h2, h3⟩ => ?_)
     have hx := h3.cext hfree.none hH.ilt
     exact hwp ht1 (by simp; omega) h1 ((hF1.mono hx).put h2 _) hh (hput o (List.mem_of_getElem? ho) _ _ hds) (h3.tr hlo)
    ·rw [hw]
     simp only [Bool.false_eq_true, if_false]
     obtain ⟨C', h1, h2, h3⟩ := hr
     have hx := h3.cext hfree.none hH.ilt
     refine ⟨fun _ _ => trivial, ?_⟩
     exact hwp ht1 (by simp; omega) h1 ((hF1.mono hx).put h2 _) hh (hput o (List.mem_of_getElem? ho) _ _ hds) (h3.tr hlo)
   ·have hwant : Region.wanted o (yielded all.toArray act.tmps) = true := wanted_eq hw fun d _ => hF.get d
    rw [hwant]
    simp only [if_true]
    refine Ran.wpIn ((exec_big hS o htu hρ hH hF hlo hbo).mono fun v w' ⟨C', h1, h2, h3, h4⟩ => ?_)
    exact hwp ht1 (Nat.le_trans hlo hbo.len) h1 (h3.put (.plain (rel_noGd h2) (notGd_noGd _)) _) hh (hput o (List.mem_of_getElem? ho) _ _ hds) h4
   ·cases hdr
theorem region_text (hS : SumsOK P S) {ro : Option Nat} {rm : Nat} {id : Nat} {ops : Array Oper} (hu : uniqOK ops.toList = true) {R : AV -> Heap -> Prop} {K : List AV -> Heap -> VC} {Q : Exit -> Act -> World -> Prop} {fr : List AV} {act : Act}
  (hlo : S.lo <= hp.length) (hH : HR C hp w) (hF : FR [] C w fr act.tmps) (h : (runOps P S false ops.toList none 0 ops.toList [] fr hp K).sat R) {ds : Act -> Prop} (hput : PutOK ops.toList ds) (hds : ds act) (hgoal : Goal P S R K Q C w ds) : (Code.region id ops false).wpIn (fen ro) rm P Q act w := by
 apply wpIn_region
 have := inorder hS hu hput (ro := ro) (rm := rm) ops.toList 0 [] fr hp C w act (by simp) (fun k x hx => by simp at hx) hlo hH hF h hds hgoal
 rw [List.range_eq_range']
 simpa using this
end
end Abs
end Go.Proofs.Ytdfdjlijghjdaaa

namespace Go.Proofs.Ytdfdjlijghjdaaa
namespace Abs
open Go Go.RowKit
instance : Inhabited Info := ⟨⟨none, true, .top, []⟩⟩
def frs (all : List Oper) (s : Nat) (fr0 : List AV) (L : List Info) : Nat -> List AV
 | 0 => fr0
 | q + 1 => setO (frs all s fr0 L q) (dstOf all (s + q)) ((L.getD q default).val)
def hps (hp0 : Heap) (L : List Info) : Nat -> Heap
 | 0 => hp0
 | q + 1 => hps hp0 L q ++ (L.getD q default).new
structure Seg (P : Program) (all : List Oper) (s : Nat) (T0 : List Cnd) (fr0 : List AV) (hp0 : Heap) (L : List Info) (T' : List Cnd) : Prop where
 len : s + L.length <= all.length
 sub : SubT T0 T'
 step : ∀ q, q < L.length -> ∃ o Tq Tq1, all[s + q]? = some o /\ StepOK P all Tq Tq1 o (frs all s fr0 L q) (hps hp0 L q) (L.getD q default) /\ SubT Tq1 T'
def SegEnd (P : Program) (S : Sums) (all : List Oper) (R : AV -> Heap -> Prop) (K : List AV -> Heap -> VC) (s : Nat) (fr0 : List AV) (hp0 : Heap) (L : List Info) (T' : List Cnd) : Prop :=
 (s + L.length = all.length /\ (K (cleanL (frs all s fr0 L L.length)) (hps hp0 L L.length)).sat R) \/
 (∃ o, all[s + L.length]? = some o /\ BarX P all true (s + L.length) T' (frs all s fr0 L L.length) /\ turnOp o.op = true /\ Wants all T' (frs all s fr0 L L.length) o true /\
  ∃ ρ, Sees (frs all s fr0 L L.length) ρ /\ ∃ fr' hp' a, BO S (frs all s fr0 L L.length) (hps hp0 L L.length) (aop P S ρ (hps hp0 L L.length) o.op) fr' hp' a /\ TOK all T' (s + L.length + 1) (setO fr' o.dst (noGd a)) /\
    (runOps P S true all none (s + L.length + 1) (all.drop (s + L.length + 1)) T' (setO fr' o.dst (noGd a)) hp' K).sat R) \/
 (∃ o, all[s + L.length]? = some o /\ T' = [] /\ o.guard = none /\ befAt all (s + L.length) = true /\ s + L.length + 1 < lateN all (s + L.length) /\ (∃ c, o.op = .call c /\ c.callee = .builtin .append) /\
  ∃ ρ, ρ = evM ((tmpsO (opnds o.op)).map fun t => (t, unGd [] (getL (frs all s fr0 L L.length) t))) /\ ∃ i, growOf (aop P S ρ (hps hp0 L L.length) o.op) = some i /\ ∃ fr' hp' a, BO S (frs all s fr0 L L.length) (hps hp0 L L.length) (aop P S ρ (hps hp0 L L.length) o.op) fr' hp' a /\
    (runOps P S true all (some (i, lateN all (s + L.length))) (s + L.length + 1) (all.drop (s + L.length + 1)) [] (setO fr' o.dst (noGd a)) hp' K).sat R)
theorem getD_snoc (L : List Info) (i : Info) : (L ++ [i]).getD L.length default = i := by simp
theorem getD_snoc_lt {L : List Info} {i : Info} {q : Nat} (h : q < L.length) : (L ++ [i]).getD q default = L.getD q default := by
 rw [List.getD_eq_getElem?_getD, List.getD_eq_getElem?_getD, List.getElem?_append_left h]
theorem frs_snoc {all : List Oper} {s : Nat} {fr0 : List AV} {L : List Info} {i : Info} : ∀ {q : Nat}, q <= L.length -> frs all s fr0 (L ++ [i]) q = frs all s fr0 L q
 | 0, _ => rfl
 | q + 1, h => by simp only [frs]; rw [frs_snoc (by omega), getD_snoc_lt (by omega)]
theorem hps_snoc {hp0 : Heap} {L : List Info} {i : Info} : ∀ {q : Nat}, q <= L.length -> hps hp0 (L ++ [i]) q = hps hp0 L q
 | 0, _ => rfl
 | q + 1, h => by simp only [hps]; rw [hps_snoc (by omega), getD_snoc_lt (by omega)]
theorem hps_app (hp0 : Heap) (L : List Info) : ∀ q, ∃ r, hps hp0 L q = hp0 ++ r
 | 0 => ⟨[], by simp [hps]⟩
 | q + 1 => by obtain ⟨r, hr⟩ := hps_app hp0 L q; exact ⟨r ++ (L.getD q default).new, by simp [hps, hr]⟩
theorem hps_le (hp0 : Heap) (L : List Info) {p q : Nat} (h : p <= q) : ∃ r, hps hp0 L q = hps hp0 L p ++ r := by
 induction q with
 | zero => obtain rfl : p = 0 := by omega
           exact ⟨[], by simp⟩
 | succ q ih =>
   rcases Nat.lt_or_ge p (q + 1) with hlt | hge
   ·obtain ⟨r, hr⟩ := ih (by omega)
    exact ⟨r ++ (L.getD q default).new, by simp [hps, hr]⟩
   ·obtain rfl : p = q + 1 := by omega
    exact ⟨[], by simp⟩
theorem len_setO (fr : List AV) (d : Option Nat) (a : AV) : (setO fr d a).length = fr.length := by cases d <;> simp [setO, len_setL]
theorem frs_len (all : List Oper) (s : Nat) (fr0 : List AV) (L : List Info) : ∀ q, (frs all s fr0 L q).length = fr0.length
 | 0 => rfl
 | q + 1 => by simp only [frs]; rw [len_setO, frs_len all s fr0 L q]
section
variable {P : Program} {S : Sums} {C C' : Cx} {w w' : World} {H hp : Heap} {T T1 T' : List Cnd} {all : List Oper}
theorem dstOf_get {i : Nat} {o : Oper} (h : all[i]? = some o) : dstOf all i = o.dst := by unfold dstOf; rw [h]
theorem seg_run' (hS : SumsOK P S) (hu : uniqOK all = true) {R : AV -> Heap -> Prop} {K : List AV -> Heap -> VC} {s : Nat} {T0 : List Cnd} {fr0 : List AV} {hp0 : Heap} :
  ∀ (rest : List Oper) (L : List Info) (T : List Cnd), Seg P all s T0 fr0 hp0 L T -> all.drop (s + L.length) = rest -> TOK all T (s + L.length) (frs all s fr0 L L.length) ->
    (runOps P S true all none (s + L.length) rest T (frs all s fr0 L L.length) (hps hp0 L L.length) K).sat R -> ∃ L' T', Seg P all s T0 fr0 hp0 L' T' /\ SegEnd P S all R K s fr0 hp0 L' T' /\ ∃ r, L' = L ++ r := by
 intro rest
 induction rest with
 | nil =>
   intro L T hs hd ht h
   refine ⟨L, T, hs, .inl ⟨?_, by simpa only [runOps, cleanF_eq] using h⟩, [], by simp⟩
   have := List.drop_eq_nil_iff.1 hd
   have := hs.len
   omega
 | cons o rest ih =>
   intro L T hs hd ht h
   have hlt : s + L.length < all.length := by
    rcases Nat.lt_or_ge (s + L.length) all.length with h | h
    ·exact h
    ·rw [List.drop_eq_nil_of_le h] at hd; cases hd
   have ho : all[s + L.length]? = some o := by
    have := List.getElem?_drop (xs := all) (i := s + L.length) (j := 0)
    rw [hd] at this; simpa using this.symm
   have hd' : all.drop (s + L.length + 1) = rest := by
    rw [<- List.drop_drop, hd]; rfl
   rcases runOps_step hS hu ho ht h with ⟨i, T1, hst, ht1, hh⟩ | ⟨hb, htu, hw, ρ, hρ, fr', hp', a, hbo, ht1, hh⟩ | ⟨_, hT0, hgn, hbef, hlt', happ, ρ, hρ, i, hgr, fr', hp', a, hbo, hh⟩
   ·have e1 : frs all s fr0 (L ++ [i]) (L ++ [i]).length = setO (frs all s fr0 L L.length) o.dst i.val := by
     rw [List.length_append, List.length_singleton]
     simp only [frs]
     rw [frs_snoc (Nat.le_refl _), getD_snoc, dstOf_get ho]
    have e2 : hps hp0 (L ++ [i]) (L ++ [i]).length = hps hp0 L L.length ++ i.new := by
     rw [List.length_append, List.length_singleton]
     simp only [hps]
     rw [hps_snoc (Nat.le_refl _), getD_snoc]
    have e3 : s + (L ++ [i]).length = s + L.length + 1 := by simp; omega
    have hsg : Seg P all s T0 fr0 hp0 (L ++ [i]) T1 := by
     refine ⟨by rw [e3]; omega, hs.sub.trans hst.sub, fun q hq => ?_⟩
     rw [List.length_append, List.length_singleton] at hq
     rcases Nat.lt_or_ge q L.length with hql | hql
     ·obtain ⟨o', Tq, Tq1, h1, h2, h3⟩ := hs.step q hql
      refine ⟨o', Tq, Tq1, h1, ?_, h3.trans hst.sub⟩
      rw [frs_snoc (by omega), hps_snoc (by omega), getD_snoc_lt hql]
      exact h2
     ·obtain rfl : q = L.length := by omega
      refine ⟨o, T, T1, ho, ?_, .refl _⟩
      rw [frs_snoc (Nat.le_refl _), hps_snoc (Nat.le_refl _), getD_snoc]
      exact hst
    obtain ⟨L', T', g1, g2, r, hr⟩ := ih (L ++ [i]) T1 hsg (by rw [e3]; exact hd') (by rw [e3, e1]; exact ht1) (by rw [e3, e1, e2]; exact hh)
    exact ⟨L', T', g1, g2, [i] ++ r, by rw [hr]; simp⟩
   ·refine ⟨L, T, hs, .inr (.inl ⟨o, ho, hb, htu, hw, ρ, hρ, fr', hp', a, hbo, ht1, ?_⟩), [], by simp⟩
    rw [hd']; exact hh
   ·refine ⟨L, T, hs, .inr (.inr ⟨o, ho, hT0, hgn, hbef, hlt', happ, ρ, hρ, i, hgr, fr', hp', a, hbo, ?_⟩), [], by simp⟩
    rw [hd']; exact hh
theorem seg_run (hS : SumsOK P S) (hu : uniqOK all = true) {R : AV -> Heap -> Prop} {K : List AV -> Heap -> VC} {s : Nat} {T0 : List Cnd} {fr0 : List AV} {hp0 : Heap} (rest : List Oper) (L : List Info) (T : List Cnd) (h1 : Seg P all s T0 fr0 hp0 L T) (h2 : all.drop (s + L.length) = rest)
  (h3 : TOK all T (s + L.length) (frs all s fr0 L L.length)) (h4 : (runOps P S true all none (s + L.length) rest T (frs all s fr0 L L.length) (hps hp0 L L.length) K).sat R) : ∃ L' T', Seg P all s T0 fr0 hp0 L' T' /\ SegEnd P S all R K s fr0 hp0 L' T' := by
 obtain ⟨L', T', g1, g2, _⟩ := seg_run' hS hu rest L T h1 h2 h3 h4
 exact ⟨L', T', g1, g2⟩
def LateOK (all : List Oper) (i u s : Nat) (fr0 : List AV) (L : List Info) : Prop :=
 u <= s + L.length /\ ∀ q, q < L.length -> s + q < u -> (∀ o, all[s + q]? = some o -> o.guard = none /\ ∀ t ∈ looksL all o, hasO i (getL (frs all s fr0 L q) t) = false) /\
   (∀ t, dstOf all (s + q) = some t -> t < fr0.length -> hasO i ((L.getD q default).val) = false) /\ hasOH i ((L.getD q default).new) = false
theorem cleanT_spec {i : Nat} {fr : List AV} : ∀ {l : List Nat}, cleanT i fr l = true -> ∀ t ∈ l, hasO i (getL fr t) = false
 | [], _, t, ht => by cases ht
 | x :: l, h, t, ht => by
   simp only [cleanT, Bool.and_eq_true, Bool.not_eq_true'] at h
   rcases List.mem_cons.1 ht with rfl | ht
   ·exact h.1
   ·exact cleanT_spec h.2 t ht
theorem dropH_eq : ∀ (l : Heap) (n : Nat), dropH l n = l.drop n
 | [], 0 => rfl
 | _ :: _, 0 => rfl
 | [], n + 1 => by simp [dropH]
 | _ :: l, n + 1 => by simp [dropH, dropH_eq l n]
theorem seg_late (hS : SumsOK P S) (hu : uniqOK all = true) {R : AV -> Heap -> Prop} {K : List AV -> Heap -> VC} {s : Nat} {fr0 : List AV} {hp0 : Heap} {i u : Nat} :
  ∀ (rest : List Oper) (L : List Info), Seg P all s [] fr0 hp0 L [] -> all.drop (s + L.length) = rest -> s + L.length <= u ->
    (∀ q, q < L.length -> s + q < u -> (∀ o, all[s + q]? = some o -> o.guard = none /\ ∀ t ∈ looksL all o, hasO i (getL (frs all s fr0 L q) t) = false) /\ (∀ t, dstOf all (s + q) = some t -> t < fr0.length -> hasO i ((L.getD q default).val) = false) /\ hasOH i ((L.getD q default).new) = false) ->
    (runOps P S true all (some (i, u)) (s + L.length) rest [] (frs all s fr0 L L.length) (hps hp0 L L.length) K).sat R ->
    ∃ L' T', Seg P all s [] fr0 hp0 L' T' /\ SegEnd P S all R K s fr0 hp0 L' T' /\ LateOK all i u s fr0 L' := by
 intro rest
 induction rest with
 | nil =>
   intro L hs hd hle hcl h
   simp only [runOps] at h
   split at h
   ·rename_i hble
    have hu' := Nat.le_of_ble_eq_true hble
    refine ⟨L, [], hs, .inl ⟨?_, by simpa only [cleanF_eq] using h⟩, hu', hcl⟩
    have := List.drop_eq_nil_iff.1 hd
    have := hs.len
    omega
   ·exact h.elim
 | cons o rest ih =>
   intro L hs hd hle hcl h
   have hlt : s + L.length < all.length := by
    rcases Nat.lt_or_ge (s + L.length) all.length with h | h
    ·exact h
    ·rw [List.drop_eq_nil_of_le h] at hd; cases hd
   have ho : all[s + L.length]? = some o := by
    have := List.getElem?_drop (xs := all) (i := s + L.length) (j := 0)
    rw [hd] at this; simpa using this.symm
   have hd' : all.drop (s + L.length + 1) = rest := by
    rw [<- List.drop_drop, hd]; rfl
   simp only [runOps] at h
   split at h
   ·exact h.elim
   rename_i hblt
   have hnu : s + L.length < u := by
    have := Nat.le_of_ble_eq_true (show Nat.ble (s + L.length + 1) u = true from hblt); omega
   split at h
   rotate_left
   ·exact h.elim
   rename_i hgn _ hclT
   rcases runOp_sat hS (T := []) (ctx := none) trivial h with ⟨b, new, h1, h2⟩ | ⟨hn, _⟩
   rotate_left
   ·cases hn
   split at h2
   rotate_left
   ·exact h2.elim
   rename_i hclD
   unfold cleanD at hclD
   simp only [Bool.and_eq_true, Bool.not_eq_true'] at hclD
   rw [dropH_eq, List.drop_left] at hclD
   obtain ⟨inf, hinf⟩ : ∃ inf : Info, inf = ⟨none, false, b, new⟩ := ⟨_, rfl⟩
   have hval : inf.val = wrapA none b := by rw [hinf]; rfl
   have hnew : inf.new = new := by rw [hinf]
   have hst : StepOK P all [] [] o (frs all s fr0 L L.length) (hps hp0 L L.length) inf := by
    rw [hinf]
    exact ⟨.refl _, by unfold Wants; rw [hgn]; rfl, fun _ => ⟨h1, trivial⟩, fun h => by cases h⟩
   have e1 : frs all s fr0 (L ++ [inf]) (L ++ [inf]).length = setO (frs all s fr0 L L.length) o.dst inf.val := by
    rw [List.length_append, List.length_singleton]
    simp only [frs]
    rw [frs_snoc (Nat.le_refl _), getD_snoc, dstOf_get ho]
   have e2 : hps hp0 (L ++ [inf]) (L ++ [inf]).length = hps hp0 L L.length ++ inf.new := by
    rw [List.length_append, List.length_singleton]
    simp only [hps]
    rw [hps_snoc (Nat.le_refl _), getD_snoc]
   have e3 : s + (L ++ [inf]).length = s + L.length + 1 := by simp; omega
   have hseg : Seg P all s [] fr0 hp0 (L ++ [inf]) [] := by
    refine ⟨by rw [e3]; omega, .refl _, fun q hq => ?_⟩
    rw [List.length_append, List.length_singleton] at hq
    rcases Nat.lt_or_ge q L.length with hql | hql
    ·obtain ⟨o', Tq, Tq1, g1, g2, g3⟩ := hs.step q hql
     refine ⟨o', Tq, Tq1, g1, ?_, g3⟩
     rw [frs_snoc (by omega), hps_snoc (by omega), getD_snoc_lt hql]
     exact g2
    ·obtain rfl : q = L.length := by omega
     refine ⟨o, [], [], ho, ?_, .refl _⟩
     rw [frs_snoc (Nat.le_refl _), hps_snoc (Nat.le_refl _), getD_snoc]
     exact hst
   have hcl' : ∀ q, q < (L ++ [inf]).length -> s + q < u -> (∀ o, all[s + q]? = some o -> o.guard = none /\ ∀ t ∈ looksL all o, hasO i (getL (frs all s fr0 (L ++ [inf]) q) t) = false) /\
     (∀ t, dstOf all (s + q) = some t -> t < fr0.length -> hasO i (((L ++ [inf]).getD q default).val) = false) /\ hasOH i (((L ++ [inf]).getD q default).new) = false := by
    intro q hq hqu
    rw [List.length_append, List.length_singleton] at hq
    rcases Nat.lt_or_ge q L.length with hql | hql
    ·rw [frs_snoc (by omega), getD_snoc_lt hql]
     exact hcl q hql hqu
    ·obtain rfl : q = L.length := by omega
     rw [frs_snoc (Nat.le_refl _), getD_snoc]
     refine ⟨fun o' ho' => ?_, fun t ht htl => ?_, by rw [hnew]; exact hclD.2⟩
     ·rw [ho] at ho'; injection ho' with ho'; subst ho'
      exact ⟨hgn, cleanT_spec hclT⟩
     ·rw [dstOf_get ho] at ht
      have h3 := hclD.1
      rw [ht] at h3
      simp only [setO, getL_set] at h3
      rw [if_pos ⟨trivial, by rw [frs_len]; exact htl⟩] at h3
      rw [hval]
      simpa using h3
   rw [<- hval, <- e1, <- hnew, <- e2, <- e3] at h2
   split at h2
   ·rename_i hbeq
    have hue : s + L.length + 1 = u := by rw [<- e3]; exact Nat.eq_of_beq_eq_true hbeq
    obtain ⟨L', T', g1, g2, r, hr⟩ := seg_run' hS hu rest (L ++ [inf]) [] hseg (by rw [e3]; exact hd') (fun k x hx => by simp at hx) h2
    subst hr
    have hlen : L.length + 1 <= ((L ++ [inf]) ++ r).length := by simp
    refine ⟨_, T', g1, g2, by omega, fun q hq hqu => ?_⟩
    have hq1 : q < (L ++ [inf]).length := by simp; omega
    have e4 : ((L ++ [inf]) ++ r).getD q default = (L ++ [inf]).getD q default := by
     rw [List.getD_eq_getElem?_getD, List.getD_eq_getElem?_getD, List.getElem?_append_left hq1]
    have e5 : ∀ p, p <= (L ++ [inf]).length -> frs all s fr0 ((L ++ [inf]) ++ r) p = frs all s fr0 (L ++ [inf]) p := by
     intro p
     induction p with
     | zero => intro _; rfl
     | succ p ihp =>
       intro hp
       simp only [frs]
       rw [ihp (by omega), List.getD_eq_getElem?_getD, List.getD_eq_getElem?_getD, List.getElem?_append_left (by omega)]
    rw [e4, e5 q (by omega)]
    exact hcl' q hq1 hqu
   ·exact ih (L ++ [inf]) hseg (by rw [e3]; exact hd') (by rw [e3]; omega) hcl' h2
def unl (f : Nat -> Bool) : Nat -> Nat
 | 0 => 0
 | n + 1 => (if f n then 0 else 1) + unl f n
theorem unl_set {f g : Nat -> Bool} {i : Nat} (hi : f i = false) (hg : ∀ k, g k = (f k || decide (k = i))) : ∀ {n : Nat}, i < n -> unl g n + 1 = unl f n
 | n + 1, h => by
   simp only [unl, hg n]
   rcases Nat.lt_or_ge i n with hlt | hge
   ·have := unl_set hi hg hlt
    have hne : n ≠ i := by omega
    simp only [hne, decide_false, Bool.or_false]
    omega
   ·obtain rfl : i = n := by omega
    have : ∀ m, m <= i -> unl g m = unl f m := fun m => by
     induction m with
     | zero => intro _; rfl
     | succ m ih =>
       intro hm
       simp only [unl, hg m]
       have hne : m ≠ i := by omega
       simp only [hne, decide_false, Bool.or_false]
       rw [ih (by omega)]
    rw [this i (Nat.le_refl _), hi]
    simp
    omega
theorem unl_zero {f : Nat -> Bool} : ∀ {n : Nat}, unl f n = 0 -> ∀ i, i < n -> f i = true
 | n + 1, h, i, hi => by
   simp only [unl] at h
   rcases Nat.lt_or_ge i n with hlt | hge
   ·exact unl_zero (by omega) i hlt
   ·obtain rfl : i = n := by omega
    cases hf : f i with
    | true => rfl
    | false => rw [hf] at h; simp at h
abbrev Lst (D : Array Bool) (i : Nat) : Prop := D.getD i false = true
theorem ready_mem {D : Array Bool} {i : Nat} (h : i ∈ Region.ready .any all.toArray D) : ∃ o, all[i]? = some o /\ D.getD i true = false /\ ∀ e ∈ o.after.toList, Region.binds .any e = true -> Lst D e.on := by
 unfold Region.ready at h
 rw [List.mem_filter] at h
 obtain ⟨h1, h2⟩ := h
 simp only [List.mem_range, List.size_toArray] at h1
 have ho : all[i]? = some (all[i]'h1) := List.getElem?_eq_getElem _
 simp only [Bool.and_eq_true, Bool.not_eq_true'] at h2
 refine ⟨_, ho, h2.1, fun e he hb => ?_⟩
 have h3 := h2.2
 simp only [List.getElem?_toArray, ho, Option.map_some, Option.getD_some] at h3
 rw [<- Array.all_toList] at h3
 have h4 := List.all_eq_true.1 h3 e he
 simp only [hb, Bool.not_true, Bool.false_or] at h4
 exact h4
theorem mem_ready {D : Array Bool} {i : Nat} {o : Oper} (ho : all[i]? = some o) (hn : D.getD i true = false) (hp : ∀ e ∈ o.after.toList, Region.binds .any e = true -> Lst D e.on) : i ∈ Region.ready .any all.toArray D := by
 unfold Region.ready
 rw [List.mem_filter]
 refine ⟨by simpa using (List.getElem?_eq_some_iff.1 ho).1, ?_⟩
 simp only [Bool.and_eq_true, Bool.not_eq_true', List.getElem?_toArray, ho, Option.map_some, Option.getD_some]
 refine ⟨hn, ?_⟩
 rw [<- Array.all_toList]
 refine List.all_eq_true.2 fun e he => ?_
 cases hb : Region.binds .any e with
 | false => simp
 | true => simp only [Bool.not_true, Bool.false_or]; exact hp e he hb
theorem getD_tf {D : Array Bool} {i : Nat} (h : i < D.size) : D.getD i true = D.getD i false := by
 simp [Array.getD_eq_getD_getElem?, h]
theorem all_listed (hback : Back all) {D : Array Bool} (hsz : D.size = all.length) (h : Region.ready .any all.toArray D = []) : ∀ i, i < all.length -> Lst D i := by
 intro i
 induction i using Nat.strongRecOn with
 | _ i ih =>
   intro hi
   cases hd : D.getD i false with
   | true => exact hd
   | false =>
     have ho : all[i]? = some (all[i]'hi) := List.getElem?_eq_getElem _
     have := mem_ready ho (by rw [getD_tf (by omega)]; exact hd) fun e he hb => ih e.on (hback i _ ho e he hb) (by have := hback i _ ho e he hb; omega)
     rw [h] at this; cases this
theorem put_get (act : Act) (d : Option Tmp) (v : Value) (t : Nat) : (act.put d v).tmps.getD t undef = if d = some t /\ t < act.tmps.size then v else act.tmps.getD t undef := by
 cases d with
 | none => simp [Act.put]
 | some d =>
   simp only [Act.put, Array.getD_eq_getD_getElem?, Array.getElem?_setIfInBounds]
   by_cases hd : d = t
   ·subst hd
    by_cases hlt : d < act.tmps.size <;> simp [hlt]
   ·simp [hd]
theorem lst_set {D : Array Bool} {i k : Nat} (hi : i < D.size) : (D.setIfInBounds i true).getD k false = (D.getD k false || decide (k = i)) := by
 simp only [Array.getD_eq_getD_getElem?, Array.getElem?_setIfInBounds]
 by_cases h : i = k
 ·subst h; simp [hi]
 ·simp [h, Ne.symm h]
end
end Abs
end Go.Proofs.Ytdfdjlijghjdaaa
