/- A part of the proof: no statement of its own. -/
import Derived.Test.YtlacopdaibhkkaaGreatQG2c0e4b1f
import Derived.ChangeKeysEq
import Derived.ProofKit
import Derived.OpenShut
import Derived.Deep.Slices
set_option linter.unusedSimpArgs false
set_option linter.unusedVariables false
namespace Go.Proofs.YtlacopdaibhkkaaGreat
namespace Abs
open Go Go.RowKit
def fieldsKs (rc : TypeId -> Option (List (Option IntKind))) : List Field -> Nat -> Option (List (Option IntKind))
 | [], _ => some []
 | f :: fs, off => (match f.name == "_", Nat.beq f.offset off, rc f.type with
   | false, true, some ks => (match fieldsKs rc fs (off + ks.length) with | some ks' => some (ks ++ ks') | none => none)
   | _, _, _ => none)
def eqKs (P : Program) : Nat -> TypeId -> Option (List (Option IntKind))
 | 0, _ => none
 | d + 1, t => (match P.underlying t with
   | some (.int k) => some [some k]
   | some .bool => some [none]
   | some (.struct fs) => (match P.stoodInHeld t, fieldsKs (eqKs P d) fs.toList 0 with
     | false, some ks => (match Nat.beq (sizeT P t) ks.length with | true => some ks | false => none)
     | _, _ => none)
   | some (.array n e) => (match eqKs P d e with
     | some ks => (match Nat.beq (sizeT P e) ks.length && Nat.beq (sizeT P t) (n * ks.length) with | true => some (List.replicate n ks).flatten | false => none)
     | none => none)
   | _ => none)
inductive Kd : List (Option IntKind) -> List Value -> Prop
 | nil : Kd [] []
 | int (k : IntKind) (n : Int) (ks : List (Option IntKind)) (vs : List Value) (h : Kd ks vs) : Kd (some k :: ks) (.int k n :: vs)
 | bool (b : Bool) (ks : List (Option IntKind)) (vs : List Value) (h : Kd ks vs) : Kd (none :: ks) (.bool b :: vs)
def eq1 : Value -> Value -> Bool
 | .int _ a, .int _ b => a == b
 | .bool a, .bool b => a == b
 | _, _ => false
def eqV : List Value -> List Value -> Bool
 | [], [] => true
 | x :: xs, y :: ys => eq1 x y && eqV xs ys
 | _, _ => false
theorem Kd.len {ks : List (Option IntKind)} {vs : List Value} (h : Kd ks vs) : vs.length = ks.length := by induction h <;> simp [*]
theorem Kd.split {ks ks' : List (Option IntKind)} : ∀ {vs : List Value}, Kd (ks ++ ks') vs -> Kd ks (vs.take ks.length) /\ Kd ks' (vs.drop ks.length) := by
 induction ks with
 | nil => intro vs h; exact ⟨by simpa using Kd.nil, by simpa using h⟩
 | cons k ks ih =>
   intro vs h
   cases h with
   | int k n _ vs h => obtain ⟨h1, h2⟩ := ih h; exact ⟨by simpa using Kd.int k n _ _ h1, by simpa using h2⟩
   | bool b _ vs h => obtain ⟨h1, h2⟩ := ih h; exact ⟨by simpa using Kd.bool b _ _ h1, by simpa using h2⟩
theorem eqV_append : ∀ {a b : List Value} {c d : List Value}, a.length = b.length -> eqV (a ++ c) (b ++ d) = (eqV a b && eqV c d)
 | [], [], c, d, _ => by simp [eqV]
 | x :: a, y :: b, c, d, h => by simp at h; simp [eqV, eqV_append h, Bool.and_assoc]
def mkV (P : Program) (t : TypeId) (l : List Value) : Value := match isAgg P t with | some true => .agg ⟨l⟩ | _ => l.headD undef
section
variable {P : Program}
theorem eqKs_size {d : Nat} {t : TypeId} {ks : List (Option IntKind)} (h : eqKs P d t = some ks) : (isAgg P t = some true /\ sizeT P t = ks.length /\ ∃ i, P.info? t = some i) \/ (isAgg P t = some false /\ ks.length = 1) := by
 cases d with
 | zero => simp [eqKs] at h
 | succ d =>
   unfold eqKs at h
   split at h
   ·rename_i k hu; injection h with h; subst h; exact .inr ⟨by simp [isAgg, hu], rfl⟩
   ·rename_i hu; injection h with h; subst h; exact .inr ⟨by simp [isAgg, hu], rfl⟩
   ·rename_i fs hu
    split at h
    ·split at h
     ·rename_i hs; injection h with h; subst h
      exact .inl ⟨by simp [isAgg, hu], Nat.eq_of_beq_eq_true hs, info_of_underlying hu⟩
     ·cases h
    ·cases h
   ·rename_i n e hu
    split at h
    ·split at h
     ·rename_i ks' _ _ hs
      simp only [Bool.and_eq_true] at hs
      injection h with h; subst h
      refine .inl ⟨by simp [isAgg, hu], ?_, info_of_underlying hu⟩
      rw [Nat.eq_of_beq_eq_true hs.2]
      simp
     ·cases h
    ·cases h
   ·cases h
theorem run_partK {d : Nat} {t : TypeId} {ks : List (Option IntKind)} (h : eqKs P d t = some ks) (w : World) {xs : List Value} {off : Nat} (hk : Kd ks ((xs.drop off).take ks.length)) :
  (part t ⟨xs⟩ off).run P w = .ok (mkV P t ((xs.drop off).take ks.length)) w := by
 rcases eqKs_size h with ⟨h1, h2, i, hi⟩ | ⟨h1, h2⟩
 ·simp [part, run_isAgg h1, run_sizeT hi, mkV, h1, h2]
 ·have hl := hk.len
  rw [h2] at hl
  cases hd : xs.drop off with
  | nil => rw [hd] at hl; simp at hl
  | cons v vs =>
    have hv : xs[off]? = some v := by
     have := congrArg (fun l => l[0]?) hd
     simpa using this
    simp [part, run_isAgg h1, mkV, h1, h2, hv]
theorem fields_eq {d m : Nat} (IH : ∀ (t : TypeId) (ks : List (Option IntKind)), eqKs P d t = some ks -> ∀ (w : World) (vs ws : List Value), Kd ks vs -> Kd ks ws -> (Op.equalIn (m + d) t (mkV P t vs) (mkV P t ws)).run P w = .ok (eqV vs ws) w) (w : World) (xs ys : List Value) :
  ∀ (fs : List Field) (off : Nat) (ks : List (Option IntKind)), fieldsKs (eqKs P d) fs off = some ks -> Kd ks ((xs.drop off).take ks.length) -> Kd ks ((ys.drop off).take ks.length) ->
    (Op.eqFields (m + d) ⟨xs⟩ ⟨ys⟩ fs).run P w = .ok (eqV ((xs.drop off).take ks.length) ((ys.drop off).take ks.length)) w
 | [], off, ks, h, _, _ => by
   unfold fieldsKs at h
   injection h with h; subst h
   simp [Op.eqFields, eqV]
 | f :: fs, off, ks, h, hx, hy => by
   unfold fieldsKs at h
   split at h
   ·rename_i kf hn hoff hks
    split at h
    ·rename_i ks' hrest
     injection h with h; subst h
     have hoff := Nat.eq_of_beq_eq_true hoff
     have e1 : ∀ l : List Value, (l.drop off).take (kf ++ ks').length = (l.drop off).take kf.length ++ (l.drop (off + kf.length)).take ks'.length := fun l => by
      rw [List.length_append, List.take_add, List.drop_drop]
     rw [e1] at hx hy
     obtain ⟨hx1, hx2⟩ := hx.split
     obtain ⟨hy1, hy2⟩ := hy.split
     have hlx := hx.len
     have hly := hy.len
     simp only [List.length_append] at hlx hly
     have hlx1 : ((xs.drop off).take kf.length).length = kf.length := by
      have h1 := List.length_take_le kf.length (xs.drop off)
      have h2 := List.length_take_le ks'.length (xs.drop (off + kf.length))
      omega
     have hly1 : ((ys.drop off).take kf.length).length = kf.length := by
      have h1 := List.length_take_le kf.length (ys.drop off)
      have h2 := List.length_take_le ks'.length (ys.drop (off + kf.length))
      omega
     rw [List.take_left' hlx1] at hx1
     rw [List.drop_left' hlx1] at hx2
     rw [List.take_left' hly1] at hy1
     rw [List.drop_left' hly1] at hy2
     rw [e1, e1, eqV_append (by rw [hlx1, hly1])]
     have hne : f.name ≠ "_" := by simpa using hn
     have ih := fields_eq IH w xs ys fs (off + kf.length) ks' hrest hx2 hy2
     simp only [Op.eqFields, hne, ne_eq, not_false_eq_true, if_true, Sem.run_bind, hoff, run_partK hks w hx1, run_partK hks w hy1, Result.andThen_ok, IH _ _ hks w _ _ hx1 hy1]
     cases eqV ((xs.drop off).take kf.length) ((ys.drop off).take kf.length) with
     | false => simp
     | true => simpa using ih
    ·cases h
   ·cases h
theorem items_eq {d m : Nat} {e : TypeId} {ks : List (Option IntKind)} (hks : eqKs P d e = some ks) (IH : ∀ (w : World) (vs ws : List Value), Kd ks vs -> Kd ks ws -> (Op.equalIn (m + d) e (mkV P e vs) (mkV P e ws)).run P w = .ok (eqV vs ws) w) (w : World) (xs ys : List Value) :
  ∀ (n s : Nat), Kd (List.replicate n ks).flatten ((xs.drop (s * ks.length)).take (n * ks.length)) -> Kd (List.replicate n ks).flatten ((ys.drop (s * ks.length)).take (n * ks.length)) ->
    (Op.eqItems (m + d) e ks.length ⟨xs⟩ ⟨ys⟩ (List.range' s n)).run P w = .ok (eqV ((xs.drop (s * ks.length)).take (n * ks.length)) ((ys.drop (s * ks.length)).take (n * ks.length))) w
 | 0, s, _, _ => by simp [Op.eqItems, eqV]
 | n + 1, s, hx, hy => by
   have e1 : ∀ l : List Value, (l.drop (s * ks.length)).take ((n + 1) * ks.length) = (l.drop (s * ks.length)).take ks.length ++ (l.drop ((s + 1) * ks.length)).take (n * ks.length) := fun l => by
    rw [Nat.add_mul, Nat.one_mul, Nat.add_comm, List.take_add, List.drop_drop, Nat.add_mul, Nat.one_mul]
   rw [e1, List.replicate_succ, List.flatten_cons] at hx hy
   obtain ⟨hx1, hx2⟩ := hx.split
   obtain ⟨hy1, hy2⟩ := hy.split
   have hlx := hx.len
   have hly := hy.len
   have hfl : (List.replicate n ks).flatten.length = n * ks.length := by simp
   simp only [List.length_append, hfl] at hlx hly
   have hlx1 : ((xs.drop (s * ks.length)).take ks.length).length = ks.length := by
    have h1 := List.length_take_le ks.length (xs.drop (s * ks.length))
    have h2 := List.length_take_le (n * ks.length) (xs.drop ((s + 1) * ks.length))
    omega
   have hly1 : ((ys.drop (s * ks.length)).take ks.length).length = ks.length := by
    have h1 := List.length_take_le ks.length (ys.drop (s * ks.length))
    have h2 := List.length_take_le (n * ks.length) (ys.drop ((s + 1) * ks.length))
    omega
   rw [List.take_left' hlx1] at hx1
   rw [List.drop_left' hlx1] at hx2
   rw [List.take_left' hly1] at hy1
   rw [List.drop_left' hly1] at hy2
   rw [e1, e1, eqV_append (by rw [hlx1, hly1]), List.range'_succ]
   have ih := items_eq hks IH w xs ys n (s + 1) hx2 hy2
   simp only [Op.eqItems, Sem.run_bind, run_partK hks w hx1, run_partK hks w hy1, Result.andThen_ok, IH w _ _ hx1 hy1]
   cases eqV ((xs.drop (s * ks.length)).take ks.length) ((ys.drop (s * ks.length)).take ks.length) with
   | false => simp
   | true => simpa using ih
theorem cellsOf_eq {t : TypeId} {i : TypeInfo} (h : P.info? t = some i) : P.cellsOf t = sizeT P t := by simp [Program.cellsOf, sizeT, h]
theorem equalIn_eq (m : Nat) : ∀ (d : Nat) (t : TypeId) (ks : List (Option IntKind)), eqKs P d t = some ks -> ∀ (w : World) (vs ws : List Value), Kd ks vs -> Kd ks ws -> (Op.equalIn (m + d) t (mkV P t vs) (mkV P t ws)).run P w = .ok (eqV vs ws) w := by
 intro d
 induction d with
 | zero => intro t ks h; simp [eqKs] at h
 | succ d ih =>
   intro t ks h w vs ws hv hw
   have hsz := eqKs_size h
   unfold eqKs at h
   split at h
   ·rename_i k hu
    injection h with h; subst h
    cases hv with | int _ a _ _ hv => cases hv
                                      cases hw with | int _ b _ _ hw => cases hw
                                                                        simp only [mkV, isAgg, hu, List.headD_cons, <- Nat.add_assoc]
                                                                        rw [run_equalIn_int w (m + d) t k k a b hu]
                                                                        simp [eqV, eq1]
   ·rename_i hu
    injection h with h; subst h
    cases hv with | bool a _ _ hv => cases hv
                                     cases hw with | bool b _ _ hw => cases hw
                                                                      simp only [mkV, isAgg, hu, List.headD_cons, <- Nat.add_assoc]
                                                                      rw [run_equalIn_bool' w (m + d) t a b hu]
                                                                      simp [eqV, eq1]
   ·rename_i fs hu
    split at h
    ·rename_i ks' hst hf
     split at h
     ·injection h with h; subst h
      have hfs : P.fieldsOf t = fs := by simp [Program.fieldsOf, hu]
      have hag : isAgg P t = some true := by simp [isAgg, hu]
      simp only [mkV, hag, <- Nat.add_assoc]
      rw [run_equalIn_struct w (m + d) t _ _ (by rw [hfs]; exact hu) hst, hfs]
      have e1 : ∀ l : List Value, Kd ks' l -> (l.drop 0).take ks'.length = l := fun l hl => by rw [List.drop_zero, <- hl.len, List.take_length]
      have := fields_eq (m := m) ih w vs ws fs.toList 0 ks' hf (by rw [e1 _ hv]; exact hv) (by rw [e1 _ hw]; exact hw)
      rw [e1 _ hv, e1 _ hw] at this
      exact this
     ·cases h
    ·cases h
   ·rename_i n e hu
    split at h
    ·rename_i ks' hks
     split at h
     ·rename_i hs
      simp only [Bool.and_eq_true] at hs
      injection h with h; subst h
      have hag : isAgg P t = some true := by simp [isAgg, hu]
      have hse := Nat.eq_of_beq_eq_true hs.1
      have hlen : (List.replicate n ks').flatten.length = n * ks'.length := by simp
      simp only [mkV, hag, <- Nat.add_assoc]
      have e1 : ∀ l : List Value, Kd (List.replicate n ks').flatten l -> (l.drop (0 * ks'.length)).take (n * ks'.length) = l := fun l hl => by
       rw [Nat.zero_mul, List.drop_zero, <- hlen, <- hl.len, List.take_length]
      have key := items_eq (m := m) hks (ih e ks' hks) w vs ws n 0 (by rw [e1 _ hv]; exact hv) (by rw [e1 _ hw]; exact hw)
      rw [e1 _ hv, e1 _ hw] at key
      have hie : ∃ i, P.info? e = some i := by
       cases d with
       | zero => simp [eqKs] at hks
       | succ d =>
         unfold eqKs at hks
         cases hue : P.underlying e with
         | none => simp [hue] at hks
         | some _ => exact info_of_underlying hue
      obtain ⟨i, hi⟩ := hie
      rw [run_equalIn_array w (m + d) _ _ hu hi, cellsOf_eq hi, hse, List.range_eq_range']
      exact key
     ·cases h
    ·cases h
   ·cases h
theorem okKs_kd {C : Cx} {w : World} : ∀ {ks : List (Option IntKind)} {l : List AV} {vs : List Value}, okKs ks l = true -> RelL C w l vs -> Kd ks vs
 | [], [], _, _, h => by cases h; exact .nil
 | some k :: ks, a :: l, _, h, hr => by
   simp only [okKs] at h
   cases hr with
   | cons _ _ v vs h0 h1 =>
     split at h
     ·rename_i k' hk
      simp only [Bool.and_eq_true] at h
      have := of_decide_eq_true h.1
      subst this
      rw [kindOf_rel h0 hk]
      exact .int _ _ _ _ (okKs_kd h.2 h1)
     ·cases h
 | none :: ks, a :: l, _, h, hr => by
   simp only [okKs, Bool.and_eq_true] at h
   cases hr with
   | cons _ _ v vs h0 h1 =>
     have : ∃ b, v = .bool b := by
      cases a <;> simp [isBoolV] at h
      ·cases h0; exact ⟨_, rfl⟩
      ·cases h0; exact ⟨_, rfl⟩
     obtain ⟨b, rfl⟩ := this
     exact .bool _ _ _ (okKs_kd h.2 h1)
 | [], _ :: _, _, h, _ => by simp [okKs] at h
 | some _ :: _, [], _, h, _ => by simp [okKs] at h
 | none :: _, [], _, h, _ => by simp [okKs] at h
theorem eqCells_eq {C : Cx} {w : World} : ∀ {l m : List AV} {vs ws : List Value} {r : Bool}, eqCells l m = some r -> RelL C w l vs -> RelL C w m ws -> eqV vs ws = r
 | [], [], _, _, r, h, h1, h2 => by
   cases h1; cases h2
   simp [eqCells] at h; subst h; rfl
 | a :: l, b :: m, _, _, r, h, h1, h2 => by
   cases h1 with
   | cons _ _ x xs h1 h3 =>
   cases h2 with
   | cons _ _ y ys h2 h4 =>
   have one : ∀ r, eqC a b = some r -> eq1 x y = r := fun r he => by
    rcases eqC_rel h1 h2 he with ⟨k, p, q, rfl, rfl, rfl⟩ | ⟨p, q, rfl, rfl, rfl⟩
    ·rfl
    ·rfl
   unfold eqCells at h
   split at h
   ·cases h3; cases h4
    simp [eqV, one _ h]
   ·split at h
    ·rename_i r1 s1 e1 e2
     injection h with h; subst h
     rw [band_eq, eqV, one _ e1, eqCells_eq e2 h3 h4]
    ·cases h
 | [], _ :: _, _, _, r, h, _, _ => by simp [eqCells] at h
 | _ :: _, [], _, _, r, h, _, _ => by simp [eqCells] at h
theorem EqOK.of {t : TypeId} {ks : List (Option IntKind)} (d : Nat) (hd : d <= 10000) (hg : P.eqGuardType P.depth t = false) (ha : isAgg P t = some true) (h : eqKs P d t = some ks) (ht : t < 1048576 := by decide) : EqOK P t ks := by
 refine ⟨fun _ => ⟨hg, fun C w l m vs ws r h1 h2 h3 h4 he => ?_⟩, fun h => absurd (Nat.lt_of_lt_of_le ht h) (Nat.lt_irrefl _)⟩
 have := equalIn_eq (10000 - d) d t ks h w vs ws (okKs_kd h1 h3) (okKs_kd h2 h4)
 rw [show 10000 - d + d = 10000 by omega, eqCells_eq he h3 h4] at this
 simpa [mkV, ha] using this
theorem EqOK.zero {t n : Nat} {z : AV} {ks : List (Option IntKind)} (hb : bigT P t = some (n, z)) (h : ZeroIs P (t, n, z)) : EqOK P (t + 1048576) ks := by
 refine ⟨fun h => absurd h (Nat.not_lt.2 (Nat.le_add_left _ _)), fun _ n' z' hb' => ?_⟩
 rw [Nat.add_sub_cancel] at hb' ⊢
 rw [hb] at hb'
 injection hb' with hb'; injection hb' with e1 e2; subst e1 e2
 exact h
end
end Abs
end Go.Proofs.YtlacopdaibhkkaaGreat

namespace Go.Proofs.YtlacopdaibhkkaaGreat
namespace Abs
open Go Go.RowKit Go.ChangeShapes Go.WideShapes
def fieldsSh (rc : TypeId -> Option (List Sh)) : List Field -> Nat -> Option (List Sh)
 | [], _ => some []
 | f :: fs, off => (match Nat.beq f.offset off, rc f.type with
   | true, some l => (match fieldsSh rc fs (off + l.length) with | some l' => some (l ++ l') | none => none)
   | _, _ => none)
def shOf (P : Program) : Nat -> TypeId -> Option (List Sh)
 | 0, _ => none
 | d + 1, t => (match P.underlying t with
   | some (.int k) => (match Nat.beq (sizeT P t) 1 with | true => some [.int k] | false => none)
   | some .bool => (match Nat.beq (sizeT P t) 1 with | true => some [.bool] | false => none)
   | some (.slice e) => (match shOf P d e with
     | some l => (match Nat.beq (sizeT P t) 1 && cellShL l && Nat.blt 0 l.length with | true => some [.slice l.length l] | false => none)
     | none => none)
   | some (.struct fs) => (match fieldsSh (shOf P d) fs.toList 0 with
     | some l => (match Nat.beq (sizeT P t) l.length with | true => some l | false => none)
     | none => none)
   | some (.array n e) => (match shOf P d e with
     | some l => (match Nat.beq (sizeT P t) (n * l.length) with | true => some (List.replicate n l).flatten | false => none)
     | none => none)
   | _ => none)
def argSh (P : Program) (d : Nat) (t : TypeId) : Option Sh := match shOf P d t with
 | none => none
 | some l => (match isAgg P t with
   | some true => some (.agg l)
   | some false => (match l with | [s] => some s | _ => none)
   | none => none)
def argShs (P : Program) (d : Nat) : List TypeId -> Option (List Sh)
 | [] => some []
 | t :: ts => (match argSh P d t, argShs P d ts with | some s, some l => some (s :: l) | _, _ => none)
mutual
def Valid : (s : Sh) -> Dat s -> Prop
 | .int k, n => InR k n
 | .bool, _ => True
 | .slice _ e, x => x.1 <= maxLen /\ ∀ k, k < x.1 -> ValidL e (x.2 k)
 | .agg l, x => ValidL l x
 | .fn _ a b, x => ValidL a x.1 /\ ValidL b x.2
 | .ptr l, x => ValidL l x
 | .own _ _, _ => True
 | .rowr _, _ => True
 | .any, _ => True
def ValidL : (l : List Sh) -> DatL l -> Prop
 | [], _ => True
 | s :: l, x => Valid s x.1 /\ ValidL l x.2
end
theorem shOf_size {P : Program} {d : Nat} {t : TypeId} {l : List Sh} (h : shOf P d t = some l) : sizeT P t = l.length := by
 cases d with
 | zero => simp [shOf] at h
 | succ d =>
   unfold shOf at h
   split at h
   ·split at h
    ·rename_i hs; injection h with h; subst h; exact Nat.eq_of_beq_eq_true hs
    ·cases h
   ·split at h
    ·rename_i hs; injection h with h; subst h; exact Nat.eq_of_beq_eq_true hs
    ·cases h
   ·split at h
    ·split at h
     ·rename_i hs
      simp only [Bool.and_eq_true] at hs
      injection h with h; subst h; exact Nat.eq_of_beq_eq_true hs.1.1
     ·cases h
    ·cases h
   ·split at h
    ·split at h
     ·rename_i hs; injection h with h; subst h; exact Nat.eq_of_beq_eq_true hs
     ·cases h
    ·cases h
   ·split at h
    ·split at h
     ·rename_i hs; injection h with h; subst h; rw [Nat.eq_of_beq_eq_true hs]; simp
     ·cases h
    ·cases h
   ·cases h
theorem sizeT_cells (P : Program) (t : TypeId) : P.cellsOf t = sizeT P t := by
 unfold Program.cellsOf sizeT
 cases P.info? t <;> rfl
theorem app_data : ∀ (l l' : List Sh) (y : DatL l) (y' : DatL l'), ∃ z : DatL (l ++ l'), encL (l ++ l') z = encL l y ++ encL l' y' /\ (ValidL l y -> ValidL l' y' -> ValidL (l ++ l') z)
 | [], l', y, y' => ⟨y', by simp [encL], fun _ h => h⟩
 | s :: l, l', y, y' => by
   obtain ⟨z, h1, h2⟩ := app_data l l' y.2 y'
   refine ⟨(y.1, z), ?_, ?_⟩
   ·show enc s y.1 :: encL (l ++ l') z = _
    rw [h1]; simp [encL]
   ·intro h h'
    unfold ValidL at h
    show ValidL (s :: (l ++ l')) (y.1, z)
    unfold ValidL
    exact ⟨h.1, h2 h.2 h'⟩
section
variable {H : Type} {enc' : TypeId × Value -> H} {P : Program} {w : World}
def Cx.all (w : World) : Cx := ⟨fun _ => none, fun b => b < w.heap.size, fun _ => none⟩
theorem hr_all (w : World) : HR (Cx.all w) [] w := ⟨fun i p h => by simp [Cx.all] at h, fun i j b c n b' c' n' h => by simp [Cx.all] at h, fun i b c n h => by simp [Cx.all] at h, fun b hb => hb, fun b x h => by simp [Cx.all] at h⟩
theorem choose_fn {α : Type} (d : α) {n : Nat} {p : Nat -> α -> Prop} (h : ∀ i, i < n -> ∃ x, p i x) : ∃ f : Nat -> α, ∀ i, i < n -> p i (f i) := by
 classical
 refine ⟨fun i => if hi : i < n then Classical.choose (h i hi) else d, fun i hi => ?_⟩
 simp only [dif_pos hi]
 exact Classical.choose_spec (h i hi)
theorem read_fields {d : Nat} {base : Nat} {spare : Nat -> Bool} {held : Bool} {cs : List Value}
  (IH : ∀ (fuel : Nat) (t : TypeId) (cs : List Value) (x : DataW H × List MemPlace), DataW.trod enc' P w base spare held fuel t cs = some x -> ∀ l, shOf P d t = some l -> ∃ y : DatL l, RelL (Cx.all w) w (encL l y) cs /\ ValidL l y) :
  ∀ (fs : List Field) (off : Nat) (l : List Sh), fieldsSh (shOf P d) fs off = some l -> (∀ f ∈ fs, ∃ fuel x, DataW.trod enc' P w base spare held fuel f.type ((cs.drop f.offset).take (P.cellsOf f.type)) = some x) ->
    ∃ y : DatL l, RelL (Cx.all w) w (encL l y) ((cs.drop off).take l.length) /\ ValidL l y
 | [], off, l, h, _ => by
   unfold fieldsSh at h
   injection h with h; subst h
   exact ⟨(), by simp [encL]; exact .nil, trivial⟩
 | f :: fs, off, l, h, hx => by
   unfold fieldsSh at h
   split at h
   ·rename_i l1 hoff h1
    split at h
    ·rename_i l2 h2
     injection h with h; subst h
     obtain ⟨fuel, x, hx1⟩ := hx f (by simp)
     rw [sizeT_cells, shOf_size h1, Nat.eq_of_beq_eq_true hoff] at hx1
     obtain ⟨y1, hr1, hv1⟩ := IH _ _ _ _ hx1 l1 h1
     obtain ⟨y2, hr2, hv2⟩ := read_fields IH fs (off + l1.length) l2 h2 (fun g hg => hx g (by simp [hg]))
     obtain ⟨z, hz1, hz2⟩ := app_data l1 l2 y1 y2
     refine ⟨z, ?_, hz2 hv1 hv2⟩
     rw [hz1, List.length_append, List.take_add, List.drop_drop]
     exact hr1.append hr2
    ·cases h
   ·cases h
theorem read_items {d : Nat} {base : Nat} {spare : Nat -> Bool} {held : Bool} {cs : List Value} {e : TypeId} {l : List Sh} (hl : shOf P d e = some l)
  (IH : ∀ (fuel : Nat) (t : TypeId) (cs : List Value) (x : DataW H × List MemPlace), DataW.trod enc' P w base spare held fuel t cs = some x -> ∀ l, shOf P d t = some l -> ∃ y : DatL l, RelL (Cx.all w) w (encL l y) cs /\ ValidL l y) :
  ∀ (n s : Nat), (∀ i, s <= i -> i < s + n -> ∃ fuel x, DataW.trod enc' P w base spare held fuel e ((cs.drop (i * l.length)).take l.length) = some x) ->
    ∃ y : DatL (List.replicate n l).flatten, RelL (Cx.all w) w (encL (List.replicate n l).flatten y) ((cs.drop (s * l.length)).take (n * l.length)) /\ ValidL (List.replicate n l).flatten y
 | 0, s, _ => ⟨(), by simp [encL]; exact .nil, trivial⟩
 | n + 1, s, hx => by
   obtain ⟨fuel, x, hx1⟩ := hx s (Nat.le_refl _) (by omega)
   obtain ⟨y1, hr1, hv1⟩ := IH _ _ _ _ hx1 l hl
   obtain ⟨y2, hr2, hv2⟩ := read_items hl IH n (s + 1) (fun i h1 h2 => hx i (by omega) (by omega))
   obtain ⟨z, hz1, hz2⟩ := app_data l (List.replicate n l).flatten y1 y2
   refine ⟨z, ?_, hz2 hv1 hv2⟩
   show RelL (Cx.all w) w (encL (l ++ (List.replicate n l).flatten) z) _
   rw [hz1, Nat.add_mul, Nat.one_mul, Nat.add_comm (n * l.length), List.take_add, List.drop_drop]
   rw [Nat.add_mul, Nat.one_mul] at hr2
   exact hr1.append hr2
theorem read_cells {base : Nat} {spare : Nat -> Bool} {held : Bool} : ∀ (d : Nat) (fuel : Nat) (t : TypeId) (cs : List Value) (x : DataW H × List MemPlace), DataW.trod enc' P w base spare held fuel t cs = some x ->
  ∀ l, shOf P d t = some l -> ∃ y : DatL l, RelL (Cx.all w) w (encL l y) cs /\ ValidL l y := by
 intro d
 induction d with
 | zero => intro fuel t cs x h l hl; simp [shOf] at hl
 | succ d ih =>
   intro fuel t cs x h l hl
   have hsz := shOf_size hl
   unfold shOf at hl
   split at hl
   ·rename_i k hu
    split at hl
    ·injection hl with hl; subst hl
     obtain ⟨n, rfl, _, hw⟩ := DataW.trod_int hu h
     refine ⟨((n : Int), ()), .cons _ _ _ _ (.si k n) .nil, ?_, trivial⟩
     simp only [Lit.wf, Bool.and_eq_true, decide_eq_true_eq] at hw
     exact hw
    ·cases hl
   ·rename_i hu
    split at hl
    ·injection hl with hl; subst hl
     obtain ⟨b, rfl, _⟩ := DataW.trod_bool hu h
     exact ⟨((b : Bool), ()), .cons _ _ _ _ (.sb b) .nil, trivial, trivial⟩
    ·cases hl
   ·rename_i e hu
    split at hl
    ·rename_i le hle
     split at hl
     ·rename_i hc
      simp only [Bool.and_eq_true] at hc
      injection hl with hl; subst hl
      have hpos : 0 < le.length := by have := Nat.le_of_ble_eq_true (show Nat.ble (0 + 1) le.length = true from hc.2); omega
      have hse : P.cellsOf e = le.length := by rw [sizeT_cells, shOf_size hle]
      rcases Go.Deep.open_slice hu h with ⟨rfl, _⟩ | ⟨a, len, cap, m, n, D, Pl, rfl, hb, hlc, hcm, hm, _, hel⟩
      ·refine ⟨((0, fun _ => decL le []), ()), .cons _ _ _ _ ?_ .nil, ⟨Nat.zero_le _, fun k hk => by simp at hk⟩, trivial⟩
       exact .slc (.sym 0) _ _ none 0 (fun _ => []) (Nat.le_refl _) (fun h => by simp [LN.val] at h) (fun k hk => by simp [LN.val] at hk) (fun k hk => by simp [LN.val] at hk) (fun k hk => by simp [LN.val] at hk)
      ·have hle2 : len <= m := by rw [hm]; split <;> omega
       obtain ⟨f, hf⟩ := choose_fn (decL le [], ([] : List Value)) (n := len) (p := fun i (z : DatL le × List Value) => RelL (Cx.all w) w (encL le z.1) z.2 /\ ValidL le z.1 /\ w.cells? base (a.add (i * le.length)) le.length = some z.2) (fun i hi => by
        obtain ⟨cs', h1, h2⟩ := hel i (by omega)
        rw [hse] at h1
        obtain ⟨y, hr, hv⟩ := ih _ _ _ _ h2 le hle
        exact ⟨(y, cs'), hr, hv, h1⟩)
       refine ⟨((len, fun i => (f i).1), ()), .cons _ _ _ _ ?_ .nil, ⟨by simp only; omega, fun k hk => (hf k hk).2.1⟩, trivial⟩
       refine .slc (.sym len) _ _ (some a) cap (fun i => (f i).2) hlc (fun h0 => ⟨a, rfl, ?_, fun k hk j hj => ?_⟩) (fun k hk => (hf k hk).1) (fun k hk => ?_) (fun k hk => enc_okL hc.1.2)
       ·obtain ⟨_, h1, h2⟩ := World.cells?_some (hf 0 h0).2.2
        have h3 := h2 0 (by omega)
        rw [List.getElem?_eq_getElem (by omega), Nat.zero_mul] at h3
        show a.block < w.heap.size
        rcases Nat.lt_or_ge a.block w.heap.size with h | h
        ·exact h
        ·exfalso
         unfold World.cell? at h3
         rw [add_block, add_block, Array.getElem?_eq_none h] at h3
         simp at h3
       ·obtain ⟨_, h1, h2⟩ := World.cells?_some (hf k hk).2.2
        rw [<- add_add]
        exact h2 j hj
       ·exact (World.cells?_some (hf k hk).2.2).2.1
     ·cases hl
    ·cases hl
   ·rename_i fs hu
    split at hl
    ·rename_i lf hf
     split at hl
     ·injection hl with hl; subst hl
      obtain ⟨xs, n, _, _, hlen, hxl, hx⟩ := DataW.trod_struct hu h
      obtain ⟨y, hr, hv⟩ := read_fields ih fs.toList 0 lf hf (cs := cs) (fun f hfm => by
       obtain ⟨i, hi, hfi⟩ := List.getElem_of_mem hfm
       have h1 := hx i f (by simp at hi; simp [hi]; simpa using hfi)
       have h2 : xs[i]? = some (xs[i]'(by simp at hi; omega)) := List.getElem?_eq_getElem _
       exact ⟨n, _, by rw [h1, h2]⟩)
      refine ⟨y, ?_, hv⟩
      rwa [List.drop_zero, List.take_of_length_le (by rw [hlen, sizeT_cells, hsz]; exact Nat.le_refl _)] at hr
     ·cases hl
    ·cases hl
   ·rename_i n e hu
    split at hl
    ·rename_i le hle
     split at hl
     ·injection hl with hl; subst hl
      obtain ⟨xs, m, _, _, hlen, hxl, hx⟩ := DataW.trod_array hu h
      obtain ⟨y, hr, hv⟩ := read_items (cs := cs) hle ih n 0 (fun i _ hi => by
       have h1 := hx i (by omega)
       rw [sizeT_cells, shOf_size hle] at h1
       exact ⟨m, _, by rw [h1, List.getElem?_eq_getElem (by omega)]⟩)
      refine ⟨y, ?_, hv⟩
      rw [Nat.zero_mul, List.drop_zero, List.take_of_length_le (by rw [hlen, sizeT_cells, hsz]; simp)] at hr
      exact hr
     ·cases hl
    ·cases hl
   ·cases hl
theorem read_arg {d base b0 : Nat} {r : Reach} {spare : Nat -> Bool} {held : Bool} {t : TypeId} {v : Value} {dd : DataW H} {ps : List MemPlace} {s : Sh} (hval : Value.okWide P w r b0 t v) (h : DataW.Trod enc' P w base spare held t v dd ps) (hs : argSh P d t = some s) :
  ∃ y : Dat s, Rel (Cx.all w) w (enc s y) v /\ Valid s y := by
 obtain ⟨fuel, h⟩ := h
 unfold argSh at hs
 split at hs
 ·cases hs
 ·rename_i l hl
  split at hs
  ·rename_i ha
   injection hs with hs; subst hs
   obtain ⟨y, hr, hv⟩ := read_cells d _ _ _ _ h l hl
   have hagg : ∃ cs, v = .agg cs := by
    unfold Value.okWide at hval
    unfold isAgg at ha
    split at ha
    ·rename_i fs hu; rw [hu] at hval; obtain ⟨cs, h1, _⟩ := hval; exact ⟨cs, h1⟩
    ·rename_i n e hu; rw [hu] at hval; obtain ⟨cs, h1, _⟩ := hval; exact ⟨cs, h1⟩
    ·cases ha
    ·cases ha
   obtain ⟨cs, rfl⟩ := hagg
   refine ⟨y, ?_, ?_⟩
   ·unfold enc; exact .agg _ _ hr
   ·unfold Valid; exact hv
  ·split at hs
   ·injection hs with hs; subst hs
    obtain ⟨y, hr, hv⟩ := read_cells d _ _ _ _ h _ hl
    have ha : isAgg P t = some false := by assumption
    have hone : v.cells.toList = [v] := by
     unfold isAgg at ha
     have hsz := shOf_size hl
     cases d with
     | zero => simp [shOf] at hl
     | succ d =>
       unfold shOf at hl
       split at hl
       ·rename_i k hu; obtain ⟨n, h1, _⟩ := DataW.trod_int hu h
        unfold Value.okWide Cell.okWide Cell.ok at hval
        simp only [hu] at hval
        cases v <;> simp at hval <;> rfl
       ·rename_i hu; obtain ⟨n, h1, _⟩ := DataW.trod_bool hu h
        unfold Value.okWide Cell.okWide Cell.ok at hval
        simp only [hu] at hval
        cases v <;> simp at hval <;> rfl
       ·rename_i e hu
        unfold Value.okWide Cell.okWide Cell.ok at hval
        simp only [hu] at hval
        cases v <;> simp at hval <;> rfl
       ·rename_i fs hu; simp [hu] at ha
       ·rename_i n e hu; simp [hu] at ha
       ·cases hl
    rw [hone] at hr
    cases hr with
    | cons _ _ _ _ h1 h2 =>
      unfold ValidL at hv
      exact ⟨y.1, h1, hv.1⟩
   ·cases hs
  ·cases hs
theorem read_all {d base b0 : Nat} {r : Reach} {spare : Nat -> Bool} {held : Bool} : ∀ {ts : List TypeId} {vs : List Value} {ds : List (DataW H)} {ps : List MemPlace} {shs : List Sh}, DataW.TrodAll enc' P w base spare held ts vs ds ps ->
  (∀ (j : Nat) (t : TypeId) (v : Value), ts[j]? = some t -> vs[j]? = some v -> Value.okWide P w r b0 t v) -> argShs P d ts = some shs -> ∃ x : DatL shs, RelL (Cx.all w) w (encL shs x) vs /\ ValidL shs x
 | [], vs, ds, ps, shs, h, _, hs => by
   unfold argShs at hs
   injection hs with hs; subst hs
   obtain ⟨rfl, _, _⟩ := trodAll_nil h
   exact ⟨(), by unfold encL; exact .nil, trivial⟩
 | t :: ts, vs, ds, ps, shs, h, hok, hs => by
   unfold argShs at hs
   split at hs
   ·rename_i s l h1 h2
    injection hs with hs; subst hs
    obtain ⟨v, vs, dd, ds, p, q, rfl, rfl, rfl, h3, h4⟩ := trodAll_cons h
    obtain ⟨y, hr, hv⟩ := read_arg (hok 0 t v rfl rfl) h3 h1
    obtain ⟨x, hrs, hvs⟩ := read_all h4 (fun j t' v' ht hv => hok (j + 1) t' v' (by simpa using ht) (by simpa using hv)) h2
    exact ⟨(y, x), by unfold encL; exact .cons _ _ _ _ hr hrs, by unfold ValidL; exact ⟨hv, hvs⟩⟩
   ·cases hs
end
end Abs
end Go.Proofs.YtlacopdaibhkkaaGreat

namespace Go.Proofs.YtlacopdaibhkkaaGreat
namespace Abs
open Go Go.RowKit Go.ChangeShapes Go.WideShapes
section
variable {H : Type} {enc' : TypeId × Value -> H} {P : Program} {W W' : World}
theorem trodAll_stays (laid : laidOutB P = true) (hb : Below W.heap.size W W') : ∀ {ts : List TypeId} {vs : List Value} {ds : List (DataW H)} {ps : List MemPlace}, (ts.all fun t => P.readableRec t && decide (t < P.types.size)) = true ->
  DataW.TrodAll enc' P W 0 (fun _ => true) true ts vs ds ps -> (∀ x ∈ ps, x.block < W.heap.size) -> DataW.TrodAll enc' P W' 0 (fun b => decide (b < W.heap.size)) true ts vs ds ps
 | [], vs, ds, ps, _, h, _ => by
   obtain ⟨rfl, rfl, rfl⟩ := trodAll_nil h
   exact trodAll_mk0
 | t :: ts, vs, ds, ps, hr, h, hlt => by
   obtain ⟨v, vs, d, ds, p, q, rfl, rfl, rfl, h1, h2⟩ := trodAll_cons h
   simp only [List.all_cons, Bool.and_eq_true, decide_eq_true_eq] at hr
   exact trodAll_cons_mk (Below.trod laid hr.1.1 hr.1.2 h1 hb fun x hx => hlt x (List.mem_append_left _ hx)) (trodAll_stays laid hb hr.2 h2 fun x hx => hlt x (List.mem_append_right _ hx))
theorem trodAll_len : ∀ {ts : List TypeId} {vs : List Value} {ds : List (DataW H)} {ps : List MemPlace} {base : Nat} {sp : Nat -> Bool} {held : Bool}, DataW.TrodAll enc' P W base sp held ts vs ds ps -> ds.length = ts.length
 | [], vs, ds, ps, _, _, _, h => by
   obtain ⟨rfl, rfl, rfl⟩ := trodAll_nil h
   rfl
 | t :: ts, vs, ds, ps, _, _, _, h => by
   obtain ⟨v, vs, d, ds, p, q, rfl, rfl, rfl, h1, h2⟩ := trodAll_cons h
   simp [trodAll_len h2]
theorem law_post {f : Func} {s : ChangeSpec} {tb : TypeId} {apart handsOn fresh : Bool} (laid : laidOutB P = true) (hrt : f.resultTypes = #[tb]) (hub : P.underlying tb = some .bool) (hpar : (f.params.toList.all fun t => P.readableRec t && decide (t < P.types.size)) = true)
  (hsv : s.vars = []) {args : Array Value} {ds gs : List (DataW H)} {before : List MemPlace} (n : Nat) (hn : f.params.toList.length = n) (hsf0 : ∀ ds : List (DataW H), ds.length = n -> (s.fn H ds).results = [.lit (.bool true)] /\ (s.fn H ds).args = ds /\ (s.fn H ds).vars = [])
  (hW : DataW.Whole enc' P f.params.toList s.vars apart W args.toList ds gs before) (hb : Below W.heap.size W W') : s.post enc' P f apart fresh handsOn false W args (.bool true) W' := by
 have hlt := hW.lt
 have hW' := hW
 obtain ⟨p, q, hA, hV, rfl, hfz, hnd⟩ := hW
 have hsf := hsf0 ds ((trodAll_len hA).trans hn)
 rw [hsv] at hV
 obtain ⟨rfl, rfl⟩ := trodVars_none hV
 rw [List.append_nil] at hlt hW'
 refine ⟨ds, [], p, [], p, [], hW', ?_, ?_, ?_, hb.frame _, fun h => by cases h⟩
 ·rw [List.append_nil, hsf.1, hrt]
  exact trodAll_mk1 (shut_bool hub true)
 ·rw [List.append_nil, hsf.2.1]
  exact trodAll_stays laid hb hpar hA hlt
 ·rw [hsv, List.append_nil, hsf.2.2]
  exact rfl
def LawFn (P : Program) (f : FuncId) (shs : List Sh) : Prop := FnSpec P f shs ⟨ValidL shs, fun _ => .sb true⟩
theorem law_calls {f : FuncId} {fn : Func} {shs : List Sh} (hl : LawFn P f shs) {d : Nat} {args : Array Value} {ds : List (DataW H)} {ps : List MemPlace} (hs : argShs P d fn.params.toList = some shs)
  (hA : DataW.TrodAll enc' P W 0 (fun _ => true) true fn.params.toList args.toList ds ps) {r : Reach} {base : Nat} (hval : ∀ (j : Nat) t v, fn.params[j]? = some t -> args[j]? = some v -> Value.okWide P W r base t v) :
  Calls P f args W fun e W' => e = .returned (.bool true) /\ Below W.heap.size W W' := by
 obtain ⟨x, hr, hv⟩ := read_all (d := d) hA (fun j t v ht hv => hval j t v (by simpa using ht) (by simpa using hv)) hs
 have := hl x hv (Cx.all W) W args.toList (fun _ => rfl) (hr_all W) hr
 refine Calls.mono this ?_
 rintro e w' ⟨v, C', he, h1, h2, h3⟩
 cases h2
 exact ⟨he, h3.os, h3.tape, h3.output, h3.size, fun k hk => h3.keep k hk fun i b c n hi => by simp at hi⟩
end
end Abs
end Go.Proofs.YtlacopdaibhkkaaGreat

namespace Go.Proofs.YtlacopdaibhkkaaGreat
namespace Abs
open Go Go.RowKit
def renA (f : Nat -> Nat) : AV -> AV
 | .own i off => .own (f i) off
 | .row i => .row (f i)
 | .agg l => .agg (renL f l)
 | .tup l => .tup (renL f l)
 | .fn g a b => .fn g (renL f a) (renL f b)
 | a => a
where renL (f : Nat -> Nat) : List AV -> List AV
 | [] => []
 | a :: l => renA f a :: renL f l
def okR (p : Nat -> Bool) : AV -> Bool
 | .own i _ => p i
 | .row i => p i
 | .elt _ _ _ _ => false
 | .lsl _ _ _ => false
 | .gd _ _ => false
 | .agg l => okRL p l
 | .tup l => okRL p l
 | .fn _ a b => okRL p a && okRL p b
 | _ => true
where okRL (p : Nat -> Bool) : List AV -> Bool
 | [] => true
 | a :: l => okR p a && okRL p l
noncomputable section
def renA_renLP : {g : (Nat -> Nat) -> List AV -> List AV // renA.renL = g} := ⟨_, by delta renA.renL; rfl⟩
def renA_renLN : (Nat -> Nat) -> List AV -> List AV := renA_renLP.1
theorem renA_renLN_eq : renA_renLN = renA.renL := renA_renLP.2.symm
def renAP : {g : (Nat -> Nat) -> AV -> AV // renA = g} := ⟨_, by delta renA; rfl⟩
def renAN : (Nat -> Nat) -> AV -> AV := renAP.1
theorem renAN_eq : renAN = renA := renAP.2.symm
def okR_okRLP : {g : (Nat -> Bool) -> List AV -> Bool // okR.okRL = g} := ⟨_, by delta okR.okRL; rfl⟩
def okR_okRLN : (Nat -> Bool) -> List AV -> Bool := okR_okRLP.1
theorem okR_okRLN_eq : okR_okRLN = okR.okRL := okR_okRLP.2.symm
def okRP : {g : (Nat -> Bool) -> AV -> Bool // okR = g} := ⟨_, by delta okR; rfl⟩
def okRN : (Nat -> Bool) -> AV -> Bool := okRP.1
theorem okRN_eq : okRN = okR := okRP.2.symm
end
attribute [simp] renA_renLN_eq renAN_eq okR_okRLN_eq okRN_eq
noncomputable section
def renB (f : Nat -> Nat) : Blk -> Blk
 | .cells t l => .cells t (renA_renLN f l)
 | b => b
def okRB (p : Nat -> Bool) : Blk -> Bool
 | .cells _ l => okR_okRLN p l
 | .rows _ _ _ _ _ _ _ _ => false
 | _ => true
def okRH (p : Nat -> Bool) : Heap -> Bool
 | [] => true
 | b :: l => okRB p b && okRH p l
def posD : List Nat -> Nat -> Nat
 | [], _ => 0
 | j :: l, i => (match Nat.beq j i with | true => 0 | false => posD l i + 1)
def nodupB : List Nat -> Bool
 | [] => true
 | j :: l => !(memN j l) && nodupB l
def subH (js : List Nat) (hp : Heap) : List Nat -> Heap
 | [] => []
 | j :: l => renB (posD js) (getB hp j) :: subH js hp l
def okSub (js : List Nat) (hp : Heap) : List Nat -> Bool
 | [] => true
 | j :: l => okRB (fun i => memN i js) (getB hp j) && okSub js hp l
def outN (js : List Nat) (n : Nat) (k : Nat) : Nat := match js[k]? with | some i => i | none => n + (k - js.length)
def putH (js : List Nat) (f : Nat -> Nat) (h1 : Heap) : Nat -> Heap -> Heap
 | _, [] => []
 | i, b :: l => (match memN i js with | true => renB f (getB h1 (posD js i)) | false => b) :: putH js f h1 (i + 1) l
def newH (f : Nat -> Nat) : Nat -> Heap -> Heap
 | _, [] => []
 | 0, b :: l => renB f b :: newH f 0 l
 | m + 1, _ :: l => newH f m l
end
section
variable {P : Program} {S : Sums} {C C' C1 : Cx} {w w' : World} {H hp : Heap}
theorem ren_rel {f : Nat -> Nat} {p : Nat -> Bool} (hρ : ∀ i q, p i = true -> C.ρ i = some q -> C'.ρ (f i) = some q) (hI : ∀ b, C.I b -> C'.I b) {a : AV} {v : Value} (h : Rel C w a v) : okR p a = true -> Rel C' w (renA f a) v := by
 refine Rel.rec (C := C) (w := w) (motive_1 := fun a v _ => okR p a = true -> Rel C' w (renA f a) v) (motive_2 := fun l vs _ => okR.okRL p l = true -> RelL C' w (renA.renL f l) vs)
  ?_ ?_ ?_ ?_ ?_ ?_ ?_ ?_ ?_ ?_ ?_ ?_ ?_ ?_ ?_ ?_ ?_ ?_ ?_ ?_ h
 ·exact fun v _ => .top v
 ·exact fun k a v ho => by simp [okR] at ho
 ·exact fun k n _ => .li k n
 ·exact fun k n _ => .si k n
 ·exact fun b _ => .lb b
 ·exact fun b _ => .sb b
 ·exact fun x _ => .v x
 ·exact fun l vs _ h ho => .agg _ vs (h (by simpa [okR] using ho))
 ·exact fun l vs _ h ho => .tup _ vs (h (by simpa [okR] using ho))
 ·exact fun i off b c n h ho => .own _ _ _ _ _ (hρ _ _ (by simpa [okR] using ho) h)
 ·exact fun i sz k off b c n h hk ho => by simp [okR] at ho
 ·exact fun i b c n h ho => .row _ _ _ _ (hρ _ _ (by simpa [okR] using ho) h)
 ·exact fun i n sz b c m h ho => by simp [okR] at ho
 ·exact fun i h ho => .rown _ (hρ _ _ (by simpa [okR] using ho) h)
 ·intro n sz el A cap vs hcap hA hr hl hn _ _
  exact (Rel.slc n sz el A cap vs hcap hA hr hl hn).change hI rfl
 ·intro l ad vs hr hI' hc hn _ _
  exact (Rel.xp l ad vs hr hI' hc hn).change hI rfl
 ·exact fun g l m vs ws _ _ h h' ho => by
   simp [okR] at ho
   exact .fn _ _ _ vs ws (h ho.1) (h' ho.2)
 ·intro n sz el ad vs hI' hc hr hl hn _ _
  exact (Rel.pa n sz el ad vs hI' hc hr hl hn).change hI rfl
 ·exact fun _ => .nil
 ·exact fun a l v vs _ _ h h' ho => by
   simp [okR.okRL] at ho
   exact .cons _ _ v vs (h ho.1) (h' ho.2)
theorem ren_relL {f : Nat -> Nat} {p : Nat -> Bool} (hρ : ∀ i q, p i = true -> C.ρ i = some q -> C'.ρ (f i) = some q) (hI : ∀ b, C.I b -> C'.I b) : ∀ {l : List AV} {vs : List Value}, RelL C w l vs -> okR.okRL p l = true -> RelL C' w (renA.renL f l) vs
 | _, _, .nil, _ => .nil
 | _, _, .cons a l v vs h h', ho => by
   simp [okR.okRL] at ho
   exact .cons _ _ _ _ (ren_rel hρ hI h ho.1) (ren_relL hρ hI h' ho.2)
theorem ren_brel {f : Nat -> Nat} {p : Nat -> Bool} (hρ : ∀ i q, p i = true -> C.ρ i = some q -> C'.ρ (f i) = some q) (hI : ∀ b, C.I b -> C'.I b) {b : Blk} {q : Pl} (h : BRel C w q b) (ho : okRB p b = true) : BRel C' w q (renB f b) := by
 cases b with
 | dead => cases q <;> exact h.elim
 | cells t l =>
   cases q with
   | nil => exact h.elim
   | «at» x cap n =>
     obtain ⟨vs, hr, hh⟩ := h
     unfold okRB at ho
     rw [okR_okRLN_eq] at ho
     unfold renB
     rw [renA_renLN_eq]
     exact ⟨vs, ren_relL hρ hI hr ho, hh⟩
 | row e sz m el =>
   cases q with
   | nil => exact h
   | «at» x cap n =>
     obtain ⟨h1, h2, h3, cs, vs, hh, hs, hc⟩ := h
     exact ⟨h1, h2, h3, cs, vs, hh, hs, fun k hk => ⟨(hc k hk).1.change hI (own_ok (hc k hk).2.1), (hc k hk).2⟩⟩
 | mat t wd m f =>
   cases q with
   | nil => exact h.elim
   | «at» x cap n =>
     obtain ⟨h1, h2, h3, cs, hh, hs, hc⟩ := h
     exact ⟨h1, h2, h3, cs, hh, hs, fun k hk j hj => by
      obtain ⟨ho, v, hv, hr⟩ := hc k hk j hj
      exact ⟨ho, v, hv, hr.change hI (own_okC ho)⟩⟩
 | rows => unfold okRB at ho; cases ho
theorem pos_mem : ∀ {js : List Nat} {i : Nat}, memN i js = true -> js[posD js i]? = some i
 | [], i, h => by simp [memN] at h
 | j :: l, i, h => by
   unfold memN at h
   unfold posD
   split at h
   ·rename_i e; rw [e]; have := Nat.eq_of_beq_eq_true e; subst this; rfl
   ·rename_i e; rw [e]; simpa using pos_mem h
theorem mem_get : ∀ {js : List Nat} {k i : Nat}, js[k]? = some i -> memN i js = true
 | [], k, i, h => by simp at h
 | j :: l, 0, i, h => by
   simp at h; subst h
   unfold memN; rw [Nat.beq_refl]
 | j :: l, k + 1, i, h => by
   simp at h
   unfold memN
   split
   ·rfl
   ·exact mem_get h
theorem nodup_inj : ∀ {js : List Nat} {k k' i : Nat}, nodupB js = true -> js[k]? = some i -> js[k']? = some i -> k = k'
 | [], k, k', i, _, h, _ => by simp at h
 | j :: l, 0, 0, i, _, _, _ => rfl
 | j :: l, 0, k' + 1, i, hn, h, h' => by
   simp at h h'; subst h
   simp [nodupB, mem_get h'] at hn
 | j :: l, k + 1, 0, i, hn, h, h' => by
   simp at h h'; subst h'
   simp [nodupB, mem_get h] at hn
 | j :: l, k + 1, k' + 1, i, hn, h, h' => by
   simp at h h'
   simp [nodupB] at hn
   rw [nodup_inj hn.2 h h']
theorem getB_sub (js : List Nat) (hp : Heap) : ∀ (l : List Nat) (k i : Nat), l[k]? = some i -> getB (subH js hp l) k = renB (posD js) (getB hp i)
 | [], k, i, h => by simp at h
 | j :: l, 0, i, h => by simp at h; subst h; rfl
 | j :: l, k + 1, i, h => by simp at h; exact getB_sub js hp l k i h
theorem len_sub (js : List Nat) (hp : Heap) : ∀ l : List Nat, (subH js hp l).length = l.length
 | [] => rfl
 | _ :: l => by simp [subH, len_sub js hp l]
theorem ok_sub (js : List Nat) (hp : Heap) : ∀ (l : List Nat) (k i : Nat), okSub js hp l = true -> l[k]? = some i -> okRB (fun i => memN i js) (getB hp i) = true
 | [], k, i, _, h => by simp at h
 | j :: l, 0, i, ho, h => by simp at h; subst h; simp [okSub] at ho; exact ho.1
 | j :: l, k + 1, i, ho, h => by simp at h; simp [okSub] at ho; exact ok_sub js hp l k i ho.2 h
theorem len_put (js : List Nat) (f : Nat -> Nat) (h1 : Heap) : ∀ (i : Nat) (l : Heap), (putH js f h1 i l).length = l.length
 | _, [] => rfl
 | i, _ :: l => by simp [putH, len_put js f h1 (i + 1) l]
theorem getB_put (js : List Nat) (f : Nat -> Nat) (h1 : Heap) : ∀ (i k : Nat) (l : Heap), k < l.length -> getB (putH js f h1 i l) k = (match memN (i + k) js with | true => renB f (getB h1 (posD js (i + k))) | false => getB l k)
 | i, k, [], h => by simp at h
 | i, 0, b :: l, _ => rfl
 | i, k + 1, b :: l, h => by
   have := getB_put js f h1 (i + 1) k l (by simpa using h)
   rw [show i + 1 + k = i + (k + 1) by omega] at this
   exact this
theorem getB_new (f : Nat -> Nat) : ∀ (m k : Nat) (l : Heap), getB (newH f m l) k = renB f (getB l (k + m))
 | m, k, [] => by cases m <;> rfl
 | 0, 0, b :: l => rfl
 | 0, k + 1, b :: l => by have := getB_new f 0 k l; exact this
 | m + 1, k, b :: l => by have := getB_new f m k l; rw [show k + (m + 1) = (k + m) + 1 by omega]; exact this
theorem okRH_get {p : Nat -> Bool} : ∀ {l : Heap} {k : Nat}, okRH p l = true -> okRB p (getB l k) = true
 | [], _, _ => rfl
 | b :: l, 0, h => by simp [okRH] at h; exact h.1
 | b :: l, k + 1, h => by simp [okRH] at h; exact okRH_get (l := l) h.2
theorem Fn.focus {f : FuncId} {args : List AV} {js : List Nat} {res : AV} {h1 : Heap} (hnd : nodupB js = true) (hoa : okR.okRL (fun i => memN i js) args = true) (hoh : okSub js hp js = true)
  (hor : okR (fun _ => true) res = true) (ho1 : okRH (fun _ => true) h1 = true)
  (h : Fn P f (renA.renL (posD js) args) (subH js hp js) res h1) :
  Fn P f args hp (renA (outN js hp.length) res) (putH js (outN js hp.length) h1 0 hp ++ newH (outN js hp.length) js.length h1) := by
 intro C w vs hO hH ha
 have hpos : ∀ i q, memN i js = true -> C.ρ i = some q -> (⟨fun k => match js[k]? with | some i => C.ρ i | none => none, C.I, fun _ => none⟩ : Cx).ρ (posD js i) = some q := fun i q hm hq => by
  simp only [pos_mem hm]; exact hq
 have hC0 : ∀ k q, (⟨fun k => match js[k]? with | some i => C.ρ i | none => none, C.I, fun _ => none⟩ : Cx).ρ k = some q -> ∃ i, js[k]? = some i /\ C.ρ i = some q := fun k q hq => by
  simp only at hq
  split at hq
  ·rename_i i hi; exact ⟨i, hi, hq⟩
  ·cases hq
 have hH0 : HR (⟨fun k => match js[k]? with | some i => C.ρ i | none => none, C.I, fun _ => none⟩ : Cx) (subH js hp js) w := by
  refine ⟨fun k q hq => ?_, fun k k' b c n b' c' n' hq hq' hne => ?_, fun k b c n hq => ?_, hH.ilt, fun b x h => by cases h⟩
  ·obtain ⟨i, hi, hq⟩ := hC0 k q hq
   rw [getB_sub js hp js k i hi]
   exact ren_brel hpos (fun _ h => h) (hH.live i q hq) (ok_sub js hp js k i hoh hi)
  ·obtain ⟨i, hi, hq⟩ := hC0 _ _ hq
   obtain ⟨i', hi', hq'⟩ := hC0 _ _ hq'
   exact hH.inj i i' _ _ _ _ _ _ hq hq' fun e => hne (by subst e; exact nodup_inj hnd hi hi')
  ·obtain ⟨i, hi, hq⟩ := hC0 _ _ hq
   exact hH.fresh _ _ _ _ hq
 refine (h _ w vs (fun _ => rfl) hH0 (ren_relL hpos (fun _ h => h) ha hoa)).mono ?_
 rintro e w' ⟨v, C1, he, h2, h3, h4⟩
 rw [len_sub] at h4
 have hlt : ∀ {i : Nat} {p : Pl}, C.ρ i = some p -> i < hp.length := fun hi => hH.lt hi
 have hkeep : ∀ b, b < w.heap.size -> (∀ i c n, memN i js = true -> C.ρ i ≠ some (.at b c n)) -> w'.heap[b]? = w.heap[b]? := fun b hb hn => h4.keep b hb fun k b' c n hk hq e => by
  subst e
  obtain ⟨i, hi, hq⟩ := hC0 _ _ hq
  exact hn i c n (mem_get hi) hq
 let C' : Cx := ⟨fun i => if i < hp.length then C.ρ i else C1.ρ (i - hp.length + js.length), C1.I, C1.O⟩
 have hρ1 : ∀ k i, js[k]? = some i -> C1.ρ k = C.ρ i := fun k i hi => by
  rw [h4.rho k (List.getElem?_eq_some_iff.1 hi).1]; simp only [hi]
 have hout : ∀ k q, (fun _ : Nat => true) k = true -> C1.ρ k = some q -> C'.ρ (outN js hp.length k) = some q := fun k q _ hq => by
  unfold outN
  cases hk : js[k]? with
  | some i =>
    rw [hρ1 k i hk] at hq
    show (if i < hp.length then C.ρ i else _) = _
    rw [if_pos (hlt hq)]; exact hq
  | none =>
    have := List.getElem?_eq_none_iff.1 hk
    show (if hp.length + (k - js.length) < hp.length then _ else C1.ρ (hp.length + (k - js.length) - hp.length + js.length)) = _
    rw [if_neg (by omega), show hp.length + (k - js.length) - hp.length + js.length = k by omega]; exact hq
 have hx : Cext C w C' w' := ⟨fun i p hi => by show (if i < hp.length then _ else _) = _; rw [if_pos (hlt hi)]; exact hi, fun b hb => h4.imm b hb, fun b hb => hkeep b (hH.ilt b hb) fun i c n _ hq => (hH.fresh _ _ _ _ hq).2 hb⟩
 have hold : ∀ {i : Nat} {q : Pl}, i < hp.length -> C'.ρ i = some q -> C.ρ i = some q := fun hi hq => by
  have hq : (if _ < hp.length then C.ρ _ else C1.ρ _) = some _ := hq
  rwa [if_pos hi] at hq
 have hnew : ∀ {i : Nat} {q : Pl}, ¬ i < hp.length -> C'.ρ i = some q -> C1.ρ (i - hp.length + js.length) = some q := fun hi hq => by
  have hq : (if _ < hp.length then C.ρ _ else C1.ρ _) = some _ := hq
  rwa [if_neg hi] at hq
 have hlen := len_put js (outN js hp.length) h1 0 hp
 refine ⟨v, C', he, ⟨fun i q hi => ?_, fun i j b c n b' c' n' hi hj hne => ?_, fun i b c n hi => ?_, h2.ilt, fun b x hb => ?_⟩, ren_rel hout (fun _ h => h) h3 hor, ?_⟩
 ·by_cases hin : i < hp.length
  ·have hq := hold hin hi
   rw [getB_eq, List.getD_eq_getElem?_getD, List.getElem?_append_left (by omega), <- List.getD_eq_getElem?_getD, <- getB_eq, getB_put _ _ _ _ _ _ hin, Nat.zero_add]
   cases hm : memN i js with
   | true =>
     have hk := pos_mem hm
     have := h2.live (posD js i) q (by rw [hρ1 _ _ hk]; exact hq)
     exact ren_brel hout (fun _ h => h) this (okRH_get ho1)
   | false =>
     refine (hH.live i q hq).mono hx (fun b c n e => ?_) fun b x hb => by rw [hO b] at hb; cases hb
     subst e
     refine hkeep b (hH.fresh _ _ _ _ hq).1 fun j c' n' hj hq' => ?_
     have : i ≠ j := fun e => by subst e; rw [hm] at hj; cases hj
     exact hH.inj _ _ _ _ _ _ _ _ hq hq' this rfl
  ·have hq := hnew hin hi
   rw [getB_eq, List.getD_eq_getElem?_getD, List.getElem?_append_right (by omega), <- List.getD_eq_getElem?_getD, <- getB_eq, hlen, getB_new]
   exact ren_brel hout (fun _ h => h) (h2.live _ q hq) (okRH_get ho1)
 ·by_cases hi' : i < hp.length <;> by_cases hj' : j < hp.length
  ·exact hH.inj _ _ _ _ _ _ _ _ (hold hi' hi) (hold hj' hj) hne
  ·have h5 := (hH.fresh _ _ _ _ (hold hi' hi)).1
   have h6 := h4.own _ _ _ _ (by omega) (hnew hj' hj)
   omega
  ·have h5 := (hH.fresh _ _ _ _ (hold hj' hj)).1
   have h6 := h4.own _ _ _ _ (by omega) (hnew hi' hi)
   omega
  ·exact h2.inj _ _ _ _ _ _ _ _ (hnew hi' hi) (hnew hj' hj) (by omega)
 ·by_cases hi' : i < hp.length
  ·have h5 := hH.fresh _ _ _ _ (hold hi' hi)
   refine ⟨Nat.lt_of_lt_of_le h5.1 h4.size, fun hI => ?_⟩
   rcases h4.imm' b hI with h6 | h6
   ·exact h5.2 h6
   ·omega
  ·exact h2.fresh _ _ _ _ (hnew hi' hi)
 ·obtain ⟨s1, s2, s3, s4⟩ := h2.sub b x hb
  refine ⟨s1, s2, fun i b' c n hi => ?_, s4⟩
  by_cases hi' : i < hp.length
  ·have h5 := hH.fresh _ _ _ _ (hold hi' hi)
   have h6 := h4.sub b x hb
   omega
  ·exact s3 _ _ _ _ (hnew hi' hi)
 ·refine ⟨h4.os, h4.tape, h4.output, h4.size, fun k hk hno => hkeep k hk fun i c n _ hq => ?_, h4.imm, h4.imm', fun i hi => ?_, fun i b c n hi hq => h4.own _ _ _ _ (by omega) (hnew (by omega) hq), h4.sub⟩
  ·exact hno i k c n (hlt hq) hq rfl
  ·show (if i < hp.length then _ else _) = _; rw [if_pos hi]
end
end Abs
end Go.Proofs.YtlacopdaibhkkaaGreat

namespace Go.Proofs.YtlacopdaibhkkaaGreat
namespace Abs
open Go Go.RowKit
inductive OB where
 | cells (t : TypeId) (l : List Sh)
 | row (e : TypeId) (sz : Nat) (l : List Sh)
@[reducible] def DatB : OB -> Type
 | .cells _ l => DatL l
 | .row _ _ l => Nat × (Nat -> DatL l)
@[reducible] def DatH : List OB -> Type
 | [] => Unit
 | b :: l => DatB b × DatH l
def encB : (b : OB) -> DatB b -> Blk
 | .cells t l, x => .cells t (encL l x)
 | .row e sz l, x => .row e sz (.sym x.1) (fun k => encL l (x.2 k))
def encH : (l : List OB) -> DatH l -> Heap
 | [], _ => []
 | b :: l, x => encB b x.1 :: encH l x.2
noncomputable section
def okB : OB -> Blk -> Bool
 | .cells t l, b => (match b with | .cells t' m => Nat.beq t' t && okShLN l m | _ => false)
 | .row e sz l, b => (match b with | .row e' sz' _ _ => Nat.beq e' e && Nat.beq sz' sz && cellShL l | _ => false)
def okHB : List OB -> Heap -> Bool
 | [], h => (match h with | [] => true | _ => false)
 | b :: l, h => (match h with | c :: h => okB b c && okHB l h | [] => false)
def canB : OB -> Blk -> List Cd
 | .cells _ l, b => (match b with | .cells _ m => canShLN l m | _ => [])
 | .row _ _ l, b => (match b with | .row _ _ n el => [⟨CanEl l, (n.val, el)⟩] | _ => [])
def canHB : List OB -> Heap -> List Cd
 | [], _ => []
 | b :: l, h => (match h with | c :: h => appP (canB b c) (canHB l h) | [] => [])
def decB : (b : OB) -> Blk -> DatB b
 | .cells _ l, b => (match b with | .cells _ m => decL l m | _ => decL l [])
 | .row _ _ l, b => (match b with | .row _ _ n el => (n.val, fun k => decL l (el k)) | _ => (0, fun _ => decL l []))
def decH : (l : List OB) -> Heap -> DatH l
 | [], _ => ()
 | b :: l, h => (match h with | c :: h => (decB b c, decH l h) | [] => (decB b .dead, decH l []))
def decBK {β : Type 1} : (b : OB) -> Blk -> (DatB b -> β) -> β
 | .cells _ l, b, f => (match b with | .cells _ m => decKLN l m f | _ => f (decL l []))
 | .row _ _ l, b, f => (match b with | .row _ _ n el => (match n with | .lit n => f (n, fun k => decL l (el k)) | .sym n => f (n, fun k => decL l (el k))) | _ => f (0, fun _ => decL l []))
def decHK {β : Type 1} : (l : List OB) -> Heap -> (DatH l -> β) -> β
 | [], _, f => f ()
 | b :: l, h, f => (match h with | c :: h => decBK b c fun x => decHK l h fun y => f (x, y) | [] => f (decB b .dead, decH l []))
structure SpecF (obs : List OB) (shs : List Sh) where
 pre : DatH obs -> DatL shs -> Prop
 res : DatH obs -> DatL shs -> AV
 after : DatH obs -> DatL shs -> Heap
def FnSpecF (P : Program) (f : FuncId) (obs : List OB) (shs : List Sh) (sp : SpecF obs shs) : Prop :=
 ∀ o x, sp.pre o x -> Fn P f (encL shs x) (encH obs o) (sp.res o x) (sp.after o x)
def refsA : AV -> List Nat
 | .own i _ => [i]
 | .row i => [i]
 | .agg l => refsL l
 | .tup l => refsL l
 | .fn _ a b => refsL a ++ refsL b
 | _ => []
where refsL : List AV -> List Nat
 | [] => []
 | a :: l => refsA a ++ refsL l
def addJ (js : List Nat) : List Nat -> List Nat
 | [] => js
 | i :: l => (match memN i js with | true => addJ js l | false => addJ (js ++ [i]) l)
def refsH (hp : Heap) : List Nat -> List Nat
 | [] => []
 | j :: l => (match getB hp j with | .cells _ m => refsA.refsL m | _ => []) ++ refsH hp l
def forceN {β : Type 1} : List Nat -> (List Nat -> β) -> β
 | [], k => k []
 | a :: l, k => forceN l fun l' => k (a :: l')
def refsA_refsLP : {g : List AV -> List Nat // refsA.refsL = g} := ⟨_, by delta refsA.refsL; rfl⟩
def refsA_refsLN : List AV -> List Nat := refsA_refsLP.1
theorem refsA_refsLN_eq : refsA_refsLN = refsA.refsL := refsA_refsLP.2.symm
def mkSumF (obs : List OB) (shs : List Sh) (sp : SpecF obs shs) : Summ2 := fun args hp =>
 forceN (addJ [] (refsA_refsLN args)) fun j1 => forceN (addJ j1 (refsH hp j1)) fun js =>
 match nodupB js && okR_okRLN (fun i => memN i js) args && okSub js hp js && okHB obs (subH js hp js) && okShLN shs (renA_renLN (posD js) args) with
 | true => decHK obs (subH js hp js) fun o => decKLN shs (renA_renLN (posD js) args) fun x =>
   (match okRN (fun _ => true) (sp.res o x) && okRH (fun _ => true) (sp.after o x) with
   | true => some ⟨appP (canHB obs (subH js hp js)) (appP (canShLN shs (renA_renLN (posD js) args)) [⟨fun z : DatH obs × DatL shs => sp.pre z.1 z.2, (o, x)⟩]),
     renAN (outN js hp.length) (sp.res o x), putH js (outN js hp.length) (sp.after o x) 0 hp ++ newH (outN js hp.length) js.length (sp.after o x)⟩
   | false => none)
 | false => none
end
section
variable {P : Program} {S : Sums} {C C' C1 : Cx} {w w' : World} {H hp : Heap}
theorem forceN_eq {β : Type 1} : ∀ (l : List Nat) (k : List Nat -> β), forceN l k = k l
 | [], _ => rfl
 | a :: l, k => by unfold forceN; rw [forceN_eq l]
theorem decBK_eq {β : Type 1} {b : OB} {c : Blk} {f : DatB b -> β} (h : okB b c = true) : decBK b c f = f (decB b c) := by
 cases b with
 | cells t l =>
   unfold okB at h
   cases c <;> simp only at h <;> first | (cases h; done) | skip
   simp only [okShLN_eq, Bool.and_eq_true] at h
   unfold decBK decB
   exact (decKLN_eq _ _ _).trans (decKL_eq h.2)
 | row e sz l =>
   cases c <;> unfold okB at h <;> simp only at h <;> first | (cases h; done) | skip
   rename_i n _
   unfold decBK decB
   cases n <;> rfl
theorem decHK_eq {β : Type 1} : ∀ {l : List OB} {h : Heap} {f : DatH l -> β}, okHB l h = true -> decHK l h f = f (decH l h)
 | [], _, _, _ => rfl
 | b :: l, [], f, h => by cases h
 | b :: l, c :: h, f, ho => by
   unfold okHB at ho
   simp only [Bool.and_eq_true] at ho
   unfold decHK decH
   simp only
   rw [decBK_eq ho.1, decHK_eq ho.2]
theorem enc_decB {b : OB} {c : Blk} (h : okB b c = true) (hc : ∀ p ∈ canB b c, p.ok) {q : Pl} (hr : BRel C w q c) : BRel C w q (encB b (decB b c)) := by
 cases b with
 | cells t l =>
   unfold okB at h
   cases c <;> simp only at h <;> first | (cases h; done) | skip
   simp only [okShLN_eq, Bool.and_eq_true] at h
   unfold canB at hc
   simp only [canShLN_eq] at hc
   obtain rfl := Nat.eq_of_beq_eq_true h.1
   unfold encB decB
   cases q with
   | nil => exact hr.elim
   | «at» x cap n =>
     obtain ⟨vs, h1, h2⟩ := hr
     exact ⟨vs, encL_dec (can_shL h.2 hc) h1, h2⟩
 | row e sz l =>
   cases c <;> unfold okB at h <;> simp only at h <;> first | (cases h; done) | skip
   rename_i e' sz' n el
   simp only [Bool.and_eq_true] at h
   obtain rfl := Nat.eq_of_beq_eq_true h.1.1
   obtain rfl := Nat.eq_of_beq_eq_true h.1.2
   unfold encB decB
   have hcan : CanEl l (n.val, el) := hc ⟨CanEl l, (n.val, el)⟩ (by unfold canB; exact List.mem_singleton.2 rfl)
   cases q with
   | nil => exact hr
   | «at» x cap m =>
     obtain ⟨h1, h2, h3, cs, vs, hh, hs, hcl⟩ := hr
     exact ⟨h1, h2, h3, cs, vs, hh, hs, fun k hk => ⟨encL_dec (hcan k (by rw [h1]; exact hk)) (hcl k hk).1, enc_okL h.2, (hcl k hk).2.2⟩⟩
theorem enc_decH : ∀ {l : List OB} {h : Heap}, okHB l h = true -> (∀ p ∈ canHB l h, p.ok) -> ∀ (i : Nat) {q : Pl}, BRel C w q (getB h i) -> BRel C w q (getB (encH l (decH l h)) i)
 | [], [], _, _, i, q, hr => by cases q <;> exact hr.elim
 | [], _ :: _, h, _, _, _, _ => by cases h
 | b :: l, [], h, _, _, _, _ => by cases h
 | b :: l, c :: h, ho, hc, i, q, hr => by
   unfold okHB at ho
   simp only [Bool.and_eq_true] at ho
   obtain ⟨h1, h2⟩ := appP_mem (l := canB b c) (m := canHB l h) fun p hp => hc p (by unfold canHB; exact hp)
   cases i with
   | zero => exact enc_decB ho.1 h1 hr
   | succ i => exact enc_decH ho.2 h2 i hr
theorem len_encH : ∀ {l : List OB} {h : Heap}, okHB l h = true -> (encH l (decH l h)).length = h.length
 | [], [], _ => rfl
 | [], _ :: _, h => by cases h
 | b :: l, [], h => by cases h
 | b :: l, c :: h, ho => by
   unfold okHB at ho
   simp only [Bool.and_eq_true] at ho
   unfold encH decH
   simp [len_encH ho.2]
theorem Fn.weakenH {f : FuncId} {args : List AV} {H0 : Heap} {r : AV} {H' : Heap} (h : Fn P f args H0 r H') (hl : H0.length = H.length) (hw : ∀ (C : Cx) (w : World) (i : Nat) (q : Pl), BRel C w q (getB H i) -> BRel C w q (getB H0 i)) : Fn P f args H r H' :=
 fun C w vs hO hH ha => (h C w vs hO ⟨fun i q hi => hw C w i q (hH.live i q hi), hH.inj, hH.fresh, hH.ilt, hH.sub⟩ ha).mono fun _e _w' ⟨v, C', h1, h2, h3, h4⟩ => ⟨v, C', h1, h2, h3, hl ▸ h4⟩
def Summ2OK (P : Program) (f : FuncId) (s : Summ2) : Prop := ∀ args hp pre res hp', s args hp = some ⟨pre, res, hp'⟩ -> (∀ p ∈ pre, p.ok) -> Fn P f args hp res hp'
theorem mkSumF_ok {f : FuncId} {obs : List OB} {shs : List Sh} {sp : SpecF obs shs} (h : FnSpecF P f obs shs sp) : Summ2OK P f (mkSumF obs shs sp) := by
 intro args hp pre res hp' hm hpre
 unfold mkSumF at hm
 simp only [okShLN_eq, decKLN_eq, canShLN_eq, okR_okRLN_eq, okRN_eq, renA_renLN_eq, renAN_eq, refsA_refsLN_eq] at hm
 rw [forceN_eq, forceN_eq] at hm
 generalize addJ (addJ [] (refsA.refsL args)) (refsH hp (addJ [] (refsA.refsL args))) = js at hm
 split at hm
 ·rename_i hok
  simp only [Bool.and_eq_true] at hok
  obtain ⟨⟨⟨⟨h1, h2⟩, h3⟩, h4⟩, h5⟩ := hok
  rw [decHK_eq h4, decKL_eq h5] at hm
  split at hm
  ·rename_i h6
   simp only [Bool.and_eq_true] at h6
   injection hm with hm; injection hm with e1 e2 e3
   subst e1 e2 e3
   obtain ⟨h7, h8⟩ := appP_mem hpre
   obtain ⟨h9, h10⟩ := appP_mem h8
   have := h _ _ (h10 _ (List.mem_singleton.2 rfl))
   refine Fn.focus h1 h2 h3 h6.1 h6.2 ?_
   exact (this.weakenH (len_encH h4) fun C w i q => enc_decH h4 h7 i).weaken fun C w vs ha => encL_dec (can_shL h5 h9) ha
  ·cases hm
 ·cases hm
theorem SumsOK.addTwo {one : List (Nat × Summ)} {two : List (Nat × Summ2)} {lo : Nat} {eqs : List (Nat × List (Option IntKind))} {its : List (Nat × Iter)} {imm : List Nat} (hS : SumsOK P ⟨one, two, lo, eqs, its, imm⟩) {f : FuncId} {fn : Func} (hf : P.funcs[f]? = some fn) (hn : (fn.name == "runtime.NumGoroutine") = false) (hb : fn.body.isNone = false)
  {s : Summ2} (h : Summ2OK P f s) : SumsOK P ⟨one, (f, s) :: two, lo, eqs, its, imm⟩ := by
 refine ⟨hS.one, fun g s1 hg => ?_, hS.eqs, hS.bodyOne, fun g s1 hg => ?_, hS.its⟩
 ·simp only [findS] at hg
  split at hg
  ·rename_i e
   injection hg with hg; subst hg
   obtain rfl := Nat.eq_of_beq_eq_true e
   exact h
  ·exact hS.two g s1 hg
 ·simp only [findS] at hg
  split at hg
  ·rename_i e
   obtain rfl := Nat.eq_of_beq_eq_true e
   exact ⟨fn, hf, hn, hb⟩
  ·exact hS.bodyTwo g s1 hg
theorem SumsOK.setLo {one : List (Nat × Summ)} {two : List (Nat × Summ2)} {lo : Nat} {eqs : List (Nat × List (Option IntKind))} {its : List (Nat × Iter)} {imm : List Nat} (hS : SumsOK P ⟨one, two, lo, eqs, its, imm⟩) (n : Nat) : SumsOK P ⟨one, two, n, eqs, its, imm⟩ :=
 ⟨hS.one, hS.two, hS.eqs, hS.bodyOne, hS.bodyTwo, hS.its⟩
theorem SumsOK.setImm {one : List (Nat × Summ)} {two : List (Nat × Summ2)} {lo : Nat} {eqs : List (Nat × List (Option IntKind))} {its : List (Nat × Iter)} {imm : List Nat} (hS : SumsOK P ⟨one, two, lo, eqs, its, imm⟩) (l : List Nat) : SumsOK P ⟨one, two, lo, eqs, its, l⟩ :=
 ⟨hS.one, hS.two, hS.eqs, hS.bodyOne, hS.bodyTwo, hS.its⟩
theorem SumsOK.setEqs {one : List (Nat × Summ)} {two : List (Nat × Summ2)} {lo : Nat} {eqs eqs' : List (Nat × List (Option IntKind))} {its : List (Nat × Iter)} {imm : List Nat} (hS : SumsOK P ⟨one, two, lo, eqs, its, imm⟩) (h : ∀ t ks, findS eqs' t = some ks -> EqOK P t ks) : SumsOK P ⟨one, two, lo, eqs', its, imm⟩ :=
 ⟨hS.one, hS.two, h, hS.bodyOne, hS.bodyTwo, hS.its⟩
theorem encH_len : ∀ {l : List OB} {x : DatH l}, (encH l x).length = l.length
 | [], _ => rfl
 | b :: l, x => by simp [encH, encH_len]
theorem FnSpecF.of {one : List (Nat × Summ)} {two : List (Nat × Summ2)} {lo : Nat} {eqs : List (Nat × List (Option IntKind))} {its : List (Nat × Iter)} {imm : List Nat} (hS : SumsOK P ⟨one, two, lo, eqs, its, imm⟩) (hm : P.follows .mixedOrders = true) {obs : List OB} {shs : List Sh} {U : Nat} {I : DatH obs -> DatL shs -> Anns} {f : FuncId} {fn : Func} {c : Code} (hf : P.funcs[f]? = some fn) (hb : fn.body = some c) (hok : codeOK c = true) {sp : SpecF obs shs}
  (hany : noAny shs = true) (hn : shs.length <= fn.ntmps) (h : ∀ o x, sp.pre o x -> FnSat P ⟨one, two, obs.length, eqs, its, imm⟩ U (I o x) fn (encL shs x) (encH obs o) (sp.res o x) (sp.after o x)) : FnSpecF P f obs shs sp :=
 fun o x hx => Fn.of (hS.setLo obs.length) hm hf hb hok (by rw [encH_len]) (encL_ng hany) (by rw [encL_len]; exact hn) (h o x hx)
end
end Abs
end Go.Proofs.YtlacopdaibhkkaaGreat
