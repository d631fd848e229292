/- A part of the proof: no statement of its own. -/
import Derived.Test.YtlabbaglbcmofaaGreatQG6bd91f35
set_option linter.unusedSimpArgs false
set_option linter.unusedVariables false
namespace Go.Proofs.YtlabbaglbcmofaaGreat
namespace Abs
open Go Go.RowKit
theorem nb_box {c : Cel} {lo hi bl bh : Nat -> Int} {a b u v : Int} (h : ChkOK c 7 lo hi 5 bl bh) (hI : insV (-1048576) a b 1048576 = true) (hU : insV 0 u v 400000 = true) (hf : farB (widV c lo hi 5 bl bh) a b = true) :
  BoxOK (nbL (widV c lo hi 5 bl bh) a b u v) (nbH (widV c lo hi 5 bl bh) a b u v) := by
 obtain ⟨i0, i1, i2⟩ := insV_iff.1 hI
 obtain ⟨j0, j1, j2⟩ := insV_iff.1 hU
 let s : Sta := ⟨bl 0, bl 1, bl 2, bl 3, bl 4⟩
 have sv : ∀ k, k < 5 -> stV s k = bl k := fun k hk => by
  have : k = 0 \/ k = 1 \/ k = 2 \/ k = 3 \/ k = 4 := by omega
  obtain ⟨e0, e1, e2, e3, e4⟩ := stV_n s
  rcases this with rfl | rfl | rfl | rfl | rfl
  ·rw [e0]; exact Sta.q_mk _ _ _ _ _
  ·rw [e1]; exact Sta.rx_mk _ _ _ _ _
  ·rw [e2]; exact Sta.tp_mk _ _ _ _ _
  ·rw [e3]; exact Sta.th_mk _ _ _ _ _
  ·rw [e4]; exact Sta.ag_mk _ _ _ _ _
 have bx := h.bx
 have p : Part lo hi lo lo bl bh (stV s) (stV s) := by
  refine ⟨fun k hk => ⟨Int.le_refl _, Int.le_refl _, ?_⟩, fun k hk => ?_⟩
  ·have := spanOK_iff.1 (h.le k hk); omega
  ·rw [sv k hk]
   refine ⟨Int.le_refl _, Int.le_refl _, ?_⟩
   have : k = 0 \/ k = 1 \/ k = 2 \/ k = 3 \/ k = 4 := by omega
   rcases this with rfl | rfl | rfl | rfl | rfl
   ·exact bx.q1
   ·exact bx.x1
   ·exact bx.t1
   ·exact bx.h1
   ·exact bx.a1
 refine next_box (w := nbL (widV c lo lo 5 (stV s) (stV s)) a a u u) (wid_of h) hI hf fun k hk => ?_
 have w := nb_sub (part_sub p h) (wid_of (part_chk p h)) (wid_of h) (Int.le_refl a) (Int.le_refl a) i1 hI (Int.le_refl u) j1 k hk
 have e : nbL (widV c lo lo 5 (stV s) (stV s)) a a u u k = nbH (widV c lo lo 5 (stV s) (stV s)) a a u u k := by
  rw [pt_wid, (pt_next _ _ _ _ k hk).1, (pt_next _ _ _ _ k hk).2]
 exact ⟨w.1, e ▸ w.2⟩
end Abs
end Go.Proofs.YtlabbaglbcmofaaGreat

namespace Go.Proofs.YtlabbaglbcmofaaGreat
namespace Abs
open Go Go.RowKit
noncomputable section
attribute [local irreducible] FnSat decL
def nwP (w : Wt) (l h : Nat -> Int) : Nat -> (Nat -> Int) × (Nat -> Int)
 | 0 => (l, h)
 | g + 1 => (nbL (widV w.cel w.tl w.th 5 (nwP w l h g).1 (nwP w l h g).2) w.cl w.ch w.al w.ah, nbH (widV w.cel w.tl w.th 5 (nwP w l h g).1 (nwP w l h g).2) w.cl w.ch w.al w.ah)
@[irreducible] def nwL (w : Wt) (l h : Nat -> Int) (g : Nat) : Nat -> Int := (nwP w l h g).1
@[irreducible] def nwH (w : Wt) (l h : Nat -> Int) (g : Nat) : Nat -> Int := (nwP w l h g).2
theorem nwL_0 (w : Wt) (l h : Nat -> Int) : nwL w l h 0 = l := by unfold nwL; rfl
theorem nwH_0 (w : Wt) (l h : Nat -> Int) : nwH w l h 0 = h := by unfold nwH; rfl
theorem nwL_s (w : Wt) (l h : Nat -> Int) (g : Nat) : nwL w l h (g + 1) = nbL (widV w.cel w.tl w.th 5 (nwL w l h g) (nwH w l h g)) w.cl w.ch w.al w.ah := by unfold nwL nwH; rfl
theorem nwH_s (w : Wt) (l h : Nat -> Int) (g : Nat) : nwH w l h (g + 1) = nbH (widV w.cel w.tl w.th 5 (nwL w l h g) (nwH w l h g)) w.cl w.ch w.al w.ah := by unfold nwL nwH; rfl
def nwA (w : Wt) (l h : Nat -> Int) : Nat -> Bool
 | 0 => true
 | g + 1 => nwA w l h g && farB (widV w.cel w.tl w.th 5 (nwL w l h g) (nwH w l h g)) w.cl w.ch
@[irreducible] def nwB (w : Wt) (l h : Nat -> Int) (g : Nat) : Bool := nwA w l h g
theorem nwB_0 (w : Wt) (l h : Nat -> Int) : nwB w l h 0 = true := by unfold nwB; rfl
theorem nwB_s (w : Wt) (l h : Nat -> Int) (g : Nat) : nwB w l h (g + 1) = (nwB w l h g && farB (widV w.cel w.tl w.th 5 (nwL w l h g) (nwH w l h g)) w.cl w.ch) := by unfold nwB; rfl
theorem nwB_no {w : Wt} {l h : Nat -> Int} {g : Nat} (hg : nwB w l h (g + 1) = false) : ∀ d, nwB w l h (g + 1 + d) = false
 | 0 => hg
 | d + 1 => by rw [<- Nat.add_assoc, nwB_s, nwB_no hg d]; rfl
theorem nw_chk {e : Ew} (hk : EwOK e) : ∀ g, nwB e.w e.l e.h g = true -> ChkOK e.w.cel e.w.tn e.w.tl e.w.th 5 (nwL e.w e.l e.h g) (nwH e.w e.l e.h g)
 | 0, _ => by rw [nwL_0, nwH_0]; have := hk.chk; rwa [ew_five hk] at this
 | g + 1, h => by
   rw [nwB_s, Bool.and_eq_true] at h
   have hc := nw_chk hk g h.1
   obtain ⟨_, _, _, g3, g4, _⟩ := wcB_iff.1 hk.wat
   have hn := hc.n
   have hc' := hc
   rw [hn] at hc'
   rw [nwL_s, nwH_s]
   exact ⟨hc.cel, hc.n, rfl, hc.cl, hc.ch, hc.le, nb_box hc' g3 g4 h.2⟩
@[irreducible] def nowE (e : Ew) : Int := if nwB e.w e.l e.h (nat e.w.dly) = true then 0 else 4
@[irreducible] def nowN (e : Ew) : Nat := if nwB e.w e.l e.h (nat e.w.dly) = true then e.n else 0
@[irreducible] def nowL (e : Ew) : Nat -> Int := nwL e.w e.l e.h (nat e.w.dly)
@[irreducible] def nowH (e : Ew) : Nat -> Int := nwH e.w e.l e.h (nat e.w.dly)
theorem now_yes {e : Ew} (h : nwB e.w e.l e.h e.w.dly.toNat = true) : nowE e = 0 /\ nowN e = e.n := by unfold nowE nowN nat; rw [h]; exact ⟨rfl, rfl⟩
theorem now_no {e : Ew} (h : nwB e.w e.l e.h e.w.dly.toNat = false) : nowE e = 4 /\ nowN e = 0 := by unfold nowE nowN nat; rw [h]; exact ⟨rfl, rfl⟩
theorem now_step {e : Ew} (hk : EwOK e) {g : Nat} (hb : nwB e.w e.l e.h g = true) (hlt : (g : Int) < e.w.dly) {il ih : Nat -> Int} (i0 : il 0 = e.w.cl) (i1 : ih 0 = e.w.ch) (i2 : il 1 = e.w.al) (i3 : ih 1 = e.w.ah) :
  (¬ sbE e.w.cel e.w.tn e.w.tl e.w.th e.n (nwL e.w e.l e.h g) (nwH e.w e.l e.h g) 2 il ih = 0 -> nowN e = 0 /\ sbE e.w.cel e.w.tn e.w.tl e.w.th e.n (nwL e.w e.l e.h g) (nwH e.w e.l e.h g) 2 il ih = nowE e) /\ (sbE e.w.cel e.w.tn e.w.tl e.w.th e.n (nwL e.w e.l e.h g) (nwH e.w e.l e.h g) 2 il ih = 0 -> -9223372036854775808 <= (g : Int) + 1 /\ (g : Int) + 1 <= 9223372036854775807 /\
   ∃ g1, g1 <= e.w.dly.toNat /\ nwB e.w e.l e.h g1 = true /\ e.w.dly.toNat - g1 < e.w.dly.toNat - g /\ sbN (sbE e.w.cel e.w.tn e.w.tl e.w.th e.n (nwL e.w e.l e.h g) (nwH e.w e.l e.h g) 2 il ih) = e.n /\
     (∀ j : Nat, j < e.n -> nbL (widV e.w.cel e.w.tl e.w.th e.n (nwL e.w e.l e.h g) (nwH e.w e.l e.h g)) e.w.cl e.w.ch e.w.al e.w.ah j = nwL e.w e.l e.h g1 j /\ nbH (widV e.w.cel e.w.tl e.w.th e.n (nwL e.w e.l e.h g) (nwH e.w e.l e.h g)) e.w.cl e.w.ch e.w.al e.w.ah j = nwH e.w e.l e.h g1 j) /\ (g : Int) + 1 = (g1 : Int)) := by
 have h5 := ew_five hk
 have hc := nw_chk hk g hb
 obtain ⟨_, d0, d1, g3, g4, _⟩ := wcB_iff.1 hk.wat
 have hS := sbE_far (il := il) (ih := ih) hc (by rw [i0, i1]; exact g3) (by rw [i2, i3]; exact g4)
 rw [i0, i1, <- h5] at hS
 rw [hS]
 cases hf : farB (widV e.w.cel e.w.tl e.w.th e.n (nwL e.w e.l e.h g) (nwH e.w e.l e.h g)) e.w.cl e.w.ch with
 | true =>
   refine ⟨fun h => absurd rfl h, fun _ => ⟨by omega, by omega, g + 1, by omega, ?_, by omega, ?_, fun j _ => ?_, by omega⟩⟩
   ·rw [nwB_s, hb, <- h5, hf]; rfl
   ·rw [if_pos rfl, sbN_5 rfl, h5]
   ·rw [nwL_s, nwH_s, <- h5]; exact ⟨rfl, rfl⟩
 | false =>
   refine ⟨fun _ => ?_, fun h => by simp at h⟩
   have h1 : nwB e.w e.l e.h (g + 1) = false := by rw [nwB_s, hb, <- h5, hf]; rfl
   have h2 := nwB_no h1 (e.w.dly.toNat - (g + 1))
   rw [show g + 1 + (e.w.dly.toNat - (g + 1)) = e.w.dly.toNat by omega] at h2
   obtain ⟨n1, n2⟩ := now_no h2
   rw [n1, n2]
   exact ⟨rfl, rfl⟩
def nowS : Spec [.ptr ewCells] := ⟨fun ((m, x), _) => m = true /\ EwOK (ewOf x), fun ((_, x), _) => .tup [.slc (.sym (nowN (ewOf x))) 2 (fun k => [.si .i64 (nowL (ewOf x) k), .si .i64 (nowH (ewOf x) k)]), .si .i64 (nowE (ewOf x))]⟩
noncomputable def Svq : Sums := ⟨(22, mkSum _ sbS) :: Svd.one, Svd.two, Svd.lo, Svd.eqs, Svd.its, Svd.imm⟩
theorem Svq_ok : SumsOK Tryz.prog Svq := (Svd_ok.cons Tryz.func22 (by kernel_rfl) (by kernel_rfl) sb_ok)
def nowI : DatL [.ptr ewCells] -> Anns := fun ((_, x), _) =>
 [(5, [], fun fr hp => ⟨Nat, fun g => ⟨frI [.k 4, .s (.slc (.sym (ewOf x).n) 2 (fun k => [.si .i64 (nwL (ewOf x).w (ewOf x).l (ewOf x).h g k), .si .i64 (nwH (ewOf x).w (ewOf x).l (ewOf x).h g k)])), .t 2, .k 13, .s (.si .i64 (icast g)), .t 33] fr, hp⟩,
  Nat × Nat × Bool, fun g => (g, nat (ewOf x).w.dly, nwB (ewOf x).w (ewOf x).l (ewOf x).h g), fun (g, d, b) => g <= d /\ b = true, fun g => nsub (nat (ewOf x).w.dly) g⟩)]
set_option maxRecDepth 100000 in
set_option maxHeartbeats 4000000 in
theorem now_ok : FnSpec Tryz.prog 35 _ nowS := by
 refine FnSpec.of Svq_ok mixed (U := 0) (I := nowI) Tryz.func35 rfl (by kernel_rfl) rfl rfl (by decide +kernel) ?_
 rintro ⟨⟨m, x⟩, ⟨⟩⟩ hpre
 obtain ⟨e, rfl⟩ := ew_ex x
 have hpre : m = true /\ EwOK e := by have : m = true /\ EwOK (ewOf (ewD e)) := hpre; rwa [ewOf_D] at this
 obtain ⟨rfl, hk⟩ := hpre
 unfold FnSat
 conv => arg 2; reduce
 simp [-Bool.forall_bool, decL_cons, dec_int, nowS, valW, cspS, sbS, ElEq, getB, goneB, aliveB, VC.sat, and_assoc]
 have h5 := ew_five hk
 have hLk : e.w.tn <= maxLen := by rw [hk.chk.n]; unfold maxLen; omega
 obtain ⟨d0, d1, d2, d3⟩ := dec_r4 e.w.cl e.w.ch e.w.al e.w.ah
 obtain ⟨_, w0, w1, _⟩ := wcB_iff.1 hk.wat
 refine ⟨by omega, ⟨0, by omega, nwB_0 _ _ _, fun j _ => by rw [nwL_0, nwH_0]; exact ⟨rfl, rfl⟩, rfl⟩, fun g hg hb => ⟨fun hlt => ⟨fun k hk2 => ?_, hk.big, hLk, by rw [h5]; unfold maxLen; omega, by unfold maxLen; omega, now_step hk hb hlt d0 d1 d2 d3⟩, fun hle => ?_⟩⟩
 ·have : k = 0 \/ k = 1 := by omega
  rcases this with rfl | rfl <;> first | exact ⟨trivial, trivial, trivial⟩ | trivial | simp [rowAt, CanL, CanSh]
 ·have e1 : g = e.w.dly.toNat := by omega
  subst e1
  obtain ⟨n1, n2⟩ := now_yes hb
  rw [n1, n2]
  refine ⟨rfl, fun j _ => ?_, rfl⟩
  unfold nowL nowH nat
  exact ⟨rfl, rfl⟩
end
end Abs
end Go.Proofs.YtlabbaglbcmofaaGreat

namespace Go.Proofs.YtlabbaglbcmofaaGreat
namespace Abs
open Go Go.RowKit
noncomputable section
attribute [local irreducible] FnSat
theorem wv_mono {x : Wid} {i j : Int} (hx : WidOK x) (h : i <= j) : wvL x j j <= wvL x i i := by
 have m1 := Int.mul_le_mul_of_nonneg_right h hx.r0
 have m2 := Int.mul_le_mul_of_nonneg_right h hx.s0
 have p : prH i i x.rl x.rh <= prH j j x.rl x.rh := by unfold prH; omega
 have d := dvI_mono (d := 1000) (by decide) p
 unfold wvL
 omega
theorem wt_mono {x : Wid} {i j u v : Int} (hx : WidOK x) (h0 : 0 <= i) (h : i <= j) : wtH x i i u v <= wtH x j j u v := by
 have m := Int.mul_le_mul_of_nonneg_right (sq_mono h0 h) hx.s0
 have d := dvI_mono (d := 1000000000) (by decide) m
 have e : whH x i i <= whH x j j := by
  unfold whH
  rw [(sq_one i).2, (sq_one j).2]
  omega
 have hk := celB_iff.1 hx.lo
 have d2 := dvI_mono (d := x.lo.hcap) hk.hc0 (show 1000 * whH x i i <= 1000 * whH x j j by omega)
 unfold wtH
 exact clipV_mono (by omega)
theorem box_mono {x : Wid} {l h u v most : Int} (hx : WidOK x) (h0 : 0 <= most) (hp : boxP x l h u v 0 = true) : Mono (boxP x l h u v) most := by
 refine ⟨h0, hp, fun i j i0 ij _ hj => ?_⟩
 obtain ⟨h1, h2, h3⟩ := boxP_iff.1 hj
 have a := wv_mono hx ij
 have b := wt_mono (u := u) (v := v) hx i0 ij
 exact boxP_iff.2 ⟨by omega, by omega, by omega⟩
@[irreducible] def soE (e : Int) (p : Int -> Bool) : Int := if e = 0 then grE p else e
@[irreducible] def soV (e : Int) (p : Int -> Bool) (most : Int) : Int := if e = 0 then grV p most else 0
theorem so_e {e most : Int} {p : Int -> Bool} (h : ¬ e = 0) : 0 = soV e p most /\ e = soE e p := by unfold soV soE; rw [if_neg h, if_neg h]; exact ⟨rfl, rfl⟩
theorem so_0 {e most : Int} {p : Int -> Bool} (h : e = 0) : grV p most = soV e p most /\ grE p = soE e p := by unfold soV soE; rw [if_pos h, if_pos h]; exact ⟨rfl, rfl⟩
def sfoS : Spec [celSh, spansSh, spansSh, limSh, spanSh] := ⟨fun (c, x, y, _) => CelMax (celOf c) /\ x.1 <= maxLen /\ y.1 <= maxLen,
 fun (c, (n, el), (m, em), ((l : Int), (q : Int), (o : Int), (w : Int), (h : Int), _), ((u : Int), (v : Int), _), _) => .tup [.si .i64 (soV (orE (orE (chkV (celOf c) n (fun k => (el k).1) (fun k => (el k).2.1) m (fun k => (em k).1) (fun k => (em k).2.1)) (limB l q o w h) 2) (insV 0 u v 400000) 2) (boxP (widV (celOf c) (fun k => (el k).1) (fun k => (el k).2.1) m (fun k => (em k).1) (fun k => (em k).2.1)) l h u v) o), .si .i64 (soE (orE (orE (chkV (celOf c) n (fun k => (el k).1) (fun k => (el k).2.1) m (fun k => (em k).1) (fun k => (em k).2.1)) (limB l q o w h) 2) (insV 0 u v 400000) 2) (boxP (widV (celOf c) (fun k => (el k).1) (fun k => (el k).2.1) m (fun k => (em k).1) (fun k => (em k).2.1)) l h u v))]⟩
@[reducible] def sfoCap : List Sh := [.ptr [.ptr widCells], .ptr limCells, .ptr [.int .i64, .int .i64], .ptr [spansSh]]
def sfo1 : Spec [.int .i64, .ptr [.ptr widCells], .ptr limCells, .ptr [.int .i64, .int .i64], .ptr [spansSh]] := ⟨fun ((i : Int), (x, _), _, ((u : Int), (v : Int), _), ((m, em), _), _) => WidOK (widOf x) /\ m = 5 /\ (em 0).1 = (widOf x).bl 0 /\ insV 0 u v 400000 = true /\ 0 <= i /\ i <= 1048576,
 fun ((i : Int), (x, _), ((l : Int), (_ : Int), (_ : Int), (_ : Int), (h : Int), _), ((u : Int), (v : Int), _), _, _) => .sb (boxP (widOf x) l h u v i)⟩
set_option maxRecDepth 100000 in
set_option maxHeartbeats 8000000 in
theorem sfo1_ok : FnSpec Tryz.prog 157 _ sfo1 := by
 refine FnSpec.of SBq_ok mixed (U := 0) (I := fun _ => []) Tryz.func157 rfl (by kernel_rfl) rfl rfl (by decide +kernel) ?_
 rintro ⟨(i : Int), ⟨x, ⟨⟩⟩, ⟨(l : Int), (q : Int), (o : Int), (w : Int), (h : Int), ⟨⟩⟩, ⟨(u : Int), (v : Int), ⟨⟩⟩, ⟨⟨m, em⟩, ⟨⟩⟩, ⟨⟩⟩ hpre
 obtain ⟨x, rfl⟩ := wid_ex x
 obtain ⟨bl, bh, rfl⟩ : ∃ bl bh : Nat -> Int, em = fun k => (bl k, bh k, ()) := ⟨fun k => (em k).1, fun k => (em k).2.1, rfl⟩
 have hpre : WidOK x /\ m = 5 /\ bl 0 = x.bl 0 /\ insV 0 u v 400000 = true /\ 0 <= i /\ i <= 1048576 := by have : WidOK (widOf (widD x)) /\ m = 5 /\ bl 0 = (widOf (widD x)).bl 0 /\ insV 0 u v 400000 = true /\ 0 <= i /\ i <= 1048576 := hpre; rwa [widOf_D] at this
 obtain ⟨hx, rfl, e0, hu, i0, i1⟩ := hpre
 unfold FnSat
 conv => arg 2; reduce
 simp [-Bool.forall_bool, sfo1, wvS, wtS, ElEq, getB, goneB, aliveB, and_assoc]
 have kh := celB_iff.1 hx.hi
 have := kh.lk0
 have := kh.lk1
 have hi' : insV (-1048576) i i 1048576 = true := insV_iff.2 (by omega)
 refine ⟨hx, hi', fun _ => ⟨hx, hi', hu⟩, fun _ _ => by omega, ?_⟩
 unfold boxP
 rw [e0]
noncomputable def SQa : Sums := ⟨(155, mkSum _ limS) :: (157, mkSum _ sfo1) :: SBq.one, SBq.two, SBq.lo, SBq.eqs, SBq.its, SBq.imm⟩
theorem SQa_ok : SumsOK Tryz.prog SQa := ((SBq_ok.cons Tryz.func157 (by kernel_rfl) (by kernel_rfl) sfo1_ok).cons Tryz.func155 (by kernel_rfl) (by kernel_rfl) lim_ok)
def sfgr : Spec [.int .i64, .fn 157 [] sfoCap] := ⟨fun ((most : Int), (_, (x, _), _, ((u : Int), (v : Int), _), ((m, em), _), _), _) => WidOK (widOf x) /\ m = 5 /\ (em 0).1 = (widOf x).bl 0 /\ insV 0 u v 400000 = true /\ 0 <= most /\ most <= 1048576,
 fun ((most : Int), (_, (x, _), ((l : Int), (_ : Int), (_ : Int), (_ : Int), (h : Int), _), ((u : Int), (v : Int), _), _, _), _) => .tup [.si .i64 (grV (boxP (widOf x) l h u v) most), .si .i64 (grE (boxP (widOf x) l h u v))]⟩
def sfgrI : DatL [.int .i64, .fn 157 [] sfoCap] -> Anns := fun ((most : Int), (_, (x, _), ((l : Int), (_ : Int), (_ : Int), (_ : Int), (h : Int), _), ((u : Int), (v : Int), _), _, _), _) => [
 (4, [], fun fr hp => ⟨Int × Int, fun (lo, hi) => ⟨frI [.k 6, .s (.si .i64 lo), .s (.si .i64 hi), .t 1, .k 4, .t 14, .k 1] fr, hp⟩, (Int -> Bool) × Int × Int × Int, fun (lo, hi) => (boxP (widOf x) l h u v, most, lo, hi), fun (p, most, lo, hi) => BsInv p most lo hi, fun (lo, hi) => nat (isub hi lo)⟩)]
set_option maxRecDepth 100000 in
set_option maxHeartbeats 4000000 in
theorem sfgr_ok : FnSpec Tryz.prog 156 _ sfgr := by
 refine FnSpec.of SQa_ok mixed (U := 0) (I := sfgrI) Tryz.func156 rfl (by kernel_rfl) rfl rfl (by decide +kernel) ?_
 rintro ⟨(most : Int), ⟨y, ⟨x, ⟨⟩⟩, ⟨(l : Int), (q : Int), (o : Int), (w : Int), (h : Int), ⟨⟩⟩, ⟨(u : Int), (v : Int), ⟨⟩⟩, ⟨⟨m, em⟩, ⟨⟩⟩, ⟨⟩⟩, ⟨⟩⟩ hpre
 obtain ⟨x, rfl⟩ := wid_ex x
 obtain ⟨bl, bh, rfl⟩ : ∃ bl bh : Nat -> Int, em = fun k => (bl k, bh k, ()) := ⟨fun k => (em k).1, fun k => (em k).2.1, rfl⟩
 have hpre : WidOK x /\ m = 5 /\ bl 0 = x.bl 0 /\ insV 0 u v 400000 = true /\ 0 <= most /\ most <= 1048576 := by have : WidOK (widOf (widD x)) /\ m = 5 /\ bl 0 = (widOf (widD x)).bl 0 /\ insV 0 u v 400000 = true /\ 0 <= most /\ most <= 1048576 := hpre; rwa [widOf_D] at this
 obtain ⟨hx, rfl, e0, hu, m1, m2⟩ := hpre
 unfold FnSat
 conv => arg 2; reduce
 simp [-Bool.forall_bool, sfgr, sfo1, and_assoc]
 refine ⟨hx, e0, hu, gr_no, fun hp => ?_⟩
 have hm := box_mono hx m1 hp
 refine ⟨⟨by omega, by omega, by omega, hp, fun i j1 j2 => by omega⟩, fun lo hi hb => ⟨fun hlt => ?_, fun hge => bs_fin hb hm hge⟩⟩
 have q1 := hb.a
 have q2 := hb.c
 have md := mid_b q1 hlt
 exact ⟨by omega, by omega, by omega, by omega, by omega, by omega, hx, e0, hu, by omega, by omega, fun hq => ⟨bs_up hb md.1 md.2 hq, by omega⟩, fun hq => ⟨by omega, by omega, bs_dn hb hm md.1 md.2 hq, by omega⟩⟩
noncomputable def SQb : Sums := ⟨(71, mkSum _ chkS) :: (156, mkSum _ sfgr) :: SQa.one, SQa.two, SQa.lo, SQa.eqs, SQa.its, SQa.imm⟩
theorem SQb_ok : SumsOK Tryz.prog SQb := ((SQa_ok.cons Tryz.func156 (by kernel_rfl) (by kernel_rfl) sfgr_ok).cons Tryz.func71 (by kernel_rfl) (by kernel_rfl) chk_ok)
end
end Abs
end Go.Proofs.YtlabbaglbcmofaaGreat

namespace Go.Proofs.YtlabbaglbcmofaaGreat
namespace Abs
open Go Go.RowKit
noncomputable section
attribute [local irreducible] FnSat
set_option maxRecDepth 100000 in
set_option maxHeartbeats 8000000 in
theorem sfo_ok : FnSpec Tryz.prog 94 _ sfoS := by
 refine FnSpec.of SQb_ok mixed (U := 0) (I := fun _ => []) Tryz.func94 rfl (by kernel_rfl) rfl rfl (by decide +kernel) ?_
 rintro ⟨c, ⟨n, el⟩, ⟨m, em⟩, ⟨(l : Int), (q : Int), (o : Int), (w : Int), (hh : Int), ⟨⟩⟩, ⟨(u : Int), (v : Int), ⟨⟩⟩, ⟨⟩⟩ hpre
 obtain ⟨c, rfl⟩ := cel_ex c
 obtain ⟨lo, hi, rfl⟩ : ∃ lo hi : Nat -> Int, el = fun k => (lo k, hi k, ()) := ⟨fun k => (el k).1, fun k => (el k).2.1, rfl⟩
 obtain ⟨bl, bh, rfl⟩ : ∃ bl bh : Nat -> Int, em = fun k => (bl k, bh k, ()) := ⟨fun k => (em k).1, fun k => (em k).2.1, rfl⟩
 have hpre : CelMax c /\ n <= maxLen /\ m <= maxLen := by have : CelMax (celOf (celD c)) /\ n <= maxLen /\ m <= maxLen := hpre; rwa [celOf_D] at this
 obtain ⟨hc, hn, hm⟩ := hpre
 unfold FnSat
 conv => arg 2; reduce
 simp [-Bool.forall_bool, sfoS, chkS, limS, insC, sprS, sfgr, ElEq, getB, goneB, aliveB, and_assoc]
 have oE : ∀ e b, ¬ e = 0 -> ¬ orE e b 2 = 0 := fun e b h => by rw [orE_e h]; exact h
 refine ⟨hc, hn, hm, fun h => ?_, fun h => ⟨fun hb => ?_, fun hb => ⟨fun hu => ?_, fun hu => ?_⟩⟩⟩
 ·have e : orE (orE (chkV c n lo hi m bl bh) (limB l q o w hh) 2) (insV 0 u v 400000) 2 = chkV c n lo hi m bl bh := by rw [orE_e (oE _ _ h), orE_e h]
  have := so_e (most := o) (p := boxP (widV c lo hi m bl bh) l hh u v) (e := orE (orE (chkV c n lo hi m bl bh) (limB l q o w hh) 2) (insV 0 u v 400000) 2) (by rw [e]; exact h)
  exact ⟨this.1, e.symm.trans this.2⟩
 ·have e : orE (orE (chkV c n lo hi m bl bh) (limB l q o w hh) 2) (insV 0 u v 400000) 2 = 2 := by rw [orE_e (e := orE (chkV c n lo hi m bl bh) (limB l q o w hh) 2) (by rw [orE_f h hb]; decide), orE_f h hb]
  have := so_e (most := o) (p := boxP (widV c lo hi m bl bh) l hh u v) (e := orE (orE (chkV c n lo hi m bl bh) (limB l q o w hh) 2) (insV 0 u v 400000) 2) (by rw [e]; decide)
  refine ⟨this.1, ?_⟩
  rw [hb, errA_false]
  rw [hb] at e this
  exact e.symm.trans this.2
 ·have e : orE (orE (chkV c n lo hi m bl bh) (limB l q o w hh) 2) (insV 0 u v 400000) 2 = 2 := by rw [orE_f (orE_t h hb) hu]
  have := so_e (most := o) (p := boxP (widV c lo hi m bl bh) l hh u v) (e := orE (orE (chkV c n lo hi m bl bh) (limB l q o w hh) 2) (insV 0 u v 400000) 2) (by rw [e]; decide)
  exact ⟨this.1, e.symm.trans this.2⟩
 ·have e : orE (orE (chkV c n lo hi m bl bh) (limB l q o w hh) 2) (insV 0 u v 400000) 2 = 0 := by rw [orE_t (orE_t h hb) hu]
  obtain ⟨z1, z2⟩ := so_0 (most := o) (p := boxP (widV c lo hi m bl bh) l hh u v) e
  have lb := limB_iff.1 hb
  have h' : chkV c n lo hi m bl bh = 0 := h
  obtain ⟨k1, k2⟩ := chkV_zero.1 h'
  exact ⟨k1, k2, wid_of (chk_iff.1 h'), (chk_iff.1 h').m, by rw [widV_bl], hu, by omega, by omega, z1, z2⟩
end
end Abs
end Go.Proofs.YtlabbaglbcmofaaGreat

namespace Go.Proofs.YtlabbaglbcmofaaGreat
namespace Abs
open Go Go.RowKit
noncomputable section
attribute [local irreducible] FnSat
end
end Abs
end Go.Proofs.YtlabbaglbcmofaaGreat

namespace Go.Proofs.YtlabbaglbcmofaaGreat
namespace Abs
open Go Go.RowKit
noncomputable section
attribute [local irreducible] FnSat
end
end Abs
end Go.Proofs.YtlabbaglbcmofaaGreat

namespace Go.Proofs.YtlabbaglbcmofaaGreat
namespace Abs
open Go Go.RowKit
noncomputable section
attribute [local irreducible] FnSat
theorem nb_box' {c : Cel} {n m : Nat} {lo hi bl bh : Nat -> Int} {a b u v : Int} (h : ChkOK c n lo hi m bl bh) (hI : insV (-1048576) a b 1048576 = true) (hU : insV 0 u v 400000 = true) (hf : farB (widV c lo hi m bl bh) a b = true) :
  BoxOK (nbL (widV c lo hi m bl bh) a b u v) (nbH (widV c lo hi m bl bh) a b u v) := by
 have h1 := h.n
 have h2 := h.m
 subst h1 h2
 exact nb_box h hI hU hf
theorem tk_chk {e : Ew} {q : Bool} {a0 a1 a2 a3 a4 a5 a6 a7 : Int} (hk : EwOK e) (hK : tkK e q a0 a1 a2 a3 a4 a5 a6 a7 = true) :
  ChkOK e.w.cel e.w.tn e.w.tl e.w.th e.n (tkL e q a0 a1 a2 a3 a4 a5 a6 a7) (tkH e q a0 a1 a2 a3 a4 a5 a6 a7) := by
 have hK' := hK
 unfold tkK at hK'
 simp only [Bool.and_eq_true, decide_eq_true_eq] at hK'
 obtain ⟨_, _, hb, hx⟩ := hK'
 obtain ⟨hi, ht, hc, hr⟩ := tlB_iff.1 hb
 obtain ⟨c1, c2⟩ := ckI hk hi
 have k3 := ck3 (ck2 (ck1 hk ht) hc) hr
 have hf : farB (widV e.w.cel e.w.tl e.w.th e.n (t3L e a0 a1 a2 a3 a4 a5) (t3H e a0 a1 a2 a3 a4 a5)) (mxI e.w.cl a2) (mnI e.w.ch a3) = true := by
  unfold tlX at hx
  split at hx
  ·assumption
  ·omega
 have hB := nb_box' k3 c1 c2 hf
 have eL : tkL e q a0 a1 a2 a3 a4 a5 a6 a7 = nbL (widV e.w.cel e.w.tl e.w.th e.n (t3L e a0 a1 a2 a3 a4 a5) (t3H e a0 a1 a2 a3 a4 a5)) (mxI e.w.cl a2) (mnI e.w.ch a3) (in2 e.w a2 a3 a6) (in3 e.w a2 a3 a7) := by unfold tkL; funext k; rw [if_pos hK]
 have eH : tkH e q a0 a1 a2 a3 a4 a5 a6 a7 = nbH (widV e.w.cel e.w.tl e.w.th e.n (t3L e a0 a1 a2 a3 a4 a5) (t3H e a0 a1 a2 a3 a4 a5)) (mxI e.w.cl a2) (mnI e.w.ch a3) (in2 e.w a2 a3 a6) (in3 e.w a2 a3 a7) := by unfold tkH; funext k; rw [if_pos hK]
 rw [eL, eH]
 exact ⟨k3.cel, k3.n, ew_five hk, k3.cl, k3.ch, k3.le, hB⟩
theorem tk_any {e : Ew} {q : Bool} {a0 a1 a2 a3 a4 a5 a6 a7 : Int} (hk : EwOK e) :
  ChkOK e.w.cel e.w.tn e.w.tl e.w.th e.n (tkL e q a0 a1 a2 a3 a4 a5 a6 a7) (tkH e q a0 a1 a2 a3 a4 a5 a6 a7) /\ e.tk <= tkT e q a0 a1 a2 a3 a4 a5 a6 a7 /\ tkT e q a0 a1 a2 a3 a4 a5 a6 a7 <= e.tk + 1 := by
 cases hK : tkK e q a0 a1 a2 a3 a4 a5 a6 a7 with
 | true => exact ⟨tk_chk hk hK, by unfold tkT; rw [if_pos hK]; omega, by unfold tkT; rw [if_pos hK]; omega⟩
 | false =>
   have eL : tkL e q a0 a1 a2 a3 a4 a5 a6 a7 = e.l := by unfold tkL; funext k; rw [if_neg (by rw [hK]; decide)]
   have eH : tkH e q a0 a1 a2 a3 a4 a5 a6 a7 = e.h := by unfold tkH; funext k; rw [if_neg (by rw [hK]; decide)]
   have eT : tkT e q a0 a1 a2 a3 a4 a5 a6 a7 = e.tk := by unfold tkT; rw [if_neg (by rw [hK]; decide)]
   rw [eL, eH, eT]
   exact ⟨hk.chk, Int.le_refl _, by omega⟩
theorem ewN_w (e : Ew) (h0 h1 h2 h3 : Bool) (v0 v1 v2 v3 : Int) : (ewN e h0 h1 h2 h3 v0 v1 v2 v3).w = e.w := by unfold ewN; exact Ew.w_mk _ _ _ _ _ _
theorem ewN_n (e : Ew) (h0 h1 h2 h3 : Bool) (v0 v1 v2 v3 : Int) : (ewN e h0 h1 h2 h3 v0 v1 v2 v3).n = e.n := by unfold ewN; exact Ew.n_mk _ _ _ _ _ _
theorem ewN_ok {e : Ew} (hk : EwOK e) (ht : e.tk < 4294967296) (h0 h1 h2 h3 : Bool) (v0 v1 v2 v3 : Int) : EwOK (ewN e h0 h1 h2 h3 v0 v1 v2 v3) /\ (ewN e h0 h1 h2 h3 v0 v1 v2 v3).tk <= e.tk + 1 := by
 obtain ⟨g1, g2, g3⟩ := tk_any (q := rdB e.w h0 h1 h2 h3 v0 v1 v2 v3) (a0 := spL h0 e.w.s00 e.w.s01 e.w.s02 e.w.s03 v0) (a1 := spH h0 e.w.s00 e.w.s01 e.w.s02 e.w.s03 v0) (a2 := spL h1 e.w.s10 e.w.s11 e.w.s12 e.w.s13 v1) (a3 := spH h1 e.w.s10 e.w.s11 e.w.s12 e.w.s13 v1)
  (a4 := spL h2 e.w.s20 e.w.s21 e.w.s22 e.w.s23 v2) (a5 := spH h2 e.w.s20 e.w.s21 e.w.s22 e.w.s23 v2) (a6 := spL h3 e.w.s30 e.w.s31 e.w.s32 e.w.s33 v3) (a7 := spH h3 e.w.s30 e.w.s31 e.w.s32 e.w.s33 v3) hk
 have h := hk.tk0
 have hb := hk.big
 have hw := hk.wat
 unfold ewN
 refine ⟨⟨?_, ?_, ?_, ?_, ?_⟩, ?_⟩
 ·rw [Ew.w_mk]; exact hb
 ·rw [Ew.w_mk]; exact hw
 ·rw [Ew.w_mk, Ew.n_mk, Ew.l_mk, Ew.h_mk]; exact g1
 ·rw [Ew.tk_mk]; omega
 ·rw [Ew.tk_mk]; omega
 ·rw [Ew.tk_mk]; exact g3
@[irreducible] def pwX (e : Ew) (l q o w h : Int) : Int := orE (orE (chkV e.w.cel e.w.tn e.w.tl e.w.th (nowN e) (nowL e) (nowH e)) (limB l q o w h) 2) (insV 0 e.w.al e.w.ah 400000) 2
@[irreducible] def pwE (e : Ew) (l q o w h : Int) : Int := if nowE e = 0 then soE (pwX e l q o w h) (boxP (widV e.w.cel e.w.tl e.w.th (nowN e) (nowL e) (nowH e)) l h e.w.al e.w.ah) else nowE e
@[irreducible] def pwV (e : Ew) (l q o w h : Int) : Int := if nowE e = 0 then soV (pwX e l q o w h) (boxP (widV e.w.cel e.w.tl e.w.th (nowN e) (nowL e) (nowH e)) l h e.w.al e.w.ah) o else 0
noncomputable def Svr : Sums := ⟨(66, mkSum _ aplS) :: (94, mkSum _ sfoS) :: (35, mkSum _ nowS) :: Svd.one, Svd.two, Svd.lo, Svd.eqs, Svd.its, Svd.imm⟩
theorem Svr_ok : SumsOK Tryz.prog Svr := (((Svd_ok.cons Tryz.func35 (by kernel_rfl) (by kernel_rfl) now_ok).cons Tryz.func94 (by kernel_rfl) (by kernel_rfl) sfo_ok).cons Tryz.func66 (by kernel_rfl) (by kernel_rfl) apl_ok)
def pwrS : Spec [.ptr ewCells, limSh] := ⟨fun ((m, x), _) => m = true /\ EwOK (ewOf x), fun ((_, x), ((l : Int), (q : Int), (o : Int), (w : Int), (h : Int), _), _) => .tup [.si .i64 (pwV (ewOf x) l q o w h), .si .i64 (pwE (ewOf x) l q o w h)]⟩
theorem now_len {e : Ew} (hk : EwOK e) : nowN e <= 5 := by
 have h5 := ew_five hk
 unfold nowN
 split <;> omega
set_option maxRecDepth 100000 in
set_option maxHeartbeats 2000000 in
theorem pwr_ok : FnSpec Tryz.prog 36 _ pwrS := by
 refine FnSpec.of Svr_ok mixed (U := 0) (I := fun _ => []) Tryz.func36 rfl (by kernel_rfl) rfl rfl (by decide +kernel) ?_
 rintro ⟨⟨m, x⟩, ⟨(l : Int), (q : Int), (o : Int), (w : Int), (h : Int), ⟨⟩⟩, ⟨⟩⟩ hpre
 obtain ⟨e, rfl⟩ := ew_ex x
 have hpre : m = true /\ EwOK e := by have : m = true /\ EwOK (ewOf (ewD e)) := hpre; rwa [ewOf_D] at this
 obtain ⟨rfl, hk⟩ := hpre
 unfold FnSat
 conv => arg 2; reduce
 simp [-Bool.forall_bool, pwrS, nowS, sfoS, and_assoc]
 have hn := hk.chk.n
 have hl := now_len hk
 refine ⟨hk, fun h0 => ?_, fun h0 => ⟨hk.big, by rw [hn]; unfold maxLen; omega, by unfold maxLen; omega, ?_⟩⟩
 ·unfold pwV pwE
  rw [if_neg h0, if_neg h0]
  exact ⟨rfl, rfl⟩
 ·unfold pwV pwE
  rw [if_pos h0, if_pos h0]
  unfold pwX
  exact ⟨rfl, rfl⟩
end
end Abs
end Go.Proofs.YtlabbaglbcmofaaGreat

namespace Go.Proofs.YtlabbaglbcmofaaGreat
namespace Abs
open Go
theorem step_mono {b y z : Int} (hb : 1 <= b) (h : y <= z) : stepV b y <= stepV b z := by
 unfold stepV
 exact Int.mul_le_mul_of_nonneg_left (Int.ediv_le_ediv (by omega) (by omega)) (by omega)
theorem into_mono {x y lo hi : Int} (h : x <= y) : intoV x lo hi <= intoV y lo hi := by unfold intoV; omega
open Classical in
@[irreducible] noncomputable def fndV (a b c d r y n : Int) : Bool := decide (∃ m, -a <= m /\ m < n /\ intoV (stepV b (y + m)) c d = r)
theorem fnd_iff {a b c d r y n : Int} : fndV a b c d r y n = true ↔ ∃ m, -a <= m /\ m < n /\ intoV (stepV b (y + m)) c d = r := by unfold fndV; simp
theorem fnd_end {a b c d r y : Int} (h : sensOK a b c d = true) (hr : readOK b c d r = true) (h1 : -1099511627776 <= y) (h2 : y <= 1099511627776) :
  fndV a b c d r y (a + 1) = (decide (behLo a b c d r <= y) && decide (y <= behHi a b c d r)) := by
 have h0 := sens_of h
 obtain ⟨e1, e2⟩ := ref_eq h hr
 rw [e1, e2, Bool.eq_iff_iff, fnd_iff]
 have t1 := thr1_iff h (r := r) h1 h2
 have t2 := thr2_iff h (r := r) h1 h2
 simp only [Bool.and_eq_true, decide_eq_true_eq]
 constructor
 ·rintro ⟨m, g1, g2, g3⟩
  have k1 : intoV (stepV b (y + m)) c d <= intoV (stepV b (y + a)) c d := into_mono (step_mono (by omega) (by omega))
  have k2 : intoV (stepV b (y - a)) c d <= intoV (stepV b (y + m)) c d := into_mono (step_mono (by omega) (by omega))
  omega
 ·rintro ⟨g1, g2⟩
  have k1 := t1.2 g1
  have k2 : intoV (stepV b (y - a)) c d <= r := by omega
  simp [readOK] at hr
  by_cases hc : r = c
  ·refine ⟨-a, by omega, by omega, ?_⟩
   rw [show y + -a = y - a by omega]
   have : c <= intoV (stepV b (y - a)) c d := by unfold intoV; omega
   omega
  by_cases hd : r = d
  ·refine ⟨a, by omega, by omega, ?_⟩
   have : intoV (stepV b (y + a)) c d <= d := by unfold intoV; omega
   omega
  have hz : r % b = 0 := by omega
  have k3 : stepV b (y - a) <= r := by unfold intoV at k2; omega
  have k4 : r <= stepV b (y + a) := by unfold intoV at k1; omega
  have k5 := stepV_hi b (y + a) (by omega)
  have k6 := stepV_lo b (y - a) (by omega)
  obtain ⟨q, hq⟩ := Int.dvd_of_emod_eq_zero hz
  have key : ∀ m, r <= y + m + b / 2 -> y + m + b / 2 < r + b -> intoV (stepV b (y + m)) c d = r := fun m u1 u2 => by
   have : stepV b (y + m) = r := by
    unfold stepV
    have : (y + m + b / 2) / b = q := by
     rw [Int.ediv_eq_iff_of_pos (by omega), Int.mul_comm q b]
     omega
    rw [this, hq]
   rw [this]; unfold intoV; omega
  by_cases hm : -a <= r - y - b / 2
  ·exact ⟨r - y - b / 2, hm, by omega, key _ (by omega) (by omega)⟩
  ·exact ⟨-a, by omega, by omega, key _ (by omega) (by omega)⟩
theorem show_ok_read {a b c d x e : Int} (h : sensOK a b c d = true) (hx : isQ x = true) (he : isIn (-a) e a = true) : readOK b c d (showV a b c d x e) = true := by
 have h0 := sens_of h
 obtain ⟨e1, _⟩ := showE_0 (by rw [h, hx]; rfl) he
 rw [e1]
 have := stepV_mod b (x + e)
 unfold readOK
 simp
 unfold intoV
 by_cases h1 : stepV b (x + e) <= c
 ·have : max c (min (stepV b (x + e)) d) = c := by omega
  rw [this]; omega
 ·by_cases h2 : d <= stepV b (x + e)
  ·have : max c (min (stepV b (x + e)) d) = d := by omega
   rw [this]; omega
  ·have h3 : max c (min (stepV b (x + e)) d) = stepV b (x + e) := by omega
   rw [h3]; omega
end Abs
end Go.Proofs.YtlabbaglbcmofaaGreat

namespace Go.Proofs.YtlabbaglbcmofaaGreat
namespace Abs
open Go Go.RowKit
noncomputable section
attribute [local irreducible] FnSat
@[reducible] def tckSh : Sh := .agg [.int .u16, .int .u16, .int .i16, .int .i16, .int .i16, .int .i16, .int .u8]
def TkIn (t0 t1 n0 n1 n2 n3 : Int) : Prop := (0 <= t0 /\ t0 <= 65535) /\ (0 <= t1 /\ t1 <= 65535) /\ (-32768 <= n0 /\ n0 <= 32768) /\ (-32768 <= n1 /\ n1 <= 32768) /\ (-32768 <= n2 /\ n2 <= 32768) /\ (-32768 <= n3 /\ n3 <= 32768)
attribute [irreducible] TkIn
theorem tkIn_iff {t0 t1 n0 n1 n2 n3 : Int} : TkIn t0 t1 n0 n1 n2 n3 ↔ (0 <= t0 /\ t0 <= 65535) /\ (0 <= t1 /\ t1 <= 65535) /\ (-32768 <= n0 /\ n0 <= 32768) /\ (-32768 <= n1 /\ n1 <= 32768) /\ (-32768 <= n2 /\ n2 <= 32768) /\ (-32768 <= n3 /\ n3 <= 32768) := by unfold TkIn; exact Iff.rfl
def inpW3 : Spec [wchSh, tckSh] := ⟨fun (w, ((t0 : Int), (t1 : Int), (n0 : Int), (n1 : Int), (n2 : Int), (n3 : Int), _), _) => wcB (wtOf w) = true /\ TkIn t0 t1 n0 n1 n2 n3,
 fun (w, ((t0 : Int), (t1 : Int), _), _) => .agg [.si .i64 (btV (wtOf w).cl (wtOf w).ch t0), .si .i64 (btV (wtOf w).al (wtOf w).ah t1)]⟩
theorem ins_span {a l h b : Int} (h1 : insV a l h b = true) (h2 : -1099511627776 <= a) (h3 : b <= 1099511627776) : spanOK l h = true := by
 have := insV_iff.1 h1
 exact spanOK_iff.2 (by omega)
set_option maxRecDepth 100000 in
set_option maxHeartbeats 2000000 in
theorem inpW_ok : FnSpec Tryz.prog 25 _ inpW3 := by
 refine FnSpec.of SKc_ok mixed (U := 0) (I := fun _ => []) Tryz.func25 rfl (by kernel_rfl) rfl rfl (by decide +kernel) ?_
 rintro ⟨w, ⟨(t0 : Int), (t1 : Int), (n0 : Int), (n1 : Int), (n2 : Int), (n3 : Int), (hs : Int), ⟨⟩⟩, ⟨⟩⟩ hpre
 obtain ⟨w, rfl⟩ := wt_ex w
 have hpre : wcB w = true /\ TkIn t0 t1 n0 n1 n2 n3 := by have : wcB (wtOf (wtD w)) = true /\ TkIn t0 t1 n0 n1 n2 n3 := hpre; rwa [wtOf_D] at this
 obtain ⟨hw, ht⟩ := hpre
 obtain ⟨a0, a1, _⟩ := tkIn_iff.1 ht
 obtain ⟨_, _, _, w3, w4, _⟩ := wcB_iff.1 hw
 unfold FnSat
 conv => arg 2; reduce
 simp [-Bool.forall_bool, inpW3, btwS, and_assoc]
 exact ⟨ins_span w3 (by decide) (by decide), a0.1, a0.2, ins_span w4 (by decide) (by decide), a1.1, a1.2⟩
noncomputable def SKt0 : Sums := ⟨(25, mkSum _ inpW3) :: (70, mkSum _ senS) :: SKc.one, SKc.two, SKc.lo, SKc.eqs, SKc.its, SKc.imm⟩
theorem SKt0_ok : SumsOK Tryz.prog SKt0 := ((SKc_ok.cons Tryz.func70 (by kernel_rfl) (by kernel_rfl) esen_ok).cons Tryz.func25 (by kernel_rfl) (by kernel_rfl) inpW_ok)
@[irreducible] def rv0 (w : Wt) (c : Cel) (s : Sta) (t0 n0 : Int) : Int := showV w.s00 w.s01 w.s02 w.s03 (voltV c s (btV w.cl w.ch t0)) (qflV w.s00 n0 32768)
@[irreducible] def rv1 (w : Wt) (t0 n1 : Int) : Int := showV w.s10 w.s11 w.s12 w.s13 (btV w.cl w.ch t0) (qflV w.s10 n1 32768)
@[irreducible] def rv2 (w : Wt) (s : Sta) (n2 : Int) : Int := showV w.s20 w.s21 w.s22 w.s23 s.tp (qflV w.s20 n2 32768)
@[irreducible] def rv3 (w : Wt) (t1 n3 : Int) : Int := showV w.s30 w.s31 w.s32 w.s33 (btV w.al w.ah t1) (qflV w.s30 n3 32768)
@[irreducible] def hkB (x : Int) (k : Int) : Bool := !decide (ibit .and .u8 (ishr x k) 1 = 1)
theorem hkB_t {x k : Int} (h : ibit .and .u8 (ishr x k) 1 = 1) : hkB x k = false := by unfold hkB; simp [h]
theorem hkB_f {x k : Int} (h : ¬ ibit .and .u8 (ishr x k) 1 = 1) : hkB x k = true := by unfold hkB; simp [h]
def rdnS : Spec [wchSh, celSh, staSh, tckSh] := ⟨fun (w, c, s, ((t0 : Int), (t1 : Int), (n0 : Int), (n1 : Int), (n2 : Int), (n3 : Int), (hs : Int), _), _) => wcB (wtOf w) = true /\ CelMax (celOf c) /\ csE (celOf c) (staOf s) = 0 /\ TkIn t0 t1 n0 n1 n2 n3 /\ 0 <= hs /\ hs <= 255,
 fun (w, c, s, ((t0 : Int), (t1 : Int), (n0 : Int), (n1 : Int), (n2 : Int), (n3 : Int), (hs : Int), _), _) => .tup [.agg [.sb (hkB hs 0), .sb (hkB hs 1), .sb (hkB hs 2), .sb (hkB hs 3), .si .i64 (rv0 (wtOf w) (celOf c) (staOf s) t0 n0), .si .i64 (rv1 (wtOf w) t0 n1), .si .i64 (rv2 (wtOf w) (staOf s) n2), .si .i64 (rv3 (wtOf w) t1 n3)], .sb true]⟩
def rdnSet (hp : Heap) (k : Nat) (b : Bool) : Heap := match getB hp 6 with
 | .cells t l => setB hp 6 (.cells t (setL l k (.sb b)))
 | _ => hp
@[reducible] def cutN (hs : Int) : List AV -> Heap -> Ann := fun fr hp => ⟨Nat, fun _ => ⟨frI [.k 17, .t 50] fr, rdnSet hp (numA (getL fr 16)) (hkB hs (sel4 (numA (getL fr 16)) 0 1 2 3))⟩, Nat, fun z => z, fun _ => True, fun _ => 0⟩
theorem cutN_q (hs : Int) (fr : List AV) (hp : Heap) (z : Nat) : (cutN hs fr hp).q z = True := rfl
def rdnI : DatL [wchSh, celSh, staSh, tckSh] -> Anns := fun (_, _, _, (_, _, _, _, _, _, (hs : Int), _), _) => [(1048586, [], cutN hs)]
theorem sen_0 {w : Wt} {c : Cel} {s : Sta} {t0 t1 n0 n1 n2 n3 : Int} (hw : wcB w = true) (hc : csE c s = 0) (ht : TkIn t0 t1 n0 n1 n2 n3) :
  senE c s (btV w.cl w.ch t0) (btV w.al w.ah t1) w.s00 w.s01 w.s02 w.s03 w.s10 w.s11 w.s12 w.s13 w.s20 w.s21 w.s22 w.s23 w.s30 w.s31 w.s32 w.s33 (qflV w.s00 n0 32768) (qflV w.s10 n1 32768) (qflV w.s20 n2 32768) (qflV w.s30 n3 32768) = 0 := by
 obtain ⟨a0, a1, b0, b1, b2, b3⟩ := tkIn_iff.1 ht
 obtain ⟨_, _, _, w3, w4, z0, z1, z2, z3⟩ := wcB_iff.1 hw
 obtain ⟨c0, c1, c2⟩ := insV_iff.1 w3
 obtain ⟨u0, u1, u2⟩ := insV_iff.1 w4
 have i := bt_in (p := t0) c1 (by omega) a0.1 a0.2
 have m := bt_in (p := t1) u1 (by omega) a1.1 a1.2
 have nz : ∀ {a b c d n : Int}, sensOK a b c d = true -> -32768 <= n /\ n <= 32768 -> noiB a (qflV a n 32768) = true := fun {a b c d n} h hn => by
  have h1 := sens_of h
  have h2 := qflV_in (x := a) (n := n) (d := 32768) (by omega) (by omega) (by decide) (by omega) (by omega)
  unfold noiB
  simp
  omega
 unfold senE snE an4
 rw [z0, z1, z2, z3, nz z0 b0, nz z1 b1, nz z2 b2, nz z3 b3, hc, inB_iff.2 ⟨⟨by omega, by omega⟩, by omega, by omega⟩]
 rfl
set_option maxRecDepth 100000 in
set_option maxHeartbeats 8000000 in
theorem rdn_ok : FnSpec Tryz.prog 21 _ rdnS := by
 refine FnSpec.of SKt0_ok mixed (U := 5) (I := rdnI) Tryz.func21 rfl (by kernel_rfl) rfl rfl (by decide +kernel) ?_
 rintro ⟨w, c, s, ⟨(t0 : Int), (t1 : Int), (n0 : Int), (n1 : Int), (n2 : Int), (n3 : Int), (hs : Int), ⟨⟩⟩, ⟨⟩⟩ hpre
 obtain ⟨w, rfl⟩ := wt_ex w
 obtain ⟨c, rfl⟩ := cel_ex c
 obtain ⟨s, rfl⟩ := sta_ex s
 have hpre : wcB w = true /\ CelMax c /\ csE c s = 0 /\ TkIn t0 t1 n0 n1 n2 n3 /\ 0 <= hs /\ hs <= 255 := by have : wcB (wtOf (wtD w)) = true /\ CelMax (celOf (celD c)) /\ csE (celOf (celD c)) (staOf (staD s)) = 0 /\ TkIn t0 t1 n0 n1 n2 n3 /\ 0 <= hs /\ hs <= 255 := hpre; rwa [wtOf_D, celOf_D, staOf_D] at this
 obtain ⟨hw, hm, hc, ht, h0, h255⟩ := hpre
 unfold FnSat
 conv => arg 2; reduce
 have E0 := sen_0 hw hc ht
 simp [-Bool.forall_bool, cutN_q, rdnS, flrS, inpW3, senS, E0, ElEq, getB, goneB, aliveB, VC.sat, and_assoc]
 have sv : ∀ x : Int, snV 0 x = x := fun x => by unfold snV; simp
 have sb : snB 0 = true := by unfold snB; simp
 obtain ⟨a0, a1, b0, b1, b2, b3⟩ := tkIn_iff.1 ht
 rw [sb]
 simp only [sv]
 refine ⟨by omega, by omega, by omega, by omega, by omega, by omega, by omega, by omega, hw, ht, hm, by decide, fun h => hkB_t h, fun h => (hkB_f h).symm, by decide, fun h => hkB_t h, fun h => (hkB_f h).symm, by decide, fun h => hkB_t h, fun h => (hkB_f h).symm, by decide, fun h => hkB_t h, fun h => (hkB_f h).symm, ?_, ?_, ?_, ?_⟩
 ·unfold rv0; rfl
 ·unfold rv1; rfl
 ·unfold rv2; rfl
 ·unfold rv3; rfl
noncomputable def SKt : Sums := ⟨(21, mkSum _ rdnS) :: SKt0.one, SKt0.two, SKt0.lo, SKt0.eqs, SKt0.its, SKt0.imm⟩
theorem SKt_ok : SumsOK Tryz.prog SKt := (SKt0_ok.cons Tryz.func21 (by kernel_rfl) (by kernel_rfl) rdn_ok)
end
end Abs
end Go.Proofs.YtlabbaglbcmofaaGreat

namespace Go.Proofs.YtlabbaglbcmofaaGreat
namespace Abs
open Go Go.RowKit
noncomputable section
attribute [local irreducible] FnSat
structure Cas where
 a0 : Wt
 a1 : Int
 a2 : Int
 a3 : Int
 a4 : Int
 a5 : Int
 a6 : Int
 a7 : Int
 a8 : Int
 a9 : Int
 a10 : Int
 a11 : Int
 a12 : Int
@[irreducible] def Cas.w (x : Cas) : Wt := x.a0
@[irreducible] def Cas.o0 (x : Cas) : Int := x.a1
@[irreducible] def Cas.o1 (x : Cas) : Int := x.a2
@[irreducible] def Cas.o2 (x : Cas) : Int := x.a3
@[irreducible] def Cas.o3 (x : Cas) : Int := x.a4
@[irreducible] def Cas.o4 (x : Cas) : Int := x.a5
@[irreducible] def Cas.o5 (x : Cas) : Int := x.a6
@[irreducible] def Cas.o6 (x : Cas) : Int := x.a7
@[irreducible] def Cas.p0 (x : Cas) : Int := x.a8
@[irreducible] def Cas.p1 (x : Cas) : Int := x.a9
@[irreducible] def Cas.p2 (x : Cas) : Int := x.a10
@[irreducible] def Cas.p3 (x : Cas) : Int := x.a11
@[irreducible] def Cas.p4 (x : Cas) : Int := x.a12
@[simp] theorem Cas.w_mk (x0 : Wt) (x1 : Int) (x2 : Int) (x3 : Int) (x4 : Int) (x5 : Int) (x6 : Int) (x7 : Int) (x8 : Int) (x9 : Int) (x10 : Int) (x11 : Int) (x12 : Int) : (Cas.mk x0 x1 x2 x3 x4 x5 x6 x7 x8 x9 x10 x11 x12).w = x0 := by unfold Cas.w; rfl
@[simp] theorem Cas.o0_mk (x0 : Wt) (x1 : Int) (x2 : Int) (x3 : Int) (x4 : Int) (x5 : Int) (x6 : Int) (x7 : Int) (x8 : Int) (x9 : Int) (x10 : Int) (x11 : Int) (x12 : Int) : (Cas.mk x0 x1 x2 x3 x4 x5 x6 x7 x8 x9 x10 x11 x12).o0 = x1 := by unfold Cas.o0; rfl
@[simp] theorem Cas.o1_mk (x0 : Wt) (x1 : Int) (x2 : Int) (x3 : Int) (x4 : Int) (x5 : Int) (x6 : Int) (x7 : Int) (x8 : Int) (x9 : Int) (x10 : Int) (x11 : Int) (x12 : Int) : (Cas.mk x0 x1 x2 x3 x4 x5 x6 x7 x8 x9 x10 x11 x12).o1 = x2 := by unfold Cas.o1; rfl
@[simp] theorem Cas.o2_mk (x0 : Wt) (x1 : Int) (x2 : Int) (x3 : Int) (x4 : Int) (x5 : Int) (x6 : Int) (x7 : Int) (x8 : Int) (x9 : Int) (x10 : Int) (x11 : Int) (x12 : Int) : (Cas.mk x0 x1 x2 x3 x4 x5 x6 x7 x8 x9 x10 x11 x12).o2 = x3 := by unfold Cas.o2; rfl
@[simp] theorem Cas.o3_mk (x0 : Wt) (x1 : Int) (x2 : Int) (x3 : Int) (x4 : Int) (x5 : Int) (x6 : Int) (x7 : Int) (x8 : Int) (x9 : Int) (x10 : Int) (x11 : Int) (x12 : Int) : (Cas.mk x0 x1 x2 x3 x4 x5 x6 x7 x8 x9 x10 x11 x12).o3 = x4 := by unfold Cas.o3; rfl
@[simp] theorem Cas.o4_mk (x0 : Wt) (x1 : Int) (x2 : Int) (x3 : Int) (x4 : Int) (x5 : Int) (x6 : Int) (x7 : Int) (x8 : Int) (x9 : Int) (x10 : Int) (x11 : Int) (x12 : Int) : (Cas.mk x0 x1 x2 x3 x4 x5 x6 x7 x8 x9 x10 x11 x12).o4 = x5 := by unfold Cas.o4; rfl
@[simp] theorem Cas.o5_mk (x0 : Wt) (x1 : Int) (x2 : Int) (x3 : Int) (x4 : Int) (x5 : Int) (x6 : Int) (x7 : Int) (x8 : Int) (x9 : Int) (x10 : Int) (x11 : Int) (x12 : Int) : (Cas.mk x0 x1 x2 x3 x4 x5 x6 x7 x8 x9 x10 x11 x12).o5 = x6 := by unfold Cas.o5; rfl
@[simp] theorem Cas.o6_mk (x0 : Wt) (x1 : Int) (x2 : Int) (x3 : Int) (x4 : Int) (x5 : Int) (x6 : Int) (x7 : Int) (x8 : Int) (x9 : Int) (x10 : Int) (x11 : Int) (x12 : Int) : (Cas.mk x0 x1 x2 x3 x4 x5 x6 x7 x8 x9 x10 x11 x12).o6 = x7 := by unfold Cas.o6; rfl
@[simp] theorem Cas.p0_mk (x0 : Wt) (x1 : Int) (x2 : Int) (x3 : Int) (x4 : Int) (x5 : Int) (x6 : Int) (x7 : Int) (x8 : Int) (x9 : Int) (x10 : Int) (x11 : Int) (x12 : Int) : (Cas.mk x0 x1 x2 x3 x4 x5 x6 x7 x8 x9 x10 x11 x12).p0 = x8 := by unfold Cas.p0; rfl
@[simp] theorem Cas.p1_mk (x0 : Wt) (x1 : Int) (x2 : Int) (x3 : Int) (x4 : Int) (x5 : Int) (x6 : Int) (x7 : Int) (x8 : Int) (x9 : Int) (x10 : Int) (x11 : Int) (x12 : Int) : (Cas.mk x0 x1 x2 x3 x4 x5 x6 x7 x8 x9 x10 x11 x12).p1 = x9 := by unfold Cas.p1; rfl
@[simp] theorem Cas.p2_mk (x0 : Wt) (x1 : Int) (x2 : Int) (x3 : Int) (x4 : Int) (x5 : Int) (x6 : Int) (x7 : Int) (x8 : Int) (x9 : Int) (x10 : Int) (x11 : Int) (x12 : Int) : (Cas.mk x0 x1 x2 x3 x4 x5 x6 x7 x8 x9 x10 x11 x12).p2 = x10 := by unfold Cas.p2; rfl
@[simp] theorem Cas.p3_mk (x0 : Wt) (x1 : Int) (x2 : Int) (x3 : Int) (x4 : Int) (x5 : Int) (x6 : Int) (x7 : Int) (x8 : Int) (x9 : Int) (x10 : Int) (x11 : Int) (x12 : Int) : (Cas.mk x0 x1 x2 x3 x4 x5 x6 x7 x8 x9 x10 x11 x12).p3 = x11 := by unfold Cas.p3; rfl
@[simp] theorem Cas.p4_mk (x0 : Wt) (x1 : Int) (x2 : Int) (x3 : Int) (x4 : Int) (x5 : Int) (x6 : Int) (x7 : Int) (x8 : Int) (x9 : Int) (x10 : Int) (x11 : Int) (x12 : Int) : (Cas.mk x0 x1 x2 x3 x4 x5 x6 x7 x8 x9 x10 x11 x12).p4 = x12 := by unfold Cas.p4; rfl
abbrev CasD := Int × IntsD × IntsD × Int × IntsD × IntsD × Int × Int × Int × Int × Int × Int × IntsD × IntsD × Int × Int × Int × SpnD × SpnD × Int × Int × Int × Int × Int × Int × Int × Int × Int × Int × Int × Int × Int × Int × Int × Int × Int × Int × Int × Int × Int × Int × Int × Int × Int × Int × Int × Int × Int × Int × Int × Int × Int × Unit
@[irreducible] def casOf (x : CasD) : Cas :=
 let (c0, c1, c2, c3, c4, c5, c6, c7, c8, c9, c10, c11, c12, c13, c14, c15, c16, t, b, i0, i1, i2, i3, i4, i5, i6, i7, i8, i9, i10, i11, i12, i13, i14, i15, i16, i17, i18, i19, i20, o0, o1, o2, o3, o4, o5, o6, p0, p1, p2, p3, p4, _) := x
 ⟨wtOf (c0, c1, c2, c3, c4, c5, c6, c7, c8, c9, c10, c11, c12, c13, c14, c15, c16, t, b, i0, i1, i2, i3, i4, i5, i6, i7, i8, i9, i10, i11, i12, i13, i14, i15, i16, i17, i18, i19, i20, ()), o0, o1, o2, o3, o4, o5, o6, p0, p1, p2, p3, p4⟩
@[reducible] def casD (x : Cas) : CasD := (x.w.cel.cap, (x.w.cel.ocv.nx, fun k => (x.w.cel.ocv.x k, ())), (x.w.cel.ocv.ny, fun k => (x.w.cel.ocv.y k, ())), x.w.cel.shift, (x.w.cel.cold.nx, fun k => (x.w.cel.cold.x k, ())), (x.w.cel.cold.ny, fun k => (x.w.cel.cold.y k, ())), x.w.cel.extra, x.w.cel.pair, x.w.cel.keep, x.w.cel.leak, x.w.cel.hcap, x.w.cel.cool, (x.w.cel.stress.nx, fun k => (x.w.cel.stress.x k, ())), (x.w.cel.stress.ny, fun k => (x.w.cel.stress.y k, ())), x.w.cel.cyc, x.w.cel.agel, x.w.cel.grow, (x.w.tn, fun k => (x.w.tl k, x.w.th k, ())), (x.w.bn, fun k => (x.w.bl k, x.w.bh k, ())), x.w.s00, x.w.s01, x.w.s02, x.w.s03, x.w.s10, x.w.s11, x.w.s12, x.w.s13, x.w.s20, x.w.s21, x.w.s22, x.w.s23, x.w.s30, x.w.s31, x.w.s32, x.w.s33, x.w.dly, x.w.cl, x.w.ch, x.w.al, x.w.ah, x.o0, x.o1, x.o2, x.o3, x.o4, x.o5, x.o6, x.p0, x.p1, x.p2, x.p3, x.p4, ())
theorem casOf_D (x : Cas) : casOf (casD x) = x := by
 have h := wtOf_mk x.w
 unfold casOf casD
 simp only [h]
 unfold Cas.w Cas.o0 Cas.o1 Cas.o2 Cas.o3 Cas.o4 Cas.o5 Cas.o6 Cas.p0 Cas.p1 Cas.p2 Cas.p3 Cas.p4
 rfl
@[simp] theorem casOf_mk (x : Cas) : casOf (x.w.cel.cap, (x.w.cel.ocv.nx, fun k => (x.w.cel.ocv.x k, ())), (x.w.cel.ocv.ny, fun k => (x.w.cel.ocv.y k, ())), x.w.cel.shift, (x.w.cel.cold.nx, fun k => (x.w.cel.cold.x k, ())), (x.w.cel.cold.ny, fun k => (x.w.cel.cold.y k, ())), x.w.cel.extra, x.w.cel.pair, x.w.cel.keep, x.w.cel.leak, x.w.cel.hcap, x.w.cel.cool, (x.w.cel.stress.nx, fun k => (x.w.cel.stress.x k, ())), (x.w.cel.stress.ny, fun k => (x.w.cel.stress.y k, ())), x.w.cel.cyc, x.w.cel.agel, x.w.cel.grow, (x.w.tn, fun k => (x.w.tl k, x.w.th k, ())), (x.w.bn, fun k => (x.w.bl k, x.w.bh k, ())), x.w.s00, x.w.s01, x.w.s02, x.w.s03, x.w.s10, x.w.s11, x.w.s12, x.w.s13, x.w.s20, x.w.s21, x.w.s22, x.w.s23, x.w.s30, x.w.s31, x.w.s32, x.w.s33, x.w.dly, x.w.cl, x.w.ch, x.w.al, x.w.ah, x.o0, x.o1, x.o2, x.o3, x.o4, x.o5, x.o6, x.p0, x.p1, x.p2, x.p3, x.p4, ()) = x := casOf_D x
theorem cas_ex (x : CasD) : ∃ c : Cas, x = casD c := ⟨casOf x, by
 unfold casD casOf Cas.w Cas.o0 Cas.o1 Cas.o2 Cas.o3 Cas.o4 Cas.o5 Cas.o6 Cas.p0 Cas.p1 Cas.p2 Cas.p3 Cas.p4 wtOf celOf crvOf Cel.cap Cel.ocv Cel.shift Cel.cold Cel.extra Cel.pair Cel.keep Cel.leak Cel.hcap Cel.cool Cel.stress Cel.cyc Cel.agel Cel.grow Crv.nx Crv.x Crv.ny Crv.y Wt.cel Wt.tn Wt.tl Wt.th Wt.bn Wt.bl Wt.bh Wt.s00 Wt.s01 Wt.s02 Wt.s03 Wt.s10 Wt.s11 Wt.s12 Wt.s13 Wt.s20 Wt.s21 Wt.s22 Wt.s23 Wt.s30 Wt.s31 Wt.s32 Wt.s33 Wt.dly Wt.cl Wt.ch Wt.al Wt.ah; rfl⟩
@[reducible] def casSh : Sh := .agg [.int .i64, intsSh, intsSh, .int .i64, intsSh, intsSh, .int .i64, .int .i64, .int .i64, .int .i64, .int .i64, .int .i64, intsSh, intsSh, .int .i64, .int .i64, .int .i64, spnSh, spnSh, .int .i64, .int .i64, .int .i64, .int .i64, .int .i64, .int .i64, .int .i64, .int .i64, .int .i64, .int .i64, .int .i64, .int .i64, .int .i64, .int .i64, .int .i64, .int .i64, .int .i64, .int .i64, .int .i64, .int .i64, .int .i64, .int .u16, .int .u16, .int .u16, .int .u16, .int .u16, .int .u16, .int .u16, .int .u16, .int .u16, .int .u16, .int .u16, .int .u16]
@[irreducible] def sel7 (a b c d e f g : Int) (k : Nat) : Int := match k with | 0 => a | 1 => b | 2 => c | 3 => d | 4 => e | 5 => f | _ => g
@[irreducible] def casT (x : Cas) (k : Nat) : Int := btV (x.w.tl k) (x.w.th k) (sel7 x.o0 x.o1 x.o2 x.o3 x.o4 x.o5 x.o6 k)
@[irreducible] def casB (x : Cas) (k : Nat) : Int := btV (x.w.bl k) (x.w.bh k) (sel5 x.p0 x.p1 x.p2 x.p3 x.p4 k)
@[irreducible] def casC (x : Cas) : Cel := mvC x.w.cel (casT x)
theorem casC_eq (x : Cas) : casC x = mvC x.w.cel (casT x) := by unfold casC; rfl
@[irreducible] def casS (x : Cas) : Sta := ⟨casB x 0, casB x 1, casB x 2, casB x 3, casB x 4⟩
theorem casS_n (x : Cas) : (casS x).q = casB x 0 /\ (casS x).rx = casB x 1 /\ (casS x).tp = casB x 2 /\ (casS x).th = casB x 3 /\ (casS x).ag = casB x 4 := by unfold casS; simp
def PartIn (p : Int) : Prop := 0 <= p /\ p <= 65535
structure CasIn (x : Cas) : Prop where
 tn : x.w.tn <= maxLen
 o0 : PartIn x.o0
 o1 : PartIn x.o1
 o2 : PartIn x.o2
 o3 : PartIn x.o3
 o4 : PartIn x.o4
 o5 : PartIn x.o5
 o6 : PartIn x.o6
 p0 : PartIn x.p0
 p1 : PartIn x.p1
 p2 : PartIn x.p2
 p3 : PartIn x.p3
 p4 : PartIn x.p4
theorem part_in {p : Int} (h : InR .u16 p) : PartIn p := by
 simp [InR, IntKind.min, IntKind.max, IntKind.signed, IntKind.bits] at h
 exact ⟨h.1, by omega⟩
theorem cas_in {x : Cas} (h : ValidL [casSh] (casD x, ())) : CasIn x := by
 have h : Valid casSh (casD x) := h.1
 exact ⟨h.2.2.2.2.2.2.2.2.2.2.2.2.2.2.2.2.2.1.1, part_in h.2.2.2.2.2.2.2.2.2.2.2.2.2.2.2.2.2.2.2.2.2.2.2.2.2.2.2.2.2.2.2.2.2.2.2.2.2.2.2.2.1, part_in h.2.2.2.2.2.2.2.2.2.2.2.2.2.2.2.2.2.2.2.2.2.2.2.2.2.2.2.2.2.2.2.2.2.2.2.2.2.2.2.2.2.1, part_in h.2.2.2.2.2.2.2.2.2.2.2.2.2.2.2.2.2.2.2.2.2.2.2.2.2.2.2.2.2.2.2.2.2.2.2.2.2.2.2.2.2.2.1, part_in h.2.2.2.2.2.2.2.2.2.2.2.2.2.2.2.2.2.2.2.2.2.2.2.2.2.2.2.2.2.2.2.2.2.2.2.2.2.2.2.2.2.2.2.1, part_in h.2.2.2.2.2.2.2.2.2.2.2.2.2.2.2.2.2.2.2.2.2.2.2.2.2.2.2.2.2.2.2.2.2.2.2.2.2.2.2.2.2.2.2.2.1, part_in h.2.2.2.2.2.2.2.2.2.2.2.2.2.2.2.2.2.2.2.2.2.2.2.2.2.2.2.2.2.2.2.2.2.2.2.2.2.2.2.2.2.2.2.2.2.1, part_in h.2.2.2.2.2.2.2.2.2.2.2.2.2.2.2.2.2.2.2.2.2.2.2.2.2.2.2.2.2.2.2.2.2.2.2.2.2.2.2.2.2.2.2.2.2.2.1, part_in h.2.2.2.2.2.2.2.2.2.2.2.2.2.2.2.2.2.2.2.2.2.2.2.2.2.2.2.2.2.2.2.2.2.2.2.2.2.2.2.2.2.2.2.2.2.2.2.1, part_in h.2.2.2.2.2.2.2.2.2.2.2.2.2.2.2.2.2.2.2.2.2.2.2.2.2.2.2.2.2.2.2.2.2.2.2.2.2.2.2.2.2.2.2.2.2.2.2.2.1, part_in h.2.2.2.2.2.2.2.2.2.2.2.2.2.2.2.2.2.2.2.2.2.2.2.2.2.2.2.2.2.2.2.2.2.2.2.2.2.2.2.2.2.2.2.2.2.2.2.2.2.1, part_in h.2.2.2.2.2.2.2.2.2.2.2.2.2.2.2.2.2.2.2.2.2.2.2.2.2.2.2.2.2.2.2.2.2.2.2.2.2.2.2.2.2.2.2.2.2.2.2.2.2.2.1, part_in h.2.2.2.2.2.2.2.2.2.2.2.2.2.2.2.2.2.2.2.2.2.2.2.2.2.2.2.2.2.2.2.2.2.2.2.2.2.2.2.2.2.2.2.2.2.2.2.2.2.2.2.1⟩
def truA : Spec [casSh] := ⟨fun (x, _) => CasIn (casOf x) /\ ¬ (shtB (casOf x).w.cel = true /\ wcB (casOf x).w = true), fun _ => .tup [.agg [.li .i64 0, .v (.slice none 0 0), .v (.slice none 0 0), .li .i64 0, .v (.slice none 0 0), .v (.slice none 0 0), .li .i64 0, .li .i64 0, .li .i64 0, .li .i64 0, .li .i64 0, .li .i64 0, .v (.slice none 0 0), .v (.slice none 0 0), .li .i64 0, .li .i64 0, .li .i64 0], .agg [.li .i64 0, .li .i64 0, .li .i64 0, .li .i64 0, .li .i64 0], .lb false]⟩
noncomputable def SKu0 : Sums := ⟨(68, mkSum _ cstS) :: (67, mkSum _ ofS) :: (66, mkSum _ aplS) :: (9, mkSum _ wckS) :: (7, mkSum _ shtS) :: SKt.one, SKt.two, SKt.lo, SKt.eqs, SKt.its, SKt.imm⟩
theorem SKu0_ok : SumsOK Tryz.prog SKu0 := (((((SKt_ok.cons Tryz.func7 (by kernel_rfl) (by kernel_rfl) sht_ok).cons Tryz.func9 (by kernel_rfl) (by kernel_rfl) wck_ok).cons Tryz.func66 (by kernel_rfl) (by kernel_rfl) apl_ok).cons Tryz.func67 (by kernel_rfl) (by kernel_rfl) of_ok).cons Tryz.func68 (by kernel_rfl) (by kernel_rfl) cst_ok)
set_option maxRecDepth 100000 in
set_option maxHeartbeats 4000000 in
theorem truA_ok : FnSpec Tryz.prog 20 _ truA := by
 refine FnSpec.of SKu0_ok mixed (U := 0) (I := fun _ => []) Tryz.func20 rfl (by kernel_rfl) rfl rfl (by decide +kernel) ?_
 rintro ⟨x, ⟨⟩⟩ hpre
 obtain ⟨x, rfl⟩ := cas_ex x
 have hpre : CasIn x /\ ¬ (shtB x.w.cel = true /\ wcB x.w = true) := by have : CasIn (casOf (casD x)) /\ ¬ (shtB (casOf (casD x)).w.cel = true /\ wcB (casOf (casD x)).w = true) := hpre; rwa [casOf_D] at this
 obtain ⟨hi, hno⟩ := hpre
 have ht := hi.tn
 unfold FnSat
 conv => arg 2; reduce
 simp [-Bool.forall_bool, truA, shtS, wckS, and_assoc]
 exact ⟨fun h => ⟨shtB_max h, ht⟩, fun h1 h2 => absurd ⟨h1, h2⟩ hno⟩
def aplL : Spec [celSh, intsSh] := ⟨fun (c, x, _) => CelMax (celOf c) /\ celB (celOf c) = true /\ x.1 = 7 /\ (∀ k : Nat, k < 7 -> isQ (x.2 k).1 = true) /\ celB (mvC (celOf c) (fun k => (x.2 k).1)) = true, fun (c, (_, el), _) => .tup [enc celSh (celD (mvC (celOf c) (fun k => (el k).1))), .li .i64 0]⟩
def aplLI : DatL [celSh, intsSh] -> Anns := fun (c, (n, el), _) => [
 (4, [], fun fr hp => ⟨Nat, fun g => ⟨frI [.k 7, .t 1, .k 14, .s (.si .i64 (icast g)), .t 8, .k 9] fr, hp⟩, Nat × Nat, fun g => (g, n), fun (g, n) => g <= n, fun g => nsub n g⟩)]
set_option maxRecDepth 100000 in
set_option maxHeartbeats 4000000 in
theorem aplL_ok : FnSpec Tryz.prog 66 _ aplL := by
 refine FnSpec.of SAb_ok mixed (U := 0) (I := aplLI) Tryz.func66 rfl (by kernel_rfl) rfl rfl (by decide +kernel) ?_
 rintro ⟨c, ⟨n, el⟩, ⟨⟩⟩ hpre
 obtain ⟨c, rfl⟩ := cel_ex c
 obtain ⟨v, rfl⟩ : ∃ v : Nat -> Int, el = fun k => (v k, ()) := ⟨fun k => (el k).1, rfl⟩
 have hpre : CelMax c /\ celB c = true /\ n = 7 /\ (∀ k : Nat, k < 7 -> isQ (v k) = true) /\ celB (mvC c v) = true := by have : CelMax (celOf (celD c)) /\ celB (celOf (celD c)) = true /\ n = 7 /\ (∀ k : Nat, k < 7 -> isQ (v k) = true) /\ celB (mvC (celOf (celD c)) v) = true := hpre; rwa [celOf_D] at this
 obtain ⟨hc, h1, rfl, h2, h3⟩ := hpre
 unfold FnSat
 conv => arg 2; reduce
 simp [aplL, ccheckS, num0, isqS, moAp, kepS, enc_cel, celOf_mv, ElEq, getB, goneB, aliveB, and_assoc]
 refine ⟨hc, h1, fun _ => ⟨⟨0, rfl, by omega⟩, fun g hg => ⟨fun hlt => ⟨hlt, h2 g (by omega), fun _ => ⟨by omega, by omega, g + 1, by omega, by omega, by omega⟩⟩, fun _ => ⟨h1, ?_, mvM hc v, h3, fun hb => (celB_iff.1 hb).few⟩⟩⟩⟩
 unfold ofsB
 intro k hk
 exact isQ_iff.1 (h2 k hk)
def ofL : Spec [intsSh] := ⟨fun (x, _) => x.1 = 5, fun ((n, el), _) => .tup [.agg [.si .i64 (el 0).1, .si .i64 (el 1).1, .si .i64 (el 2).1, .si .i64 (el 3).1, .si .i64 (el 4).1], .li .i64 0]⟩
set_option maxRecDepth 100000 in
theorem ofL_ok : FnSpec Tryz.prog 67 _ ofL := by
 refine FnSpec.of SVa_ok mixed (U := 6) (I := fun _ => []) Tryz.func67 rfl (by kernel_rfl) rfl rfl (by decide +kernel) ?_
 rintro ⟨⟨n, el⟩, ⟨⟩⟩ hpre
 obtain rfl : n = 5 := hpre
 obtain ⟨v, rfl⟩ : ∃ v : Nat -> Int, el = fun k => (v k, ()) := ⟨fun k => (el k).1, rfl⟩
 unfold FnSat
 conv => arg 2; reduce
 simp [ofL, partsF]
noncomputable def SKu1 : Sums := ⟨(67, mkSum _ ofL) :: (66, mkSum _ aplL) :: SKu0.one, SKu0.two, SKu0.lo, SKu0.eqs, SKu0.its, SKu0.imm⟩
theorem SKu1_ok : SumsOK Tryz.prog SKu1 := ((SKu0_ok.cons Tryz.func66 (by kernel_rfl) (by kernel_rfl) aplL_ok).cons Tryz.func67 (by kernel_rfl) (by kernel_rfl) ofL_ok)
end
end Abs
end Go.Proofs.YtlabbaglbcmofaaGreat

namespace Go.Proofs.YtlabbaglbcmofaaGreat
namespace Abs
open Go Go.RowKit
theorem in_up {c : Cel} {lo hi d bl bh : Nat -> Int} {s : Sta} {i : Nat} {x y : Int} (h : InBox c lo hi d bl bh s) (hc : ChkOK c 7 lo hi 5 (upB i x bl) (upB i y bh)) (h1 : x <= stV s i) (h2 : stV s i <= y) : InBox c lo hi d (upB i x bl) (upB i y bh) s := by
 refine ⟨hc, h.dd, fun k hk => ?_, h.st⟩
 by_cases e : k = i
 ·subst e; rw [upB_at, upB_at]; exact ⟨h1, h2⟩
 ·rw [upB_ne _ _ e, upB_ne _ _ e]; exact h.ss k hk
theorem sp_has {h : Bool} {a b c d x n : Int} (hs : sensOK a b c d = true) (x0 : -1099511627776 <= x) (x1 : x <= 1099511627776) (hn : isIn (-a) n a = true) :
  spL h a b c d (showV a b c d x n) <= x /\ x <= spH h a b c d (showV a b c d x n) /\ spE h a b c d (showV a b c d x n) = 0 := by
 cases h with
 | false => rw [spL_f, spH_f, spE_f]; exact ⟨x0, x1, rfl⟩
 | true =>
   rw [spL_t, spH_t, spE_t]
   have hx : isQ x = true := isQ_iff.2 ⟨x0, x1⟩
   have hr := show_ok_read hs hx hn
   obtain ⟨e1, _⟩ := showE_0 (by rw [hs, hx]; rfl) hn
   have hf := fnd_end hs hr x0 x1
   have hn' : -a <= n /\ n <= a := by simpa using hn
   have hi : fndV a b c d (showV a b c d x n) x (a + 1) = true := fnd_iff.2 ⟨n, hn'.1, by omega, e1.symm⟩
   rw [hi] at hf
   have hf := hf.symm
   rw [Bool.and_eq_true, decide_eq_true_eq, decide_eq_true_eq] at hf
   exact ⟨hf.1, hf.2, (beh_0 hs hr).2.2⟩
theorem ch_has {w : Wt} {d L H : Nat -> Int} {s : Sta} {c0 c1 i a0 a1 : Int} (hb : InBox w.cel w.tl w.th d L H s) (ht : w.tn = 7) (hi : insV (-1048576) c0 c1 1048576 = true) (i0 : c0 <= i) (i1 : i <= c1)
  (v0 : a0 <= voltV (mvC w.cel d) s i) (v1 : voltV (mvC w.cel d) s i <= a1) : chL w 5 L H c0 c1 a0 <= s.q /\ s.q <= chH w 5 L H c0 c1 a1 := by
 have q0 := hb.ss 0 (by decide)
 have eq := (stV_n s).1
 rw [eq] at q0
 have hc : ChkOK w.cel w.tn w.tl w.th 5 L H := by rw [ht]; exact hb.chk
 have hcu := chk_up hc (box_up0 hc.bx q0.1 (Int.le_refl s.q) q0.2)
 have hbq : InBox w.cel w.tl w.th d (upB 0 s.q L) (upB 0 s.q H) s := in_up hb (by rw [ht] at hcu; exact hcu) (by rw [eq]; exact Int.le_refl _) (by rw [eq]; exact Int.le_refl _)
 have v := in_volt hbq i0 i1
 obtain ⟨e1, e2⟩ := vb_ok' hcu hi
 have pa : pA w 5 L H c0 c1 a0 s.q = true := by unfold pA; rw [e2]; simp; omega
 have pb : pB w 5 L H c0 c1 a1 s.q = false := by unfold pB; rw [e1]; simp; omega
 have ma := fstZ_in (pA w 5 L H c0 c1 a0) (H 0 - L 0 + 1).toNat (L 0)
 have mb := fstZ_in (pB w 5 L H c0 c1 a1) (H 0 - L 0 + 1).toNat (L 0)
 have mono := pB_mono (v := a1) hc hi
 constructor
 ·unfold chL
  by_cases h : fstZ (pA w 5 L H c0 c1 a0) (L 0) (H 0 - L 0 + 1).toNat <= s.q
  ·exact h
  ·have := ma.2.2.1 s.q q0.1 (by omega)
   rw [pa] at this; cases this
 ·unfold chH
  by_cases h : s.q < fstZ (pB w 5 L H c0 c1 a1) (L 0) (H 0 - L 0 + 1).toNat
  ·omega
  ·have f := mb.2.2.2 (by omega)
   have := mono.mono _ s.q mb.1 (by omega) (by omega) f
   rw [pb] at this; cases this
theorem volt_rx (c : Cel) (s : Sta) (i : Int) : voltV c ⟨s.q, 0, s.tp, s.th, s.ag⟩ i = voltV c s i + s.rx := by
 unfold voltV opnV fillV kV rV wV
 simp only [Sta.q_mk, Sta.rx_mk, Sta.tp_mk, Sta.th_mk, Sta.ag_mk]
 omega
theorem rx_has {w : Wt} {d L H : Nat -> Int} {s : Sta} {c0 c1 i a0 a1 : Int} (hb : InBox w.cel w.tl w.th d L H s) (ht : w.tn = 7) (hi : insV (-1048576) c0 c1 1048576 = true) (i0 : c0 <= i) (i1 : i <= c1)
  (v0 : a0 <= voltV (mvC w.cel d) s i) (v1 : voltV (mvC w.cel d) s i <= a1) : rxL w 5 L H c0 c1 a1 <= s.rx /\ s.rx <= rxH w 5 L H c0 c1 a0 := by
 have r0 := hb.ss 1 (by decide)
 have er := (stV_n s).2.1
 rw [er] at r0
 have hc : ChkOK w.cel w.tn w.tl w.th 5 L H := by rw [ht]; exact hb.chk
 have hcu := chk_up hc (box_up1 (x := 0) (y := 0) hc.bx (by decide) (by decide) (by decide))
 have st := hb.st
 have hs0 : InBox w.cel w.tl w.th d (upB 1 0 L) (upB 1 0 H) ⟨s.q, 0, s.tp, s.th, s.ag⟩ := by
  refine ⟨by rw [ht] at hcu; exact hcu, hb.dd, fun k hk => ?_, ?_⟩
  ·obtain ⟨s0, s1, s2, s3, s4⟩ := stV_n s
   obtain ⟨z0, z1, z2, z3, z4⟩ := stV_n ⟨s.q, 0, s.tp, s.th, s.ag⟩
   have h := hb.ss k hk
   have : k = 0 \/ k = 1 \/ k = 2 \/ k = 3 \/ k = 4 := by omega
   rcases this with rfl | rfl | rfl | rfl | rfl
   ·rw [upB_ne _ _ (by decide), upB_ne _ _ (by decide), z0, Sta.q_mk]; rwa [s0] at h
   ·rw [upB_at, upB_at, z1, Sta.rx_mk]; exact ⟨Int.le_refl _, Int.le_refl _⟩
   ·rw [upB_ne _ _ (by decide), upB_ne _ _ (by decide), z2, Sta.tp_mk]; rwa [s2] at h
   ·rw [upB_ne _ _ (by decide), upB_ne _ _ (by decide), z3, Sta.th_mk]; rwa [s3] at h
   ·rw [upB_ne _ _ (by decide), upB_ne _ _ (by decide), z4, Sta.ag_mk]; rwa [s4] at h
  ·constructor
   ·rw [Sta.tp_mk]; exact st.t0
   ·rw [Sta.tp_mk]; exact st.t1
   ·rw [Sta.th_mk]; exact st.h0
   ·rw [Sta.th_mk]; exact st.h1
   ·rw [Sta.ag_mk]; exact st.a0
   ·rw [Sta.ag_mk]; exact st.a1
   ·rw [Sta.rx_mk]; decide
   ·rw [Sta.rx_mk]; decide
   ·rw [Sta.q_mk]; exact st.q0
   ·rw [Sta.q_mk, Sta.th_mk, Sta.ag_mk]; exact st.q1
 have v := in_volt hs0 i0 i1
 rw [volt_rx] at v
 obtain ⟨e1, e2⟩ := vb_ok' hcu hi
 unfold rxL rxH
 rw [e1, e2]
 omega
theorem keep_b {e : Ew} {d : Nat -> Int} {s : Sta} {i am a0 a1 a2 a3 a4 a5 a6 a7 : Int} (hk : EwOK e) (hb : InBox e.w.cel e.w.tl e.w.th d e.l e.h s) (i0 : e.w.cl <= i) (i1 : i <= e.w.ch) (m0 : e.w.al <= am) (m1 : am <= e.w.ah)
  (v0 : a0 <= voltV (mvC e.w.cel d) s i) (v1 : voltV (mvC e.w.cel d) s i <= a1) (v2 : a2 <= i) (v3 : i <= a3) (v4 : a4 <= s.tp) (v5 : s.tp <= a5) (v6 : a6 <= am) (v7 : am <= a7) :
  tlB e a0 a1 a2 a3 a4 a5 a6 a7 = true /\ InBox e.w.cel e.w.tl e.w.th d (t3L e a0 a1 a2 a3 a4 a5) (t3H e a0 a1 a2 a3 a4 a5) s := by
 have h5 := ew_five hk
 have ht := hk.chk.n
 have hA : inA e.w a2 a3 = true := by unfold inA; simp only [decide_eq_true_eq]; omega
 have hin : inpW e.w a2 a3 a6 a7 = true := by unfold inpW; rw [hA]; simp only [Bool.true_and, decide_eq_true_eq]; omega
 obtain ⟨c1, c2⟩ := ckI hk hin
 have j0 : mxI e.w.cl a2 <= i := by unfold mxI; omega
 have j1 : i <= mnI e.w.ch a3 := by unfold mnI; omega
 obtain ⟨s0, s1, s2, s3, s4⟩ := stV_n s
 have b2 := hb.ss 2 (by decide)
 rw [s2] at b2
 have g0 : mxI (e.l 2) a4 <= s.tp := by unfold mxI; omega
 have g1 : s.tp <= mnI (e.h 2) a5 := by unfold mnI; omega
 have k1 := ck1 hk (Int.le_trans g0 g1)
 have fx : ∀ {L H : Nat -> Int}, ChkOK e.w.cel e.w.tn e.w.tl e.w.th e.n L H -> ChkOK e.w.cel 7 e.w.tl e.w.th 5 L H := fun h => by rw [ht, h5] at h; exact h
 have hb1 : InBox e.w.cel e.w.tl e.w.th d (t1L e a4) (t1H e a5) s := in_up hb (fx k1) (by rw [s2]; exact g0) (by rw [s2]; exact g1)
 have hq := ch_has hb1 ht c1 j0 j1 v0 v1
 rw [<- h5] at hq
 have k2 := ck2 k1 (Int.le_trans hq.1 hq.2)
 have hb2 : InBox e.w.cel e.w.tl e.w.th d (t2L e a0 a2 a3 a4 a5) (t2H e a1 a2 a3 a4 a5) s := in_up hb1 (fx k2) (by rw [s0]; exact hq.1) (by rw [s0]; exact hq.2)
 have hr := rx_has hb2 ht c1 j0 j1 v0 v1
 rw [<- h5] at hr
 have k3 := ck3 k2 (Int.le_trans hr.1 hr.2)
 have hb3 : InBox e.w.cel e.w.tl e.w.th d (t3L e a0 a1 a2 a3 a4 a5) (t3H e a0 a1 a2 a3 a4 a5) s := in_up hb2 (fx k3) (by rw [s1]; exact hr.1) (by rw [s1]; exact hr.2)
 exact ⟨tlB_iff.2 ⟨hin, Int.le_trans g0 g1, Int.le_trans hq.1 hq.2, Int.le_trans hr.1 hr.2⟩, hb3⟩
theorem far_ok {c : Cel} {lo hi d bl bh : Nat -> Int} {s : Sta} {a b i u v t : Int} (h : InBox c lo hi d bl bh s) (hI : insV (-1048576) a b 1048576 = true) (hU : insV 0 u v 400000 = true) (h1 : a <= i) (h2 : i <= b) (g1 : u <= t) (g2 : t <= v)
  (hf : farB (widV c lo hi 5 bl bh) a b = true) : stAE (mvC c d) s i t = 0 := by
 have n3 := (in_next h hI h1 h2 g1 g2 3 (by decide)).2
 have n4 := (in_next h hI h1 h2 g1 g2 4 (by decide)).2
 obtain ⟨_, _, _, z3, z4⟩ := stV_n ⟨nxQ (mvC c d) s i, nxR (mvC c d) s i, nxT (mvC c d) s i t, nxH s i, nxA (mvC c d) s⟩
 rw [z3, Sta.th_mk, (nb_3 _ _ _ _ _).2] at n3
 rw [z4, Sta.ag_mk, (nb_4 _ _ _ _ _).2] at n4
 obtain ⟨f1, f2⟩ := farB_iff.1 hf
 obtain ⟨i0, i1, i2⟩ := insV_iff.1 hI
 obtain ⟨j0, j1, j2⟩ := insV_iff.1 hU
 refine (stA_iff h.cs).1.2 ⟨inB_iff.2 ⟨⟨by omega, by omega⟩, by omega, by omega⟩, ?_⟩
 unfold ovr
 simp only [Bool.or_eq_false_iff, decide_eq_false_iff_not]
 omega
theorem keep_tk {e : Ew} {d : Nat -> Int} {s : Sta} {i am n0 n1 n2 n3 : Int} (h0 h1 h2 h3 : Bool) (hk : EwOK e) (hg : e.gn = false) (hb : InBox e.w.cel e.w.tl e.w.th d e.l e.h s) (i0 : e.w.cl <= i) (i1 : i <= e.w.ch) (m0 : e.w.al <= am) (m1 : am <= e.w.ah)
  (q0 : isIn (-e.w.s00) n0 e.w.s00 = true) (q1 : isIn (-e.w.s10) n1 e.w.s10 = true) (q2 : isIn (-e.w.s20) n2 e.w.s20 = true) (q3 : isIn (-e.w.s30) n3 e.w.s30 = true) {v0 v1 v2 v3 : Int}
  (r0 : v0 = showV e.w.s00 e.w.s01 e.w.s02 e.w.s03 (voltV (mvC e.w.cel d) s i) n0) (r1 : v1 = showV e.w.s10 e.w.s11 e.w.s12 e.w.s13 i n1) (r2 : v2 = showV e.w.s20 e.w.s21 e.w.s22 e.w.s23 s.tp n2) (r3 : v3 = showV e.w.s30 e.w.s31 e.w.s32 e.w.s33 am n3) :
  ewE e h0 h1 h2 h3 v0 v1 v2 v3 = 4 \/ (ewE e h0 h1 h2 h3 v0 v1 v2 v3 = 0 /\ stAE (mvC e.w.cel d) s i am = 0 /\ InBox e.w.cel e.w.tl e.w.th d (ewN e h0 h1 h2 h3 v0 v1 v2 v3).l (ewN e h0 h1 h2 h3 v0 v1 v2 v3).h (stA (mvC e.w.cel d) s i am) /\
   (ewN e h0 h1 h2 h3 v0 v1 v2 v3).gn = false /\ (ewN e h0 h1 h2 h3 v0 v1 v2 v3).tk = e.tk + 1) := by
 obtain ⟨_, _, _, w3, w4, z0, z1, z2, z3⟩ := wcB_iff.1 hk.wat
 obtain ⟨c0, c1, c2⟩ := insV_iff.1 w3
 obtain ⟨u0, u1, u2⟩ := insV_iff.1 w4
 have hst := hb.st
 have hvi := voltV_in hb.cel hst (show -1048576 <= i by omega) (show i <= 1048576 by omega)
 have t0 := hst.t0
 have t1 := hst.t1
 obtain ⟨a0, a1, e0⟩ := sp_has (h := h0) z0 (show -1099511627776 <= voltV (mvC e.w.cel d) s i by omega) (by omega) q0
 obtain ⟨a2, a3, e1⟩ := sp_has (h := h1) z1 (show -1099511627776 <= i by omega) (by omega) q1
 obtain ⟨a4, a5, e2⟩ := sp_has (h := h2) z2 (show -1099511627776 <= s.tp by omega) (by omega) q2
 obtain ⟨a6, a7, e3⟩ := sp_has (h := h3) z3 (show -1099511627776 <= am by omega) (by omega) q3
 rw [<- r0] at a0 a1 e0
 rw [<- r1] at a2 a3 e1
 rw [<- r2] at a4 a5 e2
 rw [<- r3] at a6 a7 e3
 have hq := rd_yes e0 e1 e2 e3
 obtain ⟨hT, hB⟩ := keep_b hk hb i0 i1 m0 m1 a0 a1 a2 a3 a4 a5 a6 a7
 have HF := ew_far hg hq hT
 have HK := ew_ok hg hq hT
 generalize spL h0 e.w.s00 e.w.s01 e.w.s02 e.w.s03 v0 = A0 at *
 generalize spH h0 e.w.s00 e.w.s01 e.w.s02 e.w.s03 v0 = A1 at *
 generalize spL h1 e.w.s10 e.w.s11 e.w.s12 e.w.s13 v1 = A2 at *
 generalize spH h1 e.w.s10 e.w.s11 e.w.s12 e.w.s13 v1 = A3 at *
 generalize spL h2 e.w.s20 e.w.s21 e.w.s22 e.w.s23 v2 = A4 at *
 generalize spH h2 e.w.s20 e.w.s21 e.w.s22 e.w.s23 v2 = A5 at *
 generalize spL h3 e.w.s30 e.w.s31 e.w.s32 e.w.s33 v3 = A6 at *
 generalize spH h3 e.w.s30 e.w.s31 e.w.s32 e.w.s33 v3 = A7 at *
 obtain ⟨hin, _⟩ := tlB_iff.1 hT
 obtain ⟨k1, k2⟩ := ckI hk hin
 have h5 := ew_five hk
 have hA : inA e.w A2 A3 = true := by unfold inA; simp only [decide_eq_true_eq]; omega
 cases hf : farB (widV e.w.cel e.w.tl e.w.th e.n (t3L e A0 A1 A2 A3 A4 A5) (t3H e A0 A1 A2 A3 A4 A5)) (mxI e.w.cl A2) (mnI e.w.ch A3) with
 | false =>
   left
   exact (HF (by unfold tlX; rw [hf]; simp)).1.symm
 | true =>
   right
   have hX : tlX e A0 A1 A2 A3 A4 A5 A6 A7 = 0 := by unfold tlX; rw [hf]; simp
   obtain ⟨g1, g2, g3, g4⟩ := HK hX
   have j0 : mxI e.w.cl A2 <= i := by unfold mxI; omega
   have j1 : i <= mnI e.w.ch A3 := by unfold mnI; omega
   have j2 : in2 e.w A2 A3 A6 <= am := by unfold in2; rw [if_pos hA]; omega
   have j3 : am <= in3 e.w A2 A3 A7 := by unfold in3; rw [if_pos hA]; omega
   rw [h5] at hf g2
   have hs := far_ok hB k1 k2 j0 j1 j2 j3 hf
   have hN := in_go hB k1 k2 j0 j1 j2 j3 hf hs
   have eL : (ewN e h0 h1 h2 h3 v0 v1 v2 v3).l = nbL (widV e.w.cel e.w.tl e.w.th 5 (t3L e A0 A1 A2 A3 A4 A5) (t3H e A0 A1 A2 A3 A4 A5)) (mxI e.w.cl A2) (mnI e.w.ch A3) (in2 e.w A2 A3 A6) (in3 e.w A2 A3 A7) := funext fun j => ((g2 j).1).symm
   have eH : (ewN e h0 h1 h2 h3 v0 v1 v2 v3).h = nbH (widV e.w.cel e.w.tl e.w.th 5 (t3L e A0 A1 A2 A3 A4 A5) (t3H e A0 A1 A2 A3 A4 A5)) (mxI e.w.cl A2) (mnI e.w.ch A3) (in2 e.w A2 A3 A6) (in3 e.w A2 A3 A7) := funext fun j => ((g2 j).2).symm
   rw [eL, eH]
   exact ⟨g1.symm, hs, hN, by rw [<- g4]; exact hg, by omega⟩
end Abs
end Go.Proofs.YtlabbaglbcmofaaGreat

namespace Go.Proofs.YtlabbaglbcmofaaGreat
namespace Abs
open Go Go.RowKit
noncomputable section
attribute [local irreducible] FnSat
theorem sel7_in {a b c d e f g : Int} (ha : PartIn a) (hb : PartIn b) (hc : PartIn c) (hd : PartIn d) (he : PartIn e) (hf : PartIn f) (hg : PartIn g) (k : Nat) : PartIn (sel7 a b c d e f g k) := by
 unfold sel7
 split <;> assumption
theorem cas_box {x : Cas} (hi : CasIn x) (hw : wcB x.w = true) (hc : csE (casC x) (casS x) = 0) : InBox x.w.cel x.w.tl x.w.th (casT x) x.w.bl x.w.bh (casS x) := by
 have hk := chk_iff.1 (wcB_iff.1 hw).1
 have hk' := hk
 rw [hk.n, hk.m] at hk'
 have SB : ∀ k, k < 5 -> spanOK (x.w.bl k) (x.w.bh k) = true := by
  obtain ⟨q0, q1, q2, q3, q4, q5, q6, q7, q8, q9, q10, q11, q12, q13, q14⟩ := hk.bx
  intro k hk
  match k, hk with
  | 0, _ => exact spanOK_iff.2 (by omega)
  | 1, _ => exact spanOK_iff.2 (by omega)
  | 2, _ => exact spanOK_iff.2 (by omega)
  | 3, _ => exact spanOK_iff.2 (by omega)
  | 4, _ => exact spanOK_iff.2 (by omega)
 have bt : ∀ {lo hi p : Int}, spanOK lo hi = true -> PartIn p -> lo <= btV lo hi p /\ btV lo hi p <= hi := fun {lo hi p} h hp => by
  have h := spanOK_iff.1 h
  exact bt_in h.2.2 (by omega) hp.1 hp.2
 refine ⟨hk', fun k hk2 => ?_, fun k hk2 => ?_, ?_⟩
 ·unfold casT
  exact bt (hk.le k hk2) (sel7_in hi.o0 hi.o1 hi.o2 hi.o3 hi.o4 hi.o5 hi.o6 k)
 ·have hs : stV (casS x) k = casB x k := by
   obtain ⟨s0, s1, s2, s3, s4⟩ := stV_n (casS x)
   obtain ⟨c0, c1, c2, c3, c4⟩ := casS_n x
   have : k = 0 \/ k = 1 \/ k = 2 \/ k = 3 \/ k = 4 := by omega
   rcases this with rfl | rfl | rfl | rfl | rfl
   ·rw [s0, c0]
   ·rw [s1, c1]
   ·rw [s2, c2]
   ·rw [s3, c3]
   ·rw [s4, c4]
  rw [hs]
  have hp : PartIn (sel5 x.p0 x.p1 x.p2 x.p3 x.p4 k) := by
   have : k = 0 \/ k = 1 \/ k = 2 \/ k = 3 \/ k = 4 := by omega
   rcases this with rfl | rfl | rfl | rfl | rfl
   ·unfold sel5; exact hi.p0
   ·unfold sel5; exact hi.p1
   ·unfold sel5; exact hi.p2
   ·unfold sel5; exact hi.p3
   ·unfold sel5; exact hi.p4
  unfold casB
  exact bt (SB k hk2) hp
 ·have := (csE_iff.1 hc).2
  rwa [casC_eq] at this
end
end Abs
end Go.Proofs.YtlabbaglbcmofaaGreat

namespace Go.Proofs.YtlabbaglbcmofaaGreat
namespace Abs
open Go Go.RowKit
noncomputable section
attribute [local irreducible] FnSat
@[irreducible] def truOK (x : Cas) : Bool := decide (csE (casC x) (casS x) = 0)
theorem truOK_iff {x : Cas} : truOK x = true ↔ csE (casC x) (casS x) = 0 := by unfold truOK; simp
def truB : Spec [casSh] := ⟨fun (x, _) => CasIn (casOf x) /\ shtB (casOf x).w.cel = true /\ wcB (casOf x).w = true,
 fun (x, _) => .tup [enc celSh (celD (casC (casOf x))), enc staSh (staD (casS (casOf x))), .sb (truOK (casOf x))]⟩
@[reducible] def cutC (x : Cas) : List AV -> Heap -> Ann := fun fr hp => ⟨Nat, fun _ => ⟨frI [.k 5, .t 1, .k 3, .s (.own 5 0), .s (.li .i64 0), .t 92] fr, appH (setB hp 3 .dead) [.cells 26 (cellsA (enc celSh (celD (casC x))))]⟩, Nat, fun z => z, fun _ => True, fun _ => 0⟩
theorem cutC_q (x : Cas) (fr : List AV) (hp : Heap) (z : Nat) : (cutC x fr hp).q z = True := rfl
theorem selD_in {a b c d e f g : Int} (ha : PartIn a) (hb : PartIn b) (hc : PartIn c) (hd : PartIn d) (he : PartIn e) (hf : PartIn f) (hg : PartIn g) (k : Nat) : PartIn (sel7 a b c d e f g k) := by
 unfold sel7
 split <;> assumption
theorem casT_in {x : Cas} (hi : CasIn x) (hk : ∀ k, k < 7 -> spanOK (x.w.tl k) (x.w.th k) = true) (k : Nat) (h : k < 7) : x.w.tl k <= casT x k /\ casT x k <= x.w.th k := by
 have hs := spanOK_iff.1 (hk k h)
 have hp := selD_in hi.o0 hi.o1 hi.o2 hi.o3 hi.o4 hi.o5 hi.o6 k
 unfold casT
 exact bt_in hs.2.2 (by omega) hp.1 hp.2
def truI : DatL [casSh] -> Anns := fun (x, _) => [
 (5, [(5, 2, 1), (6, 2, 1)], fun fr hp => ⟨Nat, fun g => ⟨frI [.k 7, .s (.si .i64 (icast g)), .t 95] fr, setB hp 3 (.row 2 1 (.sym g) (fun k => [.si .i64 (casT (casOf x) k)]))⟩, Nat, fun g => g, fun g => g <= 7, fun g => nsub 7 g⟩),
 (9, [], fun fr hp => ⟨Nat, fun g => ⟨frI [.k 8, .s (.si .i64 (icast g)), .t 94] fr, setB hp 4 (.row 2 1 (.sym g) (fun k => [.si .i64 (casB (casOf x) k)]))⟩, Nat, fun g => g, fun g => g <= 5, fun g => nsub 5 g⟩),
 (1048589, [], fun fr hp => cutC (casOf x) fr hp), (2097166, [(9, 0, 0), (11, 0, 0)], fun _ _ => unitA), (4194318, [], fun _ _ => unitA)]
set_option maxRecDepth 100000 in
set_option maxRecDepth 100000 in
set_option maxHeartbeats 8000000 in
theorem truB_ok : FnSpec Tryz.prog 20 _ truB := by
 refine FnSpec.of SKu1_ok mixed (U := 0) (I := truI) Tryz.func20 rfl (by kernel_rfl) rfl rfl (by decide +kernel) ?_
 rintro ⟨x, ⟨⟩⟩ hpre
 obtain ⟨x, rfl⟩ := cas_ex x
 have hpre : CasIn x /\ shtB x.w.cel = true /\ wcB x.w = true := by have : CasIn (casOf (casD x)) /\ shtB (casOf (casD x)).w.cel = true /\ wcB (casOf (casD x)).w = true := hpre; rwa [casOf_D] at this
 obtain ⟨hi, hs, hw⟩ := hpre
 have ht := hi.tn
 have eI : truI (casD x, ()) = [
  (5, [(5, 2, 1), (6, 2, 1)], fun fr hp => ⟨Nat, fun g => ⟨frI [.k 7, .s (.si .i64 (icast g)), .t 95] fr, setB hp 3 (.row 2 1 (.sym g) (fun k => [.si .i64 (casT x k)]))⟩, Nat, fun g => g, fun g => g <= 7, fun g => nsub 7 g⟩),
  (9, [], fun fr hp => ⟨Nat, fun g => ⟨frI [.k 8, .s (.si .i64 (icast g)), .t 94] fr, setB hp 4 (.row 2 1 (.sym g) (fun k => [.si .i64 (casB x k)]))⟩, Nat, fun g => g, fun g => g <= 5, fun g => nsub 5 g⟩),
  (1048589, [], fun fr hp => cutC x fr hp), (2097166, [(9, 0, 0), (11, 0, 0)], fun _ _ => unitA), (4194318, [], fun _ _ => unitA)] := by
  unfold truI
  simp only [casOf_D]
 have eR : truB.res (casD x, ()) = .tup [enc celSh (celD (casC x)), enc staSh (staD (casS x)), .sb (truOK x)] := by
  unfold truB
  simp only [casOf_D]
 rw [eI, eR]
 unfold FnSat
 conv => arg 2; reduce
 simp [-Bool.forall_bool, cutC_q, truB, shtS, wckS, aplL, ofL, cstS, btwS, enc_cel, maxRow, ElEq, getB, goneB, aliveB, and_assoc]
 clear eI eR
 have hk := chk_iff.1 (wcB_iff.1 hw).1
 have htn := hk.n
 have hbn := hk.m
 have hmax := shtB_max hs
 have SB : ∀ k, k < 5 -> spanOK (x.w.bl k) (x.w.bh k) = true := by
  obtain ⟨q0, q1, q2, q3, q4, q5, q6, q7, q8, q9, q10, q11, q12, q13, q14⟩ := hk.bx
  intro k hk
  match k, hk with
  | 0, _ => exact spanOK_iff.2 (by omega)
  | 1, _ => exact spanOK_iff.2 (by omega)
  | 2, _ => exact spanOK_iff.2 (by omega)
  | 3, _ => exact spanOK_iff.2 (by omega)
  | 4, _ => exact spanOK_iff.2 (by omega)
 refine ⟨fun _ => ⟨hmax, ht⟩, fun h => ?_, fun _ _ _ _ => ⟨⟨0, rfl, rfl, fun j => Nat.zero_le j, by omega⟩, fun g hg => ⟨fun hlt => ?_, fun hge => ⟨⟨0, rfl, rfl, fun j => Nat.zero_le j, by omega⟩, fun g2 hg2 => ⟨fun hlt => ?_, fun hge2 => ?_⟩⟩⟩⟩⟩
 ·exfalso
  rw [hs, hw] at h
  simp at h
  omega
 ·have st : ∀ (i : Nat) (o : Int), PartIn o -> g = i -> sel7 x.o0 x.o1 x.o2 x.o3 x.o4 x.o5 x.o6 i = o -> spanOK (x.w.tl g) (x.w.th g) = true /\ 0 <= o /\ o <= 65535 /\ (g + 1) * 9 <= 1099511627776 /\ -9223372036854775808 <= (g : Int) + 1 /\ (g : Int) + 1 <= 9223372036854775807 /\ ∃ g_1 : Nat, (g : Int) + 1 = (g_1 : Int) /\ g + 1 = g_1 /\ (∀ j, j < g_1 -> nrmL (catE g (fun k => [AV.si IntKind.i64 (casT x k)]) (rowAt 1 [AV.si IntKind.i64 (btV (x.w.tl g) (x.w.th g) o)]) j) = [AV.si IntKind.i64 (casT x j)]) /\ g_1 <= 7 /\ 7 - g_1 < 7 - g := fun i o h1 h2 h3 => by
   have hc : casT x g = btV (x.w.tl g) (x.w.th g) o := by subst h2; unfold casT; rw [h3]
   exact ⟨hk.le g (by omega), h1.1, h1.2, by omega, by omega, by omega, g + 1, by omega, rfl, fun j hj => app_one hj (fun _ => rfl) (fun e => by subst e; rw [hc]; rfl), by omega, by omega⟩
  exact ⟨by omega, hlt, ⟨fun h => st 6 _ hi.o6 (by omega) (by simp [sel7]), fun h6 => ⟨fun h => st 5 _ hi.o5 (by omega) (by simp [sel7]), fun h5 => ⟨fun h => st 4 _ hi.o4 (by omega) (by simp [sel7]), fun h4 => ⟨fun h => st 3 _ hi.o3 (by omega) (by simp [sel7]), fun h3 => ⟨fun h => st 2 _ hi.o2 (by omega) (by simp [sel7]), fun h2 => ⟨fun h => st 1 _ hi.o1 (by omega) (by simp [sel7]), fun h1 => st 0 _ hi.o0 (by omega) (by simp [sel7])⟩⟩⟩⟩⟩⟩⟩
 ·have st : ∀ (i : Nat) (o : Int), PartIn o -> g2 = i -> sel5 x.p0 x.p1 x.p2 x.p3 x.p4 i = o -> spanOK (x.w.bl g2) (x.w.bh g2) = true /\ 0 <= o /\ o <= 65535 /\ (g2 + 1) * 9 <= 1099511627776 /\ -9223372036854775808 <= (g2 : Int) + 1 /\ (g2 : Int) + 1 <= 9223372036854775807 /\ ∃ g_1 : Nat, (g2 : Int) + 1 = (g_1 : Int) /\ g2 + 1 = g_1 /\ (∀ j, j < g_1 -> nrmL (catE g2 (fun k => [AV.si IntKind.i64 (casB x k)]) (rowAt 1 [AV.si IntKind.i64 (btV (x.w.bl g2) (x.w.bh g2) o)]) j) = [AV.si IntKind.i64 (casB x j)]) /\ g_1 <= 5 /\ 5 - g_1 < 5 - g2 := fun i o h1 h2 h3 => by
   have hc : casB x g2 = btV (x.w.bl g2) (x.w.bh g2) o := by subst h2; unfold casB; rw [h3]
   exact ⟨SB g2 (by omega), h1.1, h1.2, by omega, by omega, by omega, g2 + 1, by omega, rfl, fun j hj => app_one hj (fun _ => rfl) (fun e => by subst e; rw [hc]; rfl), by omega, by omega⟩
  exact ⟨by omega, hlt, ⟨fun h => st 4 _ hi.p4 (by omega) (by simp [sel5]), fun h4 => ⟨fun h => st 3 _ hi.p3 (by omega) (by simp [sel5]), fun h3 => ⟨fun h => st 2 _ hi.p2 (by omega) (by simp [sel5]), fun h2 => ⟨fun h => st 1 _ hi.p1 (by omega) (by simp [sel5]), fun h1 => st 0 _ hi.p0 (by omega) (by simp [sel5])⟩⟩⟩⟩⟩
 ·have dd := casT_in hi hk.le
  have hq : ∀ k, k < 7 -> isQ (casT x k) = true := fun k h => by
   have a := spanOK_iff.1 (hk.le k h)
   have b := dd k h
   exact isQ_iff.2 (by omega)
  have hv : celB (mvC x.w.cel fun k => casT x k) = true := mv_mid hk.cl hk.ch dd
  have e7 : g = 7 := by omega
  have e5 : g2 = 5 := by omega
  have hM : CelMax (casC x) := by rw [casC_eq]; exact mvM hmax _
  obtain ⟨c0, c1, c2, c3, c4⟩ := casS_n x
  refine ⟨hmax, hk.cel, e7, hq, hv, ?_⟩
  unfold truOK
  simp [casC_eq, e5, c0, c1, c2, c3, c4, mvM hmax, VC.sat, leA, leL, enc, encL, kindOf, intOf]
  have e : staOf (casB x 0, casB x 1, casB x 2, casB x 3, casB x 4, PUnit.unit) = casS x := by
   unfold staOf casS
   rfl
  rw [e]
  rfl
end
end Abs
end Go.Proofs.YtlabbaglbcmofaaGreat

namespace Go.Proofs.YtlabbaglbcmofaaGreat
namespace Abs
open Go Go.RowKit
noncomputable section
attribute [local irreducible] FnSat
end
end Abs
end Go.Proofs.YtlabbaglbcmofaaGreat

namespace Go.Proofs.YtlabbaglbcmofaaGreat
namespace Abs
open Go Go.RowKit
noncomputable section
attribute [local irreducible] FnSat
theorem ew_init {w : Wt} (hm : CelMax w.cel) (h : wcB w = true) : EwOK ⟨w, w.bn, w.bl, w.bh, 0, false⟩ := by
 refine ⟨?_, ?_, ?_, ?_, ?_⟩
 ·rw [Ew.w_mk]; exact hm
 ·rw [Ew.w_mk]; exact h
 ·rw [Ew.w_mk, Ew.n_mk, Ew.l_mk, Ew.h_mk]; exact chk_iff.1 (wcB_iff.1 h).1
 ·rw [Ew.tk_mk]; decide
 ·rw [Ew.tk_mk]; decide
theorem ew_eta (e : Ew) : (⟨e.w, e.n, e.l, e.h, e.tk, e.gn⟩ : Ew) = e := by unfold Ew.w Ew.n Ew.l Ew.h Ew.tk Ew.gn; rfl
theorem ew_up (w : Wt) (n : Nat) (L H : Nat -> Int) (tk : Int) (gn : Bool) : ewOf (w.cel.cap, (w.cel.ocv.nx, fun k => (w.cel.ocv.x k, ())), (w.cel.ocv.ny, fun k => (w.cel.ocv.y k, ())), w.cel.shift, (w.cel.cold.nx, fun k => (w.cel.cold.x k, ())), (w.cel.cold.ny, fun k => (w.cel.cold.y k, ())), w.cel.extra, w.cel.pair, w.cel.keep, w.cel.leak, w.cel.hcap, w.cel.cool, (w.cel.stress.nx, fun k => (w.cel.stress.x k, ())), (w.cel.stress.ny, fun k => (w.cel.stress.y k, ())), w.cel.cyc, w.cel.agel, w.cel.grow, (w.tn, fun k => (w.tl k, w.th k, ())), (w.bn, fun k => (w.bl k, w.bh k, ())), w.s00, w.s01, w.s02, w.s03, w.s10, w.s11, w.s12, w.s13, w.s20, w.s21, w.s22, w.s23, w.s30, w.s31, w.s32, w.s33, w.dly, w.cl, w.ch, w.al, w.ah, (n, fun k => (L k, H k, ())), tk, gn, ()) = ⟨w, n, L, H, tk, gn⟩ := by
 have := ewOf_mk ⟨w, n, L, H, tk, gn⟩
 simpa only [Ew.w_mk, Ew.n_mk, Ew.l_mk, Ew.h_mk, Ew.tk_mk, Ew.gn_mk] using this
@[reducible] def tksSh : Sh := .slice 7 [.int .u16, .int .u16, .int .i16, .int .i16, .int .i16, .int .i16, .int .u8]
theorem cas_in2 {x : Cas} {l : List Sh} {r : DatL l} (h : ValidL (casSh :: l) (casD x, r)) : CasIn x := cas_in ⟨h.1, trivial⟩
def KInv (n m : Nat) (x : Cas) (g : Nat) (s : Sta) (e : Ew) : Prop := g <= n /\ g <= m /\ EwOK e /\ e.gn = false /\ e.tk = g /\ e.w = x.w /\ InBox e.w.cel e.w.tl e.w.th (casT x) e.l e.h s
attribute [irreducible] KInv
theorem kInv_iff {n m : Nat} {x : Cas} {g : Nat} {s : Sta} {e : Ew} : KInv n m x g s e ↔ g <= n /\ g <= m /\ EwOK e /\ e.gn = false /\ e.tk = g /\ e.w = x.w /\ InBox e.w.cel e.w.tl e.w.th (casT x) e.l e.h s := by unfold KInv; exact Iff.rfl
theorem kInv_0 {n m : Nat} {x : Cas} (hi : CasIn x) (hm : CelMax x.w.cel) (hw : wcB x.w = true) (hc : csE (casC x) (casS x) = 0) : KInv n m x 0 (casS x) ⟨x.w, x.w.bn, x.w.bl, x.w.bh, 0, false⟩ := by
 refine kInv_iff.2 ⟨Nat.zero_le _, Nat.zero_le _, ew_init hm hw, Ew.gn_mk _ _ _ _ _ _, ?_, Ew.w_mk _ _ _ _ _ _, ?_⟩
 ·rw [Ew.tk_mk]; rfl
 ·rw [Ew.w_mk, Ew.l_mk, Ew.h_mk]; exact cas_box hi hw hc
theorem casC_max {x : Cas} (hm : CelMax x.w.cel) : CelMax (casC x) := by rw [casC_eq]; exact mvM hm _
abbrev TkD := DatL [.int .u16, .int .u16, .int .i16, .int .i16, .int .i16, .int .i16, .int .u8]
abbrev R8 := Bool × Bool × Bool × Bool × Int × Int × Int × Int
@[irreducible] def rdT (x : Cas) (s : Sta) (t : TkD) : R8 := (hkB t.2.2.2.2.2.2.1 0, hkB t.2.2.2.2.2.2.1 1, hkB t.2.2.2.2.2.2.1 2, hkB t.2.2.2.2.2.2.1 3, rv0 x.w (casC x) s t.1 t.2.2.1, rv1 x.w t.1 t.2.2.2.1, rv2 x.w s t.2.2.2.2.1, rv3 x.w t.2.1 t.2.2.2.2.2.1)
@[irreducible] def tkP (e : Ew) (r : R8) : Ew × Int := (ewN e r.1 r.2.1 r.2.2.1 r.2.2.2.1 r.2.2.2.2.1 r.2.2.2.2.2.1 r.2.2.2.2.2.2.1 r.2.2.2.2.2.2.2, ewE e r.1 r.2.1 r.2.2.1 r.2.2.2.1 r.2.2.2.2.1 r.2.2.2.2.2.1 r.2.2.2.2.2.2.1 r.2.2.2.2.2.2.2)
def stO (hp : Heap) (i : Nat) : Sta := match getB hp i with
 | .cells _ l => staOf (intOf (getL l 0), intOf (getL l 1), intOf (getL l 2), intOf (getL l 3), intOf (getL l 4), ())
 | _ => staOf (0, 0, 0, 0, 0, ())
@[reducible] def cutTr (x : Cas) (k o n : Nat) : List AV -> Heap -> Ann := fun fr hp => ⟨Nat, fun _ => ⟨frI [.k k, .s (.own o 0), .s (.own (o + 1) 0), .s (.sb (truOK x)), .t (n - k - 3)] fr,
 appH hp [.cells 26 (cellsA (enc celSh (celD (casC x)))), .cells 70 (cellsA (enc staSh (staD (casS x))))]⟩, Nat, fun z => z, fun _ => True, fun _ => 0⟩
@[reducible] def cutRd (x : Cas) (el : Nat -> TkD) (k gi so ro n : Nat) : List AV -> Heap -> Ann := fun fr hp => ⟨R8, fun y => ⟨frI [.k k, .s (.own ro 0), .s (.sb true), .t (n - k - 2)] fr,
 appH hp [.cells 51 [.sb y.1, .sb y.2.1, .sb y.2.2.1, .sb y.2.2.2.1, .si .i64 y.2.2.2.2.1, .si .i64 y.2.2.2.2.2.1, .si .i64 y.2.2.2.2.2.2.1, .si .i64 y.2.2.2.2.2.2.2]]⟩, R8 × R8, fun y => (y, rdT x (stO hp so) (el (nat (intOf (getL fr gi))))), fun z => z.1 = z.2, fun _ => 0⟩
theorem tkP_1 (e : Ew) (r : R8) : ewN e r.1 r.2.1 r.2.2.1 r.2.2.2.1 r.2.2.2.2.1 r.2.2.2.2.2.1 r.2.2.2.2.2.2.1 r.2.2.2.2.2.2.2 = (tkP e r).1 := by unfold tkP; rfl
theorem tkP_2 (e : Ew) (r : R8) : ewE e r.1 r.2.1 r.2.2.1 r.2.2.2.1 r.2.2.2.2.1 r.2.2.2.2.2.1 r.2.2.2.2.2.2.1 r.2.2.2.2.2.2.2 = (tkP e r).2 := by unfold tkP; rfl
theorem inr_16 {p : Int} (h : InR .i16 p) : -32768 <= p /\ p <= 32768 := by
 simp [InR, IntKind.min, IntKind.max, IntKind.signed, IntKind.bits] at h
 omega
theorem inr_8 {p : Int} (h : InR .u8 p) : 0 <= p /\ p <= 255 := by
 simp [InR, IntKind.min, IntKind.max, IntKind.signed, IntKind.bits] at h
 omega
theorem tick_in {t : TkD} (h : ValidL [.int .u16, .int .u16, .int .i16, .int .i16, .int .i16, .int .i16, .int .u8] t) : TkIn t.1 t.2.1 t.2.2.1 t.2.2.2.1 t.2.2.2.2.1 t.2.2.2.2.2.1 /\ 0 <= t.2.2.2.2.2.2.1 /\ t.2.2.2.2.2.2.1 <= 255 := by
 have a0 := part_in (p := t.1) h.1
 have a1 := part_in (p := t.2.1) h.2.1
 have b0 := inr_16 (p := t.2.2.1) h.2.2.1
 have b1 := inr_16 (p := t.2.2.2.1) h.2.2.2.1
 have b2 := inr_16 (p := t.2.2.2.2.1) h.2.2.2.2.1
 have b3 := inr_16 (p := t.2.2.2.2.2.1) h.2.2.2.2.2.1
 have c := inr_8 (p := t.2.2.2.2.2.2.1) h.2.2.2.2.2.2.1
 exact ⟨tkIn_iff.2 ⟨a0, a1, b0, b1, b2, b3⟩, c.1, c.2⟩
theorem nz_in {a b c d n : Int} (h : sensOK a b c d = true) (hn : -32768 <= n /\ n <= 32768) : isIn (-a) (qflV a n 32768) a = true := by
 have h1 := sens_of h
 have h2 := qflV_in (x := a) (n := n) (d := 32768) (by omega) (by omega) (by decide) (by omega) (by omega)
 simp
 omega
theorem keep_step {n m : Nat} {x : Cas} {g : Nat} {s : Sta} {e : Ew} {t : TkD} {r : R8} (hm : m <= 1048576) (hinv : KInv n m x g s e) (h1 : g < n) (h2 : (g : Int) < m) (ht : TkIn t.1 t.2.1 t.2.2.1 t.2.2.2.1 t.2.2.2.2.1 t.2.2.2.2.2.1)
  (hv : r.2.2.2.2 = (rdT x s t).2.2.2.2) :
  (tkP e r).2 = 4 \/ ((tkP e r).2 = 0 /\ stAE (casC x) s (btV x.w.cl x.w.ch t.1) (btV x.w.al x.w.ah t.2.1) = 0 /\ KInv n m x (g + 1) (stA (casC x) s (btV x.w.cl x.w.ch t.1) (btV x.w.al x.w.ah t.2.1)) (tkP e r).1) := by
 obtain ⟨_, _, hk, hg, htk, hw, hb⟩ := kInv_iff.1 hinv
 obtain ⟨a0, a1, b0, b1, b2, b3⟩ := tkIn_iff.1 ht
 obtain ⟨_, _, _, w3, w4, z0, z1, z2, z3⟩ := wcB_iff.1 hk.wat
 obtain ⟨c0, c1, c2⟩ := insV_iff.1 w3
 obtain ⟨u0, u1, u2⟩ := insV_iff.1 w4
 obtain ⟨f0, f1, f2, f3, v0, v1, v2, v3⟩ := r
 unfold rdT rv0 rv1 rv2 rv3 at hv
 simp only [Prod.mk.injEq] at hv
 obtain ⟨e0, e1, e2, e3⟩ := hv
 rw [casC_eq]
 rw [casC_eq] at e0
 rw [<- hw] at e0 e1 e2 e3 ⊢
 have i := bt_in (p := t.1) c1 (by omega) a0.1 a0.2
 have j := bt_in (p := t.2.1) u1 (by omega) a1.1 a1.2
 have K := keep_tk (d := casT x) (s := s) f0 f1 f2 f3 hk hg hb i.1 i.2 j.1 j.2 (nz_in z0 b0) (nz_in z1 b1) (nz_in z2 b2) (nz_in z3 b3) e0 e1 e2 e3
 unfold tkP
 simp only
 rcases K with K | ⟨k1, k2, k3, k4, k5⟩
 ·exact Or.inl K
 ·refine Or.inr ⟨k1, k2, kInv_iff.2 ⟨by omega, by omega, (ewN_ok hk (by omega) _ _ _ _ _ _ _ _).1, k4, by omega, ?_, ?_⟩⟩
  ·rw [ewN_w]; exact hw
  ·rw [ewN_w]; exact k3
end
end Abs
end Go.Proofs.YtlabbaglbcmofaaGreat

namespace Go.Proofs.YtlabbaglbcmofaaGreat
namespace Abs
open Go Go.RowKit
theorem in_out2 {c : Cel} {lo hi d bl bh : Nat -> Int} {s : Sta} {l hh u v t i : Int} (h : InBox c lo hi d bl bh s) (hb : boxP (widV c lo hi 5 bl bh) l hh u v i = true) (g1 : u <= t) (g2 : t <= v) (i0 : 0 <= i) (i1 : i <= 1048576) : outP (mvC c d) s l hh t i = true := by
 obtain ⟨b1, b2, b3⟩ := boxP_iff.1 hb
 rw [widV_hi, widV_bl, mvC_leak] at b3
 have w1 := in_volt h (Int.le_refl i) (Int.le_refl i)
 have w2 := in_temp h (insV_iff.2 ⟨by omega, Int.le_refl _, i1⟩) (Int.le_refl i) (Int.le_refl i) g1 g2
 have q := h.ss 0 (by decide)
 have dd := h.dd 4 (by decide)
 rw [(stV_n s).1] at q
 exact outP_iff.2 ⟨by omega, by rw [mvC_leak]; omega, by omega⟩
theorem now_is {e : Ew} (h : nowE e = 0) : nwB e.w e.l e.h (nat e.w.dly) = true /\ nowN e = e.n := by
 unfold nowE at h
 split at h
 ·rename_i hb
  exact ⟨hb, by unfold nowN; rw [if_pos hb]⟩
 ·cases h
theorem now_or (e : Ew) : nowE e = 0 \/ nowE e = 4 := by unfold nowE; split <;> simp
theorem nwB_le {w : Wt} {l h : Nat -> Int} {g : Nat} : ∀ {n : Nat}, nwB w l h n = true -> g <= n -> nwB w l h g = true
 | 0, hb, hg => by obtain rfl : g = 0 := by omega
                   exact hb
 | n + 1, hb, hg => by
   by_cases e : g = n + 1
   ·rw [e]; exact hb
   ·rw [nwB_s, Bool.and_eq_true] at hb
    exact nwB_le hb.1 (by omega)
theorem now_keep {w : Wt} {d l h : Nat -> Int} {s : Sta} {i am : Int} {g n : Nat} (hw : wcB w = true) (hb : nwB w l h n = true) (hlt : g < n) (hi : InBox w.cel w.tl w.th d (nwL w l h g) (nwH w l h g) s) (i0 : w.cl <= i) (i1 : i <= w.ch) (m0 : w.al <= am) (m1 : am <= w.ah) :
  stAE (mvC w.cel d) s i am = 0 /\ InBox w.cel w.tl w.th d (nwL w l h (g + 1)) (nwH w l h (g + 1)) (stA (mvC w.cel d) s i am) := by
 obtain ⟨_, _, _, w3, w4, _⟩ := wcB_iff.1 hw
 have hb1 := nwB_le (g := g + 1) hb (by omega)
 rw [nwB_s, Bool.and_eq_true] at hb1
 have hs := far_ok hi w3 w4 i0 i1 m0 m1 hb1.2
 rw [nwL_s, nwH_s]
 exact ⟨hs, in_go hi w3 w4 i0 i1 m0 m1 hb1.2 hs⟩
theorem gr_is2 {p : Int -> Bool} {most : Int} (h : Mono p most) : grV p most = grI p most /\ grE p = 0 := by
 unfold grV grE; rw [if_pos h.p0, if_pos h.p0]; exact ⟨rfl, rfl⟩
theorem pw_safe {e : Ew} {d : Nat -> Int} {s : Sta} {l q o w h : Int} (hk : EwOK e) (hE : nowE e = 0) (hb : InBox e.w.cel e.w.tl e.w.th d (nowL e) (nowH e) s) :
  (pwE e l q o w h = 0 \/ pwE e l q o w h = 2 \/ pwE e l q o w h = 17) /\ (pwE e l q o w h = 0 -> 0 <= pwV e l q o w h /\ pwV e l q o w h <= o /\ o <= 1048576 /\
   ∀ i am, 0 <= i -> i <= pwV e l q o w h -> e.w.al <= am -> am <= e.w.ah -> outP (mvC e.w.cel d) s l h am i = true) := by
 obtain ⟨hB, hN⟩ := now_is hE
 have h5 := ew_five hk
 obtain ⟨_, _, _, w3, w4, _⟩ := wcB_iff.1 hk.wat
 have ck : ChkOK e.w.cel e.w.tn e.w.tl e.w.th (nowN e) (nowL e) (nowH e) := by rw [hk.chk.n, hN, h5]; exact hb.chk
 have K := chk_iff.2 ck
 have hW := wid_of ck
 unfold pwE pwV pwX
 rw [if_pos hE, if_pos hE, K, w4]
 have n5 : nowN e = 5 := by rw [hN, h5]
 cases hl : limB l q o w h with
 | false =>
   have eo : orE (orE 0 false 2) true 2 = 2 := by rw [orE_e (by rw [orE_f rfl rfl]; decide), orE_f rfl rfl]
   rw [eo]
   have e2 := (so_e (most := o) (p := boxP (widV e.w.cel e.w.tl e.w.th (nowN e) (nowL e) (nowH e)) l h e.w.al e.w.ah) (e := 2) (by decide)).2
   exact ⟨Or.inr (Or.inl e2.symm), fun h0 => by rw [<- e2] at h0; cases h0⟩
 | true =>
   have eo : orE (orE 0 true 2) true 2 = 0 := by rw [orE_t (orE_t rfl rfl) rfl]
   have lb := limB_iff.1 hl
   rw [eo]
   obtain ⟨z1, z2⟩ := so_0 (most := o) (p := boxP (widV e.w.cel e.w.tl e.w.th (nowN e) (nowL e) (nowH e)) l h e.w.al e.w.ah) (e := 0) rfl
   rw [<- z1, <- z2]
   cases hp0 : boxP (widV e.w.cel e.w.tl e.w.th (nowN e) (nowL e) (nowH e)) l h e.w.al e.w.ah 0 with
   | false =>
     have g17 := (gr_no (most := o) hp0).2
     exact ⟨Or.inr (Or.inr g17.symm), fun h0 => by rw [<- g17] at h0; cases h0⟩
   | true =>
     have hm : Mono (boxP (widV e.w.cel e.w.tl e.w.th (nowN e) (nowL e) (nowH e)) l h e.w.al e.w.ah) o := box_mono hW (by omega) hp0
     obtain ⟨m1, m2⟩ := gr_is2 hm
     obtain ⟨i0, i1, i2, i3⟩ := grI_spec hm
     rw [m1, m2]
     refine ⟨Or.inl rfl, fun _ => ⟨i0, i1, by omega, fun i am hi0 hi1 ha0 ha1 => ?_⟩⟩
     have hp := hm.dn i _ hi0 hi1 i1 i2
     have hWe : widV e.w.cel e.w.tl e.w.th (nowN e) (nowL e) (nowH e) = widV e.w.cel e.w.tl e.w.th 5 (nowL e) (nowH e) := by rw [n5]
     rw [hWe] at hp
     exact in_out2 hb hp ha0 ha1 hi0 (by omega)
end Abs
end Go.Proofs.YtlabbaglbcmofaaGreat
