/- A part of the proof: no statement of its own. -/
import Derived.Test.YtlabbaglbcmofaaGreatQGc89be9a7
set_option linter.unusedSimpArgs false
set_option linter.unusedVariables false
namespace Go.Proofs.YtlabbaglbcmofaaGreat
namespace Abs
open Go Go.RowKit
theorem nb_box {c : Cel} {lo hi bl bh : Nat -> Int} {a b u v : Int} (h : ChkOK c 7 lo hi 5 bl bh) (hI : insV (-1048576) a b 1048576 = true) (hU : insV 0 u v 400000 = true) (hf : farB (widV c lo hi 5 bl bh) a b = true) :
  BoxOK (nbL (widV c lo hi 5 bl bh) a b u v) (nbH (widV c lo hi 5 bl bh) a b u v) := by
 obtain ⟨i0, i1, i2⟩ := insV_iff.1 hI
 obtain ⟨j0, j1, j2⟩ := insV_iff.1 hU
 let s : Sta := ⟨bl 0, bl 1, bl 2, bl 3, bl 4⟩
 have sv : ∀ k, k < 5 -> stV s k = bl k := fun k hk => by
  have : k = 0 \/ k = 1 \/ k = 2 \/ k = 3 \/ k = 4 := by omega
  obtain ⟨e0, e1, e2, e3, e4⟩ := stV_n s
  rcases this with rfl | rfl | rfl | rfl | rfl
  ·rw [e0]; exact Sta.q_mk _ _ _ _ _
  ·rw [e1]; exact Sta.rx_mk _ _ _ _ _
  ·rw [e2]; exact Sta.tp_mk _ _ _ _ _
  ·rw [e3]; exact Sta.th_mk _ _ _ _ _
  ·rw [e4]; exact Sta.ag_mk _ _ _ _ _
 have bx := h.bx
 have p : Part lo hi lo lo bl bh (stV s) (stV s) := by
  refine ⟨fun k hk => ⟨Int.le_refl _, Int.le_refl _, ?_⟩, fun k hk => ?_⟩
  ·have := spanOK_iff.1 (h.le k hk); omega
  ·rw [sv k hk]
   refine ⟨Int.le_refl _, Int.le_refl _, ?_⟩
   have : k = 0 \/ k = 1 \/ k = 2 \/ k = 3 \/ k = 4 := by omega
   rcases this with rfl | rfl | rfl | rfl | rfl
   ·exact bx.q1
   ·exact bx.x1
   ·exact bx.t1
   ·exact bx.h1
   ·exact bx.a1
 refine next_box (w := nbL (widV c lo lo 5 (stV s) (stV s)) a a u u) (wid_of h) hI hf fun k hk => ?_
 have w := nb_sub (part_sub p h) (wid_of (part_chk p h)) (wid_of h) (Int.le_refl a) (Int.le_refl a) i1 hI (Int.le_refl u) j1 k hk
 have e : nbL (widV c lo lo 5 (stV s) (stV s)) a a u u k = nbH (widV c lo lo 5 (stV s) (stV s)) a a u u k := by
  rw [pt_wid, (pt_next _ _ _ _ k hk).1, (pt_next _ _ _ _ k hk).2]
 exact ⟨w.1, e ▸ w.2⟩
end Abs
end Go.Proofs.YtlabbaglbcmofaaGreat

namespace Go.Proofs.YtlabbaglbcmofaaGreat
namespace Abs
open Go Go.RowKit
noncomputable section
attribute [local irreducible] FnSat decL
def nwP (w : Wt) (l h : Nat -> Int) : Nat -> (Nat -> Int) × (Nat -> Int)
 | 0 => (l, h)
 | g + 1 => (nbL (widV w.cel w.tl w.th 5 (nwP w l h g).1 (nwP w l h g).2) w.cl w.ch w.al w.ah, nbH (widV w.cel w.tl w.th 5 (nwP w l h g).1 (nwP w l h g).2) w.cl w.ch w.al w.ah)
@[irreducible] def nwL (w : Wt) (l h : Nat -> Int) (g : Nat) : Nat -> Int := (nwP w l h g).1
@[irreducible] def nwH (w : Wt) (l h : Nat -> Int) (g : Nat) : Nat -> Int := (nwP w l h g).2
theorem nwL_0 (w : Wt) (l h : Nat -> Int) : nwL w l h 0 = l := by unfold nwL; rfl
theorem nwH_0 (w : Wt) (l h : Nat -> Int) : nwH w l h 0 = h := by unfold nwH; rfl
theorem nwL_s (w : Wt) (l h : Nat -> Int) (g : Nat) : nwL w l h (g + 1) = nbL (widV w.cel w.tl w.th 5 (nwL w l h g) (nwH w l h g)) w.cl w.ch w.al w.ah := by unfold nwL nwH; rfl
theorem nwH_s (w : Wt) (l h : Nat -> Int) (g : Nat) : nwH w l h (g + 1) = nbH (widV w.cel w.tl w.th 5 (nwL w l h g) (nwH w l h g)) w.cl w.ch w.al w.ah := by unfold nwL nwH; rfl
def nwA (w : Wt) (l h : Nat -> Int) : Nat -> Bool
 | 0 => true
 | g + 1 => nwA w l h g && farB (widV w.cel w.tl w.th 5 (nwL w l h g) (nwH w l h g)) w.cl w.ch
@[irreducible] def nwB (w : Wt) (l h : Nat -> Int) (g : Nat) : Bool := nwA w l h g
theorem nwB_0 (w : Wt) (l h : Nat -> Int) : nwB w l h 0 = true := by unfold nwB; rfl
theorem nwB_s (w : Wt) (l h : Nat -> Int) (g : Nat) : nwB w l h (g + 1) = (nwB w l h g && farB (widV w.cel w.tl w.th 5 (nwL w l h g) (nwH w l h g)) w.cl w.ch) := by unfold nwB; rfl
theorem nwB_no {w : Wt} {l h : Nat -> Int} {g : Nat} (hg : nwB w l h (g + 1) = false) : ∀ d, nwB w l h (g + 1 + d) = false
 | 0 => hg
 | d + 1 => by rw [<- Nat.add_assoc, nwB_s, nwB_no hg d]; rfl
theorem nw_chk {e : Ew} (hk : EwOK e) : ∀ g, nwB e.w e.l e.h g = true -> ChkOK e.w.cel e.w.tn e.w.tl e.w.th 5 (nwL e.w e.l e.h g) (nwH e.w e.l e.h g)
 | 0, _ => by rw [nwL_0, nwH_0]; have := hk.chk; rwa [ew_five hk] at this
 | g + 1, h => by
   rw [nwB_s, Bool.and_eq_true] at h
   have hc := nw_chk hk g h.1
   obtain ⟨_, _, _, g3, g4, _⟩ := wcB_iff.1 hk.wat
   have hn := hc.n
   have hc' := hc
   rw [hn] at hc'
   rw [nwL_s, nwH_s]
   exact ⟨hc.cel, hc.n, rfl, hc.cl, hc.ch, hc.le, nb_box hc' g3 g4 h.2⟩
@[irreducible] def nowE (e : Ew) : Int := if nwB e.w e.l e.h (nat e.w.dly) = true then 0 else 4
@[irreducible] def nowN (e : Ew) : Nat := if nwB e.w e.l e.h (nat e.w.dly) = true then e.n else 0
@[irreducible] def nowL (e : Ew) : Nat -> Int := nwL e.w e.l e.h (nat e.w.dly)
@[irreducible] def nowH (e : Ew) : Nat -> Int := nwH e.w e.l e.h (nat e.w.dly)
theorem now_yes {e : Ew} (h : nwB e.w e.l e.h e.w.dly.toNat = true) : nowE e = 0 /\ nowN e = e.n := by unfold nowE nowN nat; rw [h]; exact ⟨rfl, rfl⟩
theorem now_no {e : Ew} (h : nwB e.w e.l e.h e.w.dly.toNat = false) : nowE e = 4 /\ nowN e = 0 := by unfold nowE nowN nat; rw [h]; exact ⟨rfl, rfl⟩
theorem now_step {e : Ew} (hk : EwOK e) {g : Nat} (hb : nwB e.w e.l e.h g = true) (hlt : (g : Int) < e.w.dly) {il ih : Nat -> Int} (i0 : il 0 = e.w.cl) (i1 : ih 0 = e.w.ch) (i2 : il 1 = e.w.al) (i3 : ih 1 = e.w.ah) :
  (¬ sbE e.w.cel e.w.tn e.w.tl e.w.th e.n (nwL e.w e.l e.h g) (nwH e.w e.l e.h g) 2 il ih = 0 -> nowN e = 0 /\ sbE e.w.cel e.w.tn e.w.tl e.w.th e.n (nwL e.w e.l e.h g) (nwH e.w e.l e.h g) 2 il ih = nowE e) /\ (sbE e.w.cel e.w.tn e.w.tl e.w.th e.n (nwL e.w e.l e.h g) (nwH e.w e.l e.h g) 2 il ih = 0 -> -9223372036854775808 <= (g : Int) + 1 /\ (g : Int) + 1 <= 9223372036854775807 /\
   ∃ g1, g1 <= e.w.dly.toNat /\ nwB e.w e.l e.h g1 = true /\ e.w.dly.toNat - g1 < e.w.dly.toNat - g /\ sbN (sbE e.w.cel e.w.tn e.w.tl e.w.th e.n (nwL e.w e.l e.h g) (nwH e.w e.l e.h g) 2 il ih) = e.n /\
     (∀ j : Nat, j < e.n -> nbL (widV e.w.cel e.w.tl e.w.th e.n (nwL e.w e.l e.h g) (nwH e.w e.l e.h g)) e.w.cl e.w.ch e.w.al e.w.ah j = nwL e.w e.l e.h g1 j /\ nbH (widV e.w.cel e.w.tl e.w.th e.n (nwL e.w e.l e.h g) (nwH e.w e.l e.h g)) e.w.cl e.w.ch e.w.al e.w.ah j = nwH e.w e.l e.h g1 j) /\ (g : Int) + 1 = (g1 : Int)) := by
 have h5 := ew_five hk
 have hc := nw_chk hk g hb
 obtain ⟨_, d0, d1, g3, g4, _⟩ := wcB_iff.1 hk.wat
 have hS := sbE_far (il := il) (ih := ih) hc (by rw [i0, i1]; exact g3) (by rw [i2, i3]; exact g4)
 rw [i0, i1, <- h5] at hS
 rw [hS]
 cases hf : farB (widV e.w.cel e.w.tl e.w.th e.n (nwL e.w e.l e.h g) (nwH e.w e.l e.h g)) e.w.cl e.w.ch with
 | true =>
   refine ⟨fun h => absurd rfl h, fun _ => ⟨by omega, by omega, g + 1, by omega, ?_, by omega, ?_, fun j _ => ?_, by omega⟩⟩
   ·rw [nwB_s, hb, <- h5, hf]; rfl
   ·rw [if_pos rfl, sbN_5 rfl, h5]
   ·rw [nwL_s, nwH_s, <- h5]; exact ⟨rfl, rfl⟩
 | false =>
   refine ⟨fun _ => ?_, fun h => by simp at h⟩
   have h1 : nwB e.w e.l e.h (g + 1) = false := by rw [nwB_s, hb, <- h5, hf]; rfl
   have h2 := nwB_no h1 (e.w.dly.toNat - (g + 1))
   rw [show g + 1 + (e.w.dly.toNat - (g + 1)) = e.w.dly.toNat by omega] at h2
   obtain ⟨n1, n2⟩ := now_no h2
   rw [n1, n2]
   exact ⟨rfl, rfl⟩
def nowS : Spec [.ptr ewCells] := ⟨fun ((m, x), _) => m = true /\ EwOK (ewOf x), fun ((_, x), _) => .tup [.slc (.sym (nowN (ewOf x))) 2 (fun k => [.si .i64 (nowL (ewOf x) k), .si .i64 (nowH (ewOf x) k)]), .si .i64 (nowE (ewOf x))]⟩
noncomputable def Svq : Sums := ⟨(22, mkSum _ sbS) :: Svd.one, Svd.two, Svd.lo, Svd.eqs, Svd.its, Svd.imm⟩
theorem Svq_ok : SumsOK Tryz.prog Svq := (Svd_ok.cons Tryz.func22 (by kernel_rfl) (by kernel_rfl) sb_ok)
def nowI : DatL [.ptr ewCells] -> Anns := fun ((_, x), _) =>
 [(5, [], fun fr hp => ⟨Nat, fun g => ⟨frI [.k 4, .s (.slc (.sym (ewOf x).n) 2 (fun k => [.si .i64 (nwL (ewOf x).w (ewOf x).l (ewOf x).h g k), .si .i64 (nwH (ewOf x).w (ewOf x).l (ewOf x).h g k)])), .t 2, .k 13, .s (.si .i64 (icast g)), .t 33] fr, hp⟩,
  Nat × Nat × Bool, fun g => (g, nat (ewOf x).w.dly, nwB (ewOf x).w (ewOf x).l (ewOf x).h g), fun (g, d, b) => g <= d /\ b = true, fun g => nsub (nat (ewOf x).w.dly) g⟩)]
set_option maxRecDepth 100000 in
set_option maxHeartbeats 4000000 in
theorem now_ok : FnSpec Tryz.prog 35 _ nowS := by
 refine FnSpec.of Svq_ok mixed (U := 0) (I := nowI) Tryz.func35 rfl (by kernel_rfl) rfl rfl (by decide +kernel) ?_
 rintro ⟨⟨m, x⟩, ⟨⟩⟩ hpre
 obtain ⟨e, rfl⟩ := ew_ex x
 have hpre : m = true /\ EwOK e := by have : m = true /\ EwOK (ewOf (ewD e)) := hpre; rwa [ewOf_D] at this
 obtain ⟨rfl, hk⟩ := hpre
 unfold FnSat
 conv => arg 2; reduce
 simp [-Bool.forall_bool, decL_cons, dec_int, nowS, valW, cspS, sbS, ElEq, getB, goneB, aliveB, VC.sat, and_assoc]
 have h5 := ew_five hk
 have hLk : e.w.tn <= maxLen := by rw [hk.chk.n]; unfold maxLen; omega
 obtain ⟨d0, d1, d2, d3⟩ := dec_r4 e.w.cl e.w.ch e.w.al e.w.ah
 obtain ⟨_, w0, w1, _⟩ := wcB_iff.1 hk.wat
 refine ⟨by omega, ⟨0, by omega, nwB_0 _ _ _, fun j _ => by rw [nwL_0, nwH_0]; exact ⟨rfl, rfl⟩, rfl⟩, fun g hg hb => ⟨fun hlt => ⟨fun k hk2 => ?_, hk.big, hLk, by rw [h5]; unfold maxLen; omega, by unfold maxLen; omega, now_step hk hb hlt d0 d1 d2 d3⟩, fun hle => ?_⟩⟩
 ·have : k = 0 \/ k = 1 := by omega
  rcases this with rfl | rfl <;> first | exact ⟨trivial, trivial, trivial⟩ | trivial | simp [rowAt, CanL, CanSh]
 ·have e1 : g = e.w.dly.toNat := by omega
  subst e1
  obtain ⟨n1, n2⟩ := now_yes hb
  rw [n1, n2]
  refine ⟨rfl, fun j _ => ?_, rfl⟩
  unfold nowL nowH nat
  exact ⟨rfl, rfl⟩
end
end Abs
end Go.Proofs.YtlabbaglbcmofaaGreat

namespace Go.Proofs.YtlabbaglbcmofaaGreat
namespace Abs
open Go Go.RowKit
noncomputable section
attribute [local irreducible] FnSat
structure Rsp where
 a0 : Cel
 a1 : Cel
 a2 : Int
 a3 : Int
 a4 : Int
 a5 : Int
 a6 : Int
 a7 : Int
 a8 : Int
 a9 : Int
 a10 : Int
 a11 : Int
@[irreducible] def Rsp.lo (x : Rsp) : Cel := x.a0
@[irreducible] def Rsp.hi (x : Rsp) : Cel := x.a1
@[irreducible] def Rsp.wl (x : Rsp) : Int := x.a2
@[irreducible] def Rsp.wh (x : Rsp) : Int := x.a3
@[irreducible] def Rsp.cl (x : Rsp) : Int := x.a4
@[irreducible] def Rsp.ch (x : Rsp) : Int := x.a5
@[irreducible] def Rsp.fl (x : Rsp) : Int := x.a6
@[irreducible] def Rsp.fh (x : Rsp) : Int := x.a7
@[irreducible] def Rsp.ol (x : Rsp) : Int := x.a8
@[irreducible] def Rsp.oh (x : Rsp) : Int := x.a9
@[irreducible] def Rsp.rl (x : Rsp) : Int := x.a10
@[irreducible] def Rsp.rh (x : Rsp) : Int := x.a11
@[reducible] def rspCells : List Sh := [.int .i64, intsSh, intsSh, .int .i64, intsSh, intsSh, .int .i64, .int .i64, .int .i64, .int .i64, .int .i64, .int .i64, intsSh, intsSh, .int .i64, .int .i64, .int .i64, .int .i64, intsSh, intsSh, .int .i64, intsSh, intsSh, .int .i64, .int .i64, .int .i64, .int .i64, .int .i64, .int .i64, intsSh, intsSh, .int .i64, .int .i64, .int .i64, .int .i64, .int .i64, .int .i64, .int .i64, .int .i64, .int .i64, .int .i64, .int .i64, .int .i64, .int .i64]
@[reducible] def rspSh : Sh := .agg rspCells
abbrev RspD := Int × IntsD × IntsD × Int × IntsD × IntsD × Int × Int × Int × Int × Int × Int × IntsD × IntsD × Int × Int × Int × Int × IntsD × IntsD × Int × IntsD × IntsD × Int × Int × Int × Int × Int × Int × IntsD × IntsD × Int × Int × Int × Int × Int × Int × Int × Int × Int × Int × Int × Int × Int × Unit
@[irreducible] def rspOf (x : RspD) : Rsp :=
 let (a0, a1, a2, a3, a4, a5, a6, a7, a8, a9, a10, a11, a12, a13, a14, a15, a16, b0, b1, b2, b3, b4, b5, b6, b7, b8, b9, b10, b11, b12, b13, b14, b15, b16, w0, w1, w2, w3, w4, w5, w6, w7, w8, w9, _) := x
 ⟨celOf (a0, a1, a2, a3, a4, a5, a6, a7, a8, a9, a10, a11, a12, a13, a14, a15, a16, ()), celOf (b0, b1, b2, b3, b4, b5, b6, b7, b8, b9, b10, b11, b12, b13, b14, b15, b16, ()), w0, w1, w2, w3, w4, w5, w6, w7, w8, w9⟩
@[reducible] def rspD (x : Rsp) : RspD := (x.lo.cap, (x.lo.ocv.nx, fun k => (x.lo.ocv.x k, ())), (x.lo.ocv.ny, fun k => (x.lo.ocv.y k, ())), x.lo.shift, (x.lo.cold.nx, fun k => (x.lo.cold.x k, ())), (x.lo.cold.ny, fun k => (x.lo.cold.y k, ())), x.lo.extra, x.lo.pair, x.lo.keep, x.lo.leak, x.lo.hcap, x.lo.cool, (x.lo.stress.nx, fun k => (x.lo.stress.x k, ())), (x.lo.stress.ny, fun k => (x.lo.stress.y k, ())), x.lo.cyc, x.lo.agel, x.lo.grow, x.hi.cap, (x.hi.ocv.nx, fun k => (x.hi.ocv.x k, ())), (x.hi.ocv.ny, fun k => (x.hi.ocv.y k, ())), x.hi.shift, (x.hi.cold.nx, fun k => (x.hi.cold.x k, ())), (x.hi.cold.ny, fun k => (x.hi.cold.y k, ())), x.hi.extra, x.hi.pair, x.hi.keep, x.hi.leak, x.hi.hcap, x.hi.cool, (x.hi.stress.nx, fun k => (x.hi.stress.x k, ())), (x.hi.stress.ny, fun k => (x.hi.stress.y k, ())), x.hi.cyc, x.hi.agel, x.hi.grow, x.wl, x.wh, x.cl, x.ch, x.fl, x.fh, x.ol, x.oh, x.rl, x.rh, ())
@[simp] theorem rspOf_mk (x : Rsp) : rspOf (x.lo.cap, (x.lo.ocv.nx, fun k => (x.lo.ocv.x k, ())), (x.lo.ocv.ny, fun k => (x.lo.ocv.y k, ())), x.lo.shift, (x.lo.cold.nx, fun k => (x.lo.cold.x k, ())), (x.lo.cold.ny, fun k => (x.lo.cold.y k, ())), x.lo.extra, x.lo.pair, x.lo.keep, x.lo.leak, x.lo.hcap, x.lo.cool, (x.lo.stress.nx, fun k => (x.lo.stress.x k, ())), (x.lo.stress.ny, fun k => (x.lo.stress.y k, ())), x.lo.cyc, x.lo.agel, x.lo.grow, x.hi.cap, (x.hi.ocv.nx, fun k => (x.hi.ocv.x k, ())), (x.hi.ocv.ny, fun k => (x.hi.ocv.y k, ())), x.hi.shift, (x.hi.cold.nx, fun k => (x.hi.cold.x k, ())), (x.hi.cold.ny, fun k => (x.hi.cold.y k, ())), x.hi.extra, x.hi.pair, x.hi.keep, x.hi.leak, x.hi.hcap, x.hi.cool, (x.hi.stress.nx, fun k => (x.hi.stress.x k, ())), (x.hi.stress.ny, fun k => (x.hi.stress.y k, ())), x.hi.cyc, x.hi.agel, x.hi.grow, x.wl, x.wh, x.cl, x.ch, x.fl, x.fh, x.ol, x.oh, x.rl, x.rh, ()) = x := by
 unfold rspOf
 simp only [celOf_mk]
 unfold Rsp.lo Rsp.hi Rsp.wl Rsp.wh Rsp.cl Rsp.ch Rsp.fl Rsp.fh Rsp.ol Rsp.oh Rsp.rl Rsp.rh
 rfl
@[simp] theorem rspOf_D (x : Rsp) : rspOf (rspD x) = x := rspOf_mk x
theorem rsp_ex (x : Dat rspSh) : ∃ w : Rsp, x = rspD w := by
 obtain ⟨a0, a1, a2, a3, a4, a5, a6, a7, a8, a9, a10, a11, a12, a13, a14, a15, a16, b0, b1, b2, b3, b4, b5, b6, b7, b8, b9, b10, b11, b12, b13, b14, b15, b16, w0, w1, w2, w3, w4, w5, w6, w7, w8, w9, ⟨⟩⟩ := x
 obtain ⟨c, hc⟩ := cel_ex (a0, a1, a2, a3, a4, a5, a6, a7, a8, a9, a10, a11, a12, a13, a14, a15, a16, ())
 obtain ⟨d, hd⟩ := cel_ex (b0, b1, b2, b3, b4, b5, b6, b7, b8, b9, b10, b11, b12, b13, b14, b15, b16, ())
 refine ⟨⟨c, d, w0, w1, w2, w3, w4, w5, w6, w7, w8, w9⟩, ?_⟩
 simp only [celD, Prod.mk.injEq] at hc hd
 obtain ⟨rfl, rfl, rfl, rfl, rfl, rfl, rfl, rfl, rfl, rfl, rfl, rfl, rfl, rfl, rfl, rfl, rfl, -⟩ := hc
 obtain ⟨rfl, rfl, rfl, rfl, rfl, rfl, rfl, rfl, rfl, rfl, rfl, rfl, rfl, rfl, rfl, rfl, rfl, -⟩ := hd
 unfold rspD Rsp.lo Rsp.hi Rsp.wl Rsp.wh Rsp.cl Rsp.ch Rsp.fl Rsp.fh Rsp.ol Rsp.oh Rsp.rl Rsp.rh
 rfl
theorem enc_rsp (x : Rsp) : enc rspSh (rspD x) = .agg [.si .i64 x.lo.cap, .slc (.sym x.lo.ocv.nx) 1 (fun k => [.si .i64 (x.lo.ocv.x k)]), .slc (.sym x.lo.ocv.ny) 1 (fun k => [.si .i64 (x.lo.ocv.y k)]), .si .i64 x.lo.shift, .slc (.sym x.lo.cold.nx) 1 (fun k => [.si .i64 (x.lo.cold.x k)]), .slc (.sym x.lo.cold.ny) 1 (fun k => [.si .i64 (x.lo.cold.y k)]), .si .i64 x.lo.extra, .si .i64 x.lo.pair, .si .i64 x.lo.keep, .si .i64 x.lo.leak, .si .i64 x.lo.hcap, .si .i64 x.lo.cool, .slc (.sym x.lo.stress.nx) 1 (fun k => [.si .i64 (x.lo.stress.x k)]), .slc (.sym x.lo.stress.ny) 1 (fun k => [.si .i64 (x.lo.stress.y k)]), .si .i64 x.lo.cyc, .si .i64 x.lo.agel, .si .i64 x.lo.grow, .si .i64 x.hi.cap, .slc (.sym x.hi.ocv.nx) 1 (fun k => [.si .i64 (x.hi.ocv.x k)]), .slc (.sym x.hi.ocv.ny) 1 (fun k => [.si .i64 (x.hi.ocv.y k)]), .si .i64 x.hi.shift, .slc (.sym x.hi.cold.nx) 1 (fun k => [.si .i64 (x.hi.cold.x k)]), .slc (.sym x.hi.cold.ny) 1 (fun k => [.si .i64 (x.hi.cold.y k)]), .si .i64 x.hi.extra, .si .i64 x.hi.pair, .si .i64 x.hi.keep, .si .i64 x.hi.leak, .si .i64 x.hi.hcap, .si .i64 x.hi.cool, .slc (.sym x.hi.stress.nx) 1 (fun k => [.si .i64 (x.hi.stress.x k)]), .slc (.sym x.hi.stress.ny) 1 (fun k => [.si .i64 (x.hi.stress.y k)]), .si .i64 x.hi.cyc, .si .i64 x.hi.agel, .si .i64 x.hi.grow, .si .i64 x.wl, .si .i64 x.wh, .si .i64 x.cl, .si .i64 x.ch, .si .i64 x.fl, .si .i64 x.fh, .si .i64 x.ol, .si .i64 x.oh, .si .i64 x.rl, .si .i64 x.rh] := rfl
theorem wear_mv (c : Cel) (d : Nat -> Int) (t a : Int) : wearV (mvC c d) t a = wearV c t a := by unfold wearV; rw [mvC_cyc, mvC_agel]
@[irreducible] def rspV (c : Cel) (lo hi bl bh : Nat -> Int) : Rsp := ⟨mvC c lo, mvC c hi, wdWL c bl, wdWL c bh, roomV (mvC c lo) (wdWL c bh), roomV (mvC c hi) (wdWL c bl), wdFL c hi bl bh, wdFH c lo bl bh, openV (mvC c lo) (wdFL c hi bl bh), openV (mvC c hi) (wdFH c lo bl bh), wdRL c lo bl bh, wdRH c hi bl bh⟩
theorem rspV_lo (c : Cel) (lo hi bl bh : Nat -> Int) : (rspV c lo hi bl bh).lo = mvC c lo := by unfold rspV Rsp.lo; rfl
theorem rspV_hi (c : Cel) (lo hi bl bh : Nat -> Int) : (rspV c lo hi bl bh).hi = mvC c hi := by unfold rspV Rsp.hi; rfl
theorem rspV_wl (c : Cel) (lo hi bl bh : Nat -> Int) : (rspV c lo hi bl bh).wl = wdWL c bl := by unfold rspV Rsp.wl; rfl
theorem rspV_wh (c : Cel) (lo hi bl bh : Nat -> Int) : (rspV c lo hi bl bh).wh = wdWL c bh := by unfold rspV Rsp.wh; rfl
theorem rspV_cl (c : Cel) (lo hi bl bh : Nat -> Int) : (rspV c lo hi bl bh).cl = roomV (mvC c lo) (wdWL c bh) := by unfold rspV Rsp.cl; rfl
theorem rspV_ch (c : Cel) (lo hi bl bh : Nat -> Int) : (rspV c lo hi bl bh).ch = roomV (mvC c hi) (wdWL c bl) := by unfold rspV Rsp.ch; rfl
theorem rspV_fl (c : Cel) (lo hi bl bh : Nat -> Int) : (rspV c lo hi bl bh).fl = wdFL c hi bl bh := by unfold rspV Rsp.fl; rfl
theorem rspV_fh (c : Cel) (lo hi bl bh : Nat -> Int) : (rspV c lo hi bl bh).fh = wdFH c lo bl bh := by unfold rspV Rsp.fh; rfl
theorem rspV_ol (c : Cel) (lo hi bl bh : Nat -> Int) : (rspV c lo hi bl bh).ol = openV (mvC c lo) (wdFL c hi bl bh) := by unfold rspV Rsp.ol; rfl
theorem rspV_oh (c : Cel) (lo hi bl bh : Nat -> Int) : (rspV c lo hi bl bh).oh = openV (mvC c hi) (wdFH c lo bl bh) := by unfold rspV Rsp.oh; rfl
theorem rspV_rl (c : Cel) (lo hi bl bh : Nat -> Int) : (rspV c lo hi bl bh).rl = wdRL c lo bl bh := by unfold rspV Rsp.rl; rfl
theorem rspV_rh (c : Cel) (lo hi bl bh : Nat -> Int) : (rspV c lo hi bl bh).rh = wdRH c hi bl bh := by unfold rspV Rsp.rh; rfl
@[irreducible] def mkW (x : Rsp) (n : Nat) (bl bh : Nat -> Int) : Wid := ⟨x.lo, x.hi, n, bl, bh, x.wl, x.wh, x.fl, x.fh, x.rl, x.rh⟩
theorem mkW_V (c : Cel) (lo hi : Nat -> Int) (n : Nat) (bl bh : Nat -> Int) : mkW (rspV c lo hi bl bh) n bl bh = widV c lo hi n bl bh := by
 unfold mkW
 rw [rspV_lo, rspV_hi, rspV_wl, rspV_wh, rspV_fl, rspV_fh, rspV_rl, rspV_rh]
 unfold widV; rfl
theorem mkW_n (x : Rsp) (n : Nat) (bl bh : Nat -> Int) : (mkW x n bl bh).lo = x.lo /\ (mkW x n bl bh).hi = x.hi /\ (mkW x n bl bh).n = n /\ (mkW x n bl bh).bl = bl /\ (mkW x n bl bh).bh = bh /\ (mkW x n bl bh).fl = x.fl /\ (mkW x n bl bh).fh = x.fh /\ (mkW x n bl bh).rl = x.rl /\ (mkW x n bl bh).rh = x.rh := by
 unfold mkW Wid.lo Wid.hi Wid.n Wid.bl Wid.bh Wid.fl Wid.fh Wid.rl Wid.rh
 exact ⟨rfl, rfl, rfl, rfl, rfl, rfl, rfl, rfl, rfl⟩
structure RspOK (x : Rsp) (n : Nat) (bl bh : Nat -> Int) : Prop where
 w : WidOK (mkW x n bl bh)
 ol : x.ol = openV x.lo x.fl
 oh : x.oh = openV x.hi x.fh
theorem rsp_of {c : Cel} {n : Nat} {lo hi : Nat -> Int} {m : Nat} {bl bh : Nat -> Int} (h : ChkOK c n lo hi m bl bh) : RspOK (rspV c lo hi bl bh) m bl bh := by
 refine ⟨by rw [mkW_V]; exact wid_of h, ?_, ?_⟩
 ·rw [rspV_ol, rspV_lo, rspV_fl]
 ·rw [rspV_oh, rspV_hi, rspV_fh]
def proA : Spec [spanSh, spanSh] := ⟨proS'.pre, fun (((a : Int), (b : Int), _), ((c : Int), (d : Int), _), _) => .agg [.si .i64 (prL a b c d), .si .i64 (prH a b c d)]⟩
set_option maxRecDepth 100000 in
theorem rpro_ok : FnSpec Tryz.prog 191 _ proA := by
 refine FnSpec.of SUe_ok mixed (U := 0) (I := fun _ => []) Tryz.func191 rfl (by kernel_rfl) rfl rfl (by decide +kernel) ?_
 rintro ⟨⟨(a : Int), (b : Int), ⟨⟩⟩, ⟨(c : Int), (d : Int), ⟨⟩⟩, ⟨⟩⟩ ⟨ha, hb, hc, hd⟩
 unfold FnSat
 conv => arg 2; reduce
 simp [proA, and_assoc]
 have h1 := mulB (K := 1099511627776) (L := 4194304) ha hc
 have h2 := mulB (K := 1099511627776) (L := 4194304) ha hd
 have h3 := mulB (K := 1099511627776) (L := 4194304) hb hc
 have h4 := mulB (K := 1099511627776) (L := 4194304) hb hd
 unfold prL prH
 omega
def sqrA : Spec [spanSh] := ⟨sqrS.pre, fun (((a : Int), (b : Int), _), _) => .agg [.si .i64 (sqL a b), .si .i64 (sqH a b)]⟩
set_option maxRecDepth 100000 in
theorem rsqr_ok : FnSpec Tryz.prog 202 _ sqrA := by
 refine FnSpec.of SUe_ok mixed (U := 0) (I := fun _ => []) Tryz.func202 rfl (by kernel_rfl) rfl rfl (by decide +kernel) ?_
 rintro ⟨⟨(a : Int), (b : Int), ⟨⟩⟩, ⟨⟩⟩ ⟨ha, hb⟩
 unfold FnSat
 conv => arg 2; reduce
 simp [sqrA, ElEq, getB, goneB, aliveB, and_assoc]
 have h1 := mulB (K := 1073741824) (L := 1073741824) ha ha
 have h2 := mulB (K := 1073741824) (L := 1073741824) hb hb
 refine ⟨by omega, by omega, by omega, by omega, by omega, by omega, by omega, by omega, fun q1 q2 => ⟨by unfold sqL; rw [if_pos ⟨q1, q2⟩], by unfold sqH; rfl⟩, fun q => ⟨by unfold sqL; rw [if_neg (by omega)], by unfold sqH; rfl⟩⟩
def capsS : Spec [celSh, celSh, spanSh, spanSh] := ⟨fun (c, d, ((t : Int), (t' : Int), _), ((a : Int), (a' : Int), _), _) => celB (celOf c) = true /\ celB (celOf d) = true /\ 0 <= t /\ t <= 2199023255552 /\ 0 <= t' /\ t' <= 2199023255552 /\ 0 <= a /\ a <= 2199023255552 /\ 0 <= a' /\ a' <= 2199023255552,
 fun (c, d, ((t : Int), (t' : Int), _), ((a : Int), (a' : Int), _), _) => .agg [.si .i64 (roomV (celOf c) (wearV (celOf c) t' a')), .si .i64 (roomV (celOf d) (wearV (celOf d) t a))]⟩
set_option maxRecDepth 100000 in
set_option maxHeartbeats 2000000 in
theorem caps_ok : FnSpec Tryz.prog 173 _ capsS := by
 refine FnSpec.of SUe_ok mixed (U := 0) (I := fun _ => []) Tryz.func173 rfl (by kernel_rfl) rfl rfl (by decide +kernel) ?_
 rintro ⟨c, d, ⟨(t : Int), (t' : Int), ⟨⟩⟩, ⟨(a : Int), (a' : Int), ⟨⟩⟩, ⟨⟩⟩ hpre
 obtain ⟨c, rfl⟩ := cel_ex c
 obtain ⟨d, rfl⟩ := cel_ex d
 have hpre : celB c = true /\ celB d = true /\ 0 <= t /\ t <= 2199023255552 /\ 0 <= t' /\ t' <= 2199023255552 /\ 0 <= a /\ a <= 2199023255552 /\ 0 <= a' /\ a' <= 2199023255552 := by
  have : celB (celOf (celD c)) = true /\ celB (celOf (celD d)) = true /\ 0 <= t /\ t <= 2199023255552 /\ 0 <= t' /\ t' <= 2199023255552 /\ 0 <= a /\ a <= 2199023255552 /\ 0 <= a' /\ a' <= 2199023255552 := hpre
  rwa [celOf_D, celOf_D] at this
 obtain ⟨hc, hd, t0, t1, t2, t3, a0, a1, a2, a3⟩ := hpre
 unfold FnSat
 conv => arg 2; reduce
 simp [capsS, rwearS, ElEq, getB, goneB, aliveB, and_assoc]
 have kc := celB_iff.1 hc
 have kd := celB_iff.1 hd
 have w1 : WearOK c t' a' := ⟨kc.cy0, kc.cy1, kc.al0, kc.al1, t2, t3, a2, a3⟩
 have w2 : WearOK d t a := ⟨kd.cy0, kd.cy1, kd.al0, kd.al1, t0, t1, a0, a1⟩
 have v1 := wearV_in w1
 have v2 := wearV_in w2
 have := kc.cap0
 have := kc.cap1
 have := kd.cap0
 have := kd.cap1
 exact ⟨w1, by omega, by omega, w2, by omega, by omega, by unfold roomV; rfl, by unfold roomV; rfl⟩
end
end Abs
end Go.Proofs.YtlabbaglbcmofaaGreat

namespace Go.Proofs.YtlabbaglbcmofaaGreat
namespace Abs
open Go Go.RowKit
noncomputable section
attribute [local irreducible] FnSat
def rrelT : Spec [.int .i64, .int .i64, .int .i64, .int .i64] := ⟨fun ((k : Int), (o : Int), (i : Int), (p : Int), _) => 0 <= k /\ k <= 65536 /\ -8388608 <= o /\ o <= 8388608 /\ -1099511627776 <= i /\ i <= 1099511627776 /\ p = 1,
 fun ((k : Int), (o : Int), (i : Int), (p : Int), _) => .si .i64 (relV k o i p)⟩
set_option maxRecDepth 100000 in
theorem rrelT_ok : FnSpec Tryz.prog 195 _ rrelT := by
 refine FnSpec.of SUe_ok mixed (U := 0) (I := fun _ => []) Tryz.func195 rfl (by kernel_rfl) rfl rfl (by decide +kernel) ?_
 rintro ⟨(k : Int), (o : Int), (i : Int), (p : Int), ⟨⟩⟩ ⟨(k0 : 0 <= k), (k1 : k <= 65536), (o0 : -8388608 <= o), (o1 : o <= 8388608), (i0 : -1099511627776 <= i), (i1 : i <= 1099511627776), (p0 : p = 1)⟩
 subst p0
 unfold FnSat
 conv => arg 2; reduce
 simp [rrelT, divS, and_assoc]
 have h1 := mul_ab (a := o) (b := 1000 * k) (A := 8388608) (B := 65536000) o0 o1 (by omega) (by omega)
 have h2 := mul_ab (a := i) (b := 65536 - k) (A := 1099511627776) (B := 65536) i0 i1 (by omega) (by omega)
 rw [Int.mul_comm o] at h1
 rw [Int.mul_comm i] at h2
 have e : dvI (1000 * k * o + (65536 - k) * i) 65536000 = relV k o i 1 := by unfold relV; rw [Int.mul_one]
 rw [e]
 repeat' (first | refine And.intro ?_ ?_ | intro _)
 all_goals first | omega | rfl
noncomputable def SWa : Sums := ⟨(173, mkSum _ capsS) :: (202, mkSum _ sqrA) :: (191, mkSum _ proA) :: (195, mkSum _ rrelT) :: (194, mkSum _ rresS) :: (193, mkSum _ ropenS) :: (192, mkSum _ pcS) :: SUe.one, SUe.two, SUe.lo, SUe.eqs, SUe.its, SUe.imm⟩
theorem SWa_ok : SumsOK Tryz.prog SWa := (((((((SUe_ok.cons Tryz.func192 (by kernel_rfl) (by kernel_rfl) rfill_ok).cons Tryz.func193 (by kernel_rfl) (by kernel_rfl) ropen_ok).cons Tryz.func194 (by kernel_rfl) (by kernel_rfl) rres_ok).cons Tryz.func195 (by kernel_rfl) (by kernel_rfl) rrelT_ok).cons Tryz.func191 (by kernel_rfl) (by kernel_rfl) rpro_ok).cons Tryz.func202 (by kernel_rfl) (by kernel_rfl) rsqr_ok).cons Tryz.func173 (by kernel_rfl) (by kernel_rfl) caps_ok)
def spoS : Spec [celSh, spansSh, spansSh] := ⟨fun (c, (n, el), (m, em), _) => ChkOK (celOf c) n (fun k => (el k).1) (fun k => (el k).2.1) m (fun k => (em k).1) (fun k => (em k).2.1), fun (c, (_, el), (_, em), _) => enc rspSh (rspD (rspV (celOf c) (fun k => (el k).1) (fun k => (el k).2.1) (fun k => (em k).1) (fun k => (em k).2.1)))⟩
set_option maxRecDepth 100000 in
set_option maxHeartbeats 8000000 in
theorem spo_ok : FnSpec Tryz.prog 170 _ spoS := by
 refine FnSpec.of SWa_ok mixed (U := 0) (I := fun _ => []) Tryz.func170 rfl (by kernel_rfl) rfl rfl (by decide +kernel) ?_
 rintro ⟨c, ⟨n, el⟩, ⟨m, em⟩, ⟨⟩⟩ hpre
 obtain ⟨c, rfl⟩ := cel_ex c
 obtain ⟨lo, hi, rfl⟩ : ∃ lo hi : Nat -> Int, el = fun k => (lo k, hi k, ()) := ⟨fun k => (el k).1, fun k => (el k).2.1, rfl⟩
 obtain ⟨bl, bh, rfl⟩ : ∃ bl bh : Nat -> Int, em = fun k => (bl k, bh k, ()) := ⟨fun k => (em k).1, fun k => (em k).2.1, rfl⟩
 have hpre : ChkOK c n lo hi m bl bh := by have : ChkOK (celOf (celD c)) n lo hi m bl bh := hpre; rwa [celOf_D] at this
 obtain rfl : n = 7 := hpre.n
 obtain rfl : m = 5 := hpre.m
 unfold FnSat
 conv => arg 2; reduce
 simp [spoS, renS, rplS, rwearS, capsS, pcS, ropenS, rresS, celOf_mv, enc_rsp, rspV_lo, rspV_hi, rspV_wl, rspV_wh, rspV_cl, rspV_ch, rspV_fl, rspV_fh, rspV_ol, rspV_oh, rspV_rl, rspV_rh, wear_mv, ElEq, getB, goneB, aliveB, and_assoc]
 have hc := hpre.cel
 have hk := celB_iff.1 hc
 obtain ⟨q0, q1, q2, q3, q4, q5, q6, q7, q8, q9, q10, q11, q12, q13, q14⟩ := hpre.bx
 have w1 : WearOK c (bl 3) (bl 4) := ⟨hk.cy0, hk.cy1, hk.al0, hk.al1, q9, by omega, q12, by omega⟩
 have w2 : WearOK c (bh 3) (bh 4) := ⟨hk.cy0, hk.cy1, hk.al0, hk.al1, by omega, by omega, by omega, by omega⟩
 have v1 := wearV_in w1
 have v2 := wearV_in w2
 have ho : ofsB lo /\ ofsB hi := by
  have := fun k hk => spanOK_iff.1 (hpre.le k hk)
  constructor <;>
  ·unfold ofsB
   intro k hk
   have := this k hk
   omega
 have r1 := (@roomV_in (mvC c hi) (wearV c (bl 3) (bl 4))).1
 have r2 := (@roomV_in (mvC c lo) (wearV c (bh 3) (bh 4))).1
 have f1 := pcV_in (x := bl 0) q0 r1
 have f2 := pcV_in (x := bh 0) (by omega) r2
 refine ⟨hc, ho.1, hc, ho.2, w1, w2, hpre.cl, hpre.ch, by omega, by omega, by omega, by omega, by omega, by omega, by omega, by omega, by omega, by omega, r1, by omega, by omega, r2, hpre.cl, by omega, by omega, hpre.ch, by omega, by omega, hpre.cl, by omega, by omega, by omega, by omega, hpre.ch, by omega, by omega, by omega, by omega, ?_⟩
 unfold wdFL wdFH wdRL wdRH wdWL
 exact ⟨rfl, rfl, rfl, rfl, rfl, rfl, rfl, rfl, rfl, rfl⟩
def rvlS : Spec [rspSh, spansSh, spanSh] := ⟨fun (x, (m, em), ((a : Int), (b : Int), _), _) => RspOK (rspOf x) m (fun k => (em k).1) (fun k => (em k).2.1) /\ insV (-1048576) a b 1048576 = true,
 fun (x, (m, em), ((a : Int), (b : Int), _), _) => .agg [.si .i64 (wvL (mkW (rspOf x) m (fun k => (em k).1) (fun k => (em k).2.1)) a b), .si .i64 (wvH (mkW (rspOf x) m (fun k => (em k).1) (fun k => (em k).2.1)) a b)]⟩
set_option maxRecDepth 100000 in
set_option maxHeartbeats 8000000 in
theorem rvl_ok : FnSpec Tryz.prog 169 _ rvlS := by
 refine FnSpec.of SWa_ok mixed (U := 0) (I := fun _ => []) Tryz.func169 rfl (by kernel_rfl) rfl rfl (by decide +kernel) ?_
 rintro ⟨x, ⟨m, em⟩, ⟨(a : Int), (b : Int), ⟨⟩⟩, ⟨⟩⟩ hpre
 obtain ⟨x, rfl⟩ := rsp_ex x
 obtain ⟨bl, bh, rfl⟩ : ∃ bl bh : Nat -> Int, em = fun k => (bl k, bh k, ()) := ⟨fun k => (em k).1, fun k => (em k).2.1, rfl⟩
 have hpre : RspOK x m bl bh /\ insV (-1048576) a b 1048576 = true := by have : RspOK (rspOf (rspD x)) m bl bh /\ insV (-1048576) a b 1048576 = true := hpre; rwa [rspOf_D] at this
 obtain ⟨h, hi⟩ := hpre
 obtain ⟨e1, e2, e3, e4, e5, e6, e7, e8, e9⟩ := mkW_n x m bl bh
 have hn := h.w.n
 rw [e3] at hn
 subst hn
 unfold FnSat
 conv => arg 2; reduce
 simp [rvlS, proA, proS', divS, ElEq, getB, goneB, aliveB, and_assoc]
 have w := h.w
 obtain ⟨i0, i1, i2⟩ := insV_iff.1 hi
 have el : wvL (mkW x 5 bl bh) a b = openV x.lo x.fl - bh 1 - dvI (prH a b x.rl x.rh) 1000 := by unfold wvL; rw [e1, e5, e6, e8, e9]
 have eh : wvH (mkW x 5 bl bh) a b = openV x.hi x.fh - bl 1 - dvI (prL a b x.rl x.rh) 1000 := by unfold wvH; rw [e2, e4, e7, e8, e9]
 have hb := boxB_ok.1 w.bx
 have hlo := w.lo
 have hhi := w.hi
 have f0 := w.f0
 have f1 := w.f1
 have g0 := w.g0
 have g1 := w.g1
 have r0 := w.r0
 have r1 := w.r1
 have s0 := w.s0
 have s1 := w.s1
 rw [e1] at hlo
 rw [e2] at hhi
 rw [e4, e5] at hb
 rw [e6] at f0 f1
 rw [e7] at g0 g1
 rw [e8] at r0 r1
 rw [e9] at s0 s1
 have o1 := open_in (f := x.fl) hlo
 have o2 := open_in (f := x.fh) hhi
 have := h.ol
 have := h.oh
 have := hb.x0
 have := hb.x1
 have := hb.x2
 have hp := prB (a := a) (b := b) (c := x.rl) (d := x.rh) (K := 1048576) (L := 1048576) (by omega) (by omega) (by omega) (by omega)
 have d1 := dvI_ge (a := prL a b x.rl x.rh) (d := 1000) (m := -1099511628) (by decide) (by omega)
 have d2 := dvI_le (a := prH a b x.rl x.rh) (d := 1000) (m := 1099511628) (by decide) (by omega)
 have d3 := dvI_mono (a := prL a b x.rl x.rh) (b := prH a b x.rl x.rh) (d := 1000) (by decide) hp.2.1
 rw [el, eh]
 clear el eh
 repeat' (first | refine And.intro ?_ ?_ | intro _)
 all_goals omega
def rwmS : Spec [rspSh, spansSh, spanSh] := ⟨rvlS.pre,
 fun (x, (m, em), ((a : Int), (b : Int), _), _) => .agg [.si .i64 (whL (mkW (rspOf x) m (fun k => (em k).1) (fun k => (em k).2.1)) a b), .si .i64 (whH (mkW (rspOf x) m (fun k => (em k).1) (fun k => (em k).2.1)) a b)]⟩
set_option maxRecDepth 100000 in
set_option maxHeartbeats 8000000 in
theorem rwm_ok : FnSpec Tryz.prog 196 _ rwmS := by
 refine FnSpec.of SWa_ok mixed (U := 0) (I := fun _ => []) Tryz.func196 rfl (by kernel_rfl) rfl rfl (by decide +kernel) ?_
 rintro ⟨x, ⟨m, em⟩, ⟨(a : Int), (b : Int), ⟨⟩⟩, ⟨⟩⟩ hpre
 obtain ⟨x, rfl⟩ := rsp_ex x
 obtain ⟨bl, bh, rfl⟩ : ∃ bl bh : Nat -> Int, em = fun k => (bl k, bh k, ()) := ⟨fun k => (em k).1, fun k => (em k).2.1, rfl⟩
 have hpre : RspOK x m bl bh /\ insV (-1048576) a b 1048576 = true := by have : RspOK (rspOf (rspD x)) m bl bh /\ insV (-1048576) a b 1048576 = true := hpre; rwa [rspOf_D] at this
 obtain ⟨h, hi⟩ := hpre
 obtain ⟨e1, e2, e3, e4, e5, e6, e7, e8, e9⟩ := mkW_n x m bl bh
 have hn := h.w.n
 rw [e3] at hn
 subst hn
 unfold FnSat
 conv => arg 2; reduce
 simp [rwmS, sqrA, sqrS, divS, ElEq, getB, goneB, aliveB, and_assoc]
 obtain ⟨i0, i1, i2⟩ := insV_iff.1 hi
 have hb := boxB_ok.1 h.w.bx
 have kl := celB_iff.1 h.w.lo
 have kh := celB_iff.1 h.w.hi
 have hpr := h.w.pr
 obtain ⟨p1, p2, p3, p4, p5, p6, p7, p8, p9, p10⟩ := wh_parts h.w hi
 have E1 : whL (mkW x 5 bl bh) a b = dvI (sqL a b * x.rl) 1000000000 + (if 0 < x.lo.pair then dvI (sqL (bl 1) (bh 1)) (1000 * x.hi.pair) else 0) := by unfold whL; rw [e1, e2, e4, e5, e8]
 have E2 : whH (mkW x 5 bl bh) a b = dvI (sqH a b * x.rh) 1000000000 + (if 0 < x.hi.pair then dvI (sqH (bl 1) (bh 1)) (1000 * max 1 x.lo.pair) else 0) := by unfold whH; rw [e1, e2, e4, e5, e9]
 rw [e4, e5] at hb p7 p8 p9 p10
 rw [e1] at kl hpr p9
 rw [e2] at kh hpr p10
 rw [e8] at p1 p2 p5
 rw [e9] at p3 p4 p6
 have := hb.x0
 have := hb.x1
 have := hb.x2
 have := kl.pr0
 have := kl.pr1
 have := kh.pr1
 have c1 : 0 < x.lo.pair -> whL (mkW x 5 bl bh) a b = dvI (sqL a b * x.rl) 1000000000 + dvI (sqL (bl 1) (bh 1)) (1000 * x.hi.pair) := fun q => by rw [E1, if_pos q]
 have c2 : x.lo.pair <= 0 -> whL (mkW x 5 bl bh) a b = dvI (sqL a b * x.rl) 1000000000 := fun q => by rw [E1, if_neg (by omega), Int.add_zero]
 have c3 : 0 < x.hi.pair -> whH (mkW x 5 bl bh) a b = dvI (sqH a b * x.rh) 1000000000 + dvI (sqH (bl 1) (bh 1)) (1000 * max 1 x.lo.pair) := fun q => by rw [E2, if_pos q]
 have c4 : x.hi.pair <= 0 -> whH (mkW x 5 bl bh) a b = dvI (sqH a b * x.rh) 1000000000 := fun q => by rw [E2, if_neg (by omega), Int.add_zero]
 clear E1 E2
 refine ⟨by omega, by omega, by omega, by omega, by omega, by omega, by omega, by omega, by omega, by omega, by omega, by omega, by omega, by omega, by omega, by omega, fun q => ?_, fun q => ?_⟩
 ·have := p10 (by omega)
  refine ⟨by omega, by omega, by omega, by omega, by omega, by omega, by omega, fun q' => ?_, fun q' => by omega⟩
  exact ⟨by omega, by omega, by omega, by omega, by omega, by omega, by omega, (c1 q).symm, (c3 q').symm⟩
 ·refine ⟨fun q' => ?_, fun q' => ⟨(c2 q).symm, (c4 q').symm⟩⟩
  exact ⟨by omega, by omega, by omega, by omega, by omega, by omega, by omega, (c2 q).symm, (c3 q').symm⟩
noncomputable def SWb : Sums := ⟨(196, mkSum _ rwmS) :: (169, mkSum _ rvlS) :: (170, mkSum _ spoS) :: SWa.one, SWa.two, SWa.lo, SWa.eqs, SWa.its, SWa.imm⟩
theorem SWb_ok : SumsOK Tryz.prog SWb := (((SWa_ok.cons Tryz.func170 (by kernel_rfl) (by kernel_rfl) spo_ok).cons Tryz.func169 (by kernel_rfl) (by kernel_rfl) rvl_ok).cons Tryz.func196 (by kernel_rfl) (by kernel_rfl) rwm_ok)
end
end Abs
end Go.Proofs.YtlabbaglbcmofaaGreat

namespace Go.Proofs.YtlabbaglbcmofaaGreat
namespace Abs
open Go Go.RowKit
noncomputable section
attribute [local irreducible] FnSat
def rtpS : Spec [rspSh, spansSh, spanSh, spanSh] := ⟨fun (x, (m, em), ((a : Int), (b : Int), _), ((u : Int), (v : Int), _), _) => RspOK (rspOf x) m (fun k => (em k).1) (fun k => (em k).2.1) /\ insV (-1048576) a b 1048576 = true /\ insV 0 u v 400000 = true,
 fun (x, (m, em), ((a : Int), (b : Int), _), ((u : Int), (v : Int), _), _) => .agg [.si .i64 (wtL (mkW (rspOf x) m (fun k => (em k).1) (fun k => (em k).2.1)) a b u v), .si .i64 (wtH (mkW (rspOf x) m (fun k => (em k).1) (fun k => (em k).2.1)) a b u v)]⟩
set_option maxRecDepth 100000 in
set_option maxHeartbeats 8000000 in
theorem rtp_ok : FnSpec Tryz.prog 175 _ rtpS := by
 refine FnSpec.of SWb_ok mixed (U := 0) (I := fun _ => []) Tryz.func175 rfl (by kernel_rfl) rfl rfl (by decide +kernel) ?_
 rintro ⟨x, ⟨m, em⟩, ⟨(a : Int), (b : Int), ⟨⟩⟩, ⟨(u : Int), (v : Int), ⟨⟩⟩, ⟨⟩⟩ hpre
 obtain ⟨x, rfl⟩ := rsp_ex x
 obtain ⟨bl, bh, rfl⟩ : ∃ bl bh : Nat -> Int, em = fun k => (bl k, bh k, ()) := ⟨fun k => (em k).1, fun k => (em k).2.1, rfl⟩
 have hpre : RspOK x m bl bh /\ insV (-1048576) a b 1048576 = true /\ insV 0 u v 400000 = true := by have : RspOK (rspOf (rspD x)) m bl bh /\ insV (-1048576) a b 1048576 = true /\ insV 0 u v 400000 = true := hpre; rwa [rspOf_D] at this
 obtain ⟨h, hi, hu⟩ := hpre
 obtain ⟨e1, e2, e3, e4, e5, e6, e7, e8, e9⟩ := mkW_n x m bl bh
 have hn := h.w.n
 rw [e3] at hn
 subst hn
 unfold FnSat
 conv => arg 2; reduce
 simp [rtpS, rvlS, rwmS, divS, clipS, ElEq, getB, goneB, aliveB, and_assoc]
 have hb := boxB_ok.1 h.w.bx
 obtain ⟨i0, i1, i2⟩ := insV_iff.1 hi
 obtain ⟨u0, u1, u2⟩ := insV_iff.1 hu
 have kl := celB_iff.1 h.w.lo
 have kh := celB_iff.1 h.w.hi
 obtain ⟨w1, w2⟩ := wh_b h.w hi
 have eL : wtL (mkW x 5 bl bh) a b u v = clipV (bl 2 + dvI (1000 * whL (mkW x 5 bl bh) a b) x.hi.hcap + min (dvI ((u - bl 2) * x.lo.cool) 65536) (dvI ((u - bl 2) * x.hi.cool) 65536)) 0 400000 := by unfold wtL; rw [e1, e2, e4]
 have eH : wtH (mkW x 5 bl bh) a b u v = clipV (bh 2 + dvI (1000 * whH (mkW x 5 bl bh) a b) x.lo.hcap + max (dvI ((v - bh 2) * x.lo.cool) 65536) (dvI ((v - bh 2) * x.hi.cool) 65536)) 0 400000 := by unfold wtH; rw [e1, e2, e5]
 rw [eL, eH]
 clear eL eH
 rw [e4, e5] at hb
 rw [e1] at kl
 rw [e2] at kh
 have := hb.t0
 have := hb.t1
 have := hb.t2
 generalize hA : whL (mkW x 5 bl bh) a b = A at *
 generalize hB : whH (mkW x 5 bl bh) a b = B at *
 have m1 := mul_ab (a := u - bl 2) (b := x.lo.cool) (A := 400000) (B := 65536) (by omega) (by omega) kl.co0 kl.co1
 have m2 := mul_ab (a := u - bl 2) (b := x.hi.cool) (A := 400000) (B := 65536) (by omega) (by omega) kh.co0 kh.co1
 have m3 := mul_ab (a := v - bh 2) (b := x.lo.cool) (A := 400000) (B := 65536) (by omega) (by omega) kl.co0 kl.co1
 have m4 := mul_ab (a := v - bh 2) (b := x.hi.cool) (A := 400000) (B := 65536) (by omega) (by omega) kh.co0 kh.co1
 have d1 := dvI_ge (a := (u - bl 2) * x.lo.cool) (d := 65536) (m := -400000) (by decide) (by omega)
 have d2 := dvI_ge (a := (u - bl 2) * x.hi.cool) (d := 65536) (m := -400000) (by decide) (by omega)
 have d3 := dvI_ge (a := (v - bh 2) * x.lo.cool) (d := 65536) (m := -400000) (by decide) (by omega)
 have d4 := dvI_ge (a := (v - bh 2) * x.hi.cool) (d := 65536) (m := -400000) (by decide) (by omega)
 have d5 := dvI_le (a := (u - bl 2) * x.lo.cool) (d := 65536) (m := 400000) (by decide) (by omega)
 have d6 := dvI_le (a := (u - bl 2) * x.hi.cool) (d := 65536) (m := 400000) (by decide) (by omega)
 have d7 := dvI_le (a := (v - bh 2) * x.lo.cool) (d := 65536) (m := 400000) (by decide) (by omega)
 have d8 := dvI_le (a := (v - bh 2) * x.hi.cool) (d := 65536) (m := 400000) (by decide) (by omega)
 have := kl.hc0
 have := kh.hc0
 have g1 := dvI_nonneg (a := 1000 * A) (d := x.hi.hcap) (by omega) (by omega)
 have g2 := dvI_le (a := 1000 * A) (d := x.hi.hcap) (m := 70369897099169000) (by omega) (by omega)
 have g3 := dvI_nonneg (a := 1000 * B) (d := x.lo.hcap) (by omega) (by omega)
 have g4 := dvI_le (a := 1000 * B) (d := x.lo.hcap) (m := 70369897099169000) (by omega) (by omega)
 refine ⟨h, hi, ?_⟩
 repeat' (first | refine And.intro ?_ ?_ | intro _)
 all_goals first | omega | rfl
def rrxS : Spec [rspSh, spansSh, spanSh] := ⟨rvlS.pre, fun (x, (m, em), ((a : Int), (b : Int), _), _) => .agg [.si .i64 (nbRL (mkW (rspOf x) m (fun k => (em k).1) (fun k => (em k).2.1)) a b), .si .i64 (nbRH (mkW (rspOf x) m (fun k => (em k).1) (fun k => (em k).2.1)) a b)]⟩
set_option maxRecDepth 100000 in
set_option maxHeartbeats 8000000 in
theorem rrx_ok : FnSpec Tryz.prog 174 _ rrxS := by
 refine FnSpec.of SWb_ok mixed (U := 0) (I := fun _ => []) Tryz.func174 rfl (by kernel_rfl) rfl rfl (by decide +kernel) ?_
 rintro ⟨x, ⟨m, em⟩, ⟨(a : Int), (b : Int), ⟨⟩⟩, ⟨⟩⟩ hpre
 obtain ⟨x, rfl⟩ := rsp_ex x
 obtain ⟨bl, bh, rfl⟩ : ∃ bl bh : Nat -> Int, em = fun k => (bl k, bh k, ()) := ⟨fun k => (em k).1, fun k => (em k).2.1, rfl⟩
 have hpre : RspOK x m bl bh /\ insV (-1048576) a b 1048576 = true := by have : RspOK (rspOf (rspD x)) m bl bh /\ insV (-1048576) a b 1048576 = true := hpre; rwa [rspOf_D] at this
 obtain ⟨h, hi⟩ := hpre
 obtain ⟨e1, e2, e3, e4, e5, e6, e7, e8, e9⟩ := mkW_n x m bl bh
 have hn := h.w.n
 rw [e3] at hn
 subst hn
 unfold FnSat
 conv => arg 2; reduce
 simp [rrxS, proA, proS', rrelT, clipS, ElEq, getB, goneB, aliveB, and_assoc]
 have hb := boxB_ok.1 h.w.bx
 obtain ⟨i0, i1, i2⟩ := insV_iff.1 hi
 have kl := celB_iff.1 h.w.lo
 have kh := celB_iff.1 h.w.hi
 have er : ∀ o p, clipV (relV x.lo.keep o p 1) (-8388608) 8388608 = slackV x.lo o p := fun o p => by unfold relV slackV; rw [Int.mul_one]
 have eL : nbRL (mkW x 5 bl bh) a b = slackV x.lo (bl 1) (prL a b x.lo.pair x.hi.pair) := by unfold nbRL; rw [e1, e2, e4]
 have eH : nbRH (mkW x 5 bl bh) a b = slackV x.lo (bh 1) (prH a b x.lo.pair x.hi.pair) := by unfold nbRH; rw [e1, e2, e5]
 rw [eL, eH, er, er]
 clear eL eH
 rw [e4, e5] at hb
 rw [e1] at kl
 rw [e2] at kh
 have := hb.x0
 have := hb.x1
 have := hb.x2
 have := kl.pr0
 have := kl.pr1
 have := kh.pr0
 have := kh.pr1
 have := kl.kp0
 have := kl.kp1
 have hp := prB (a := a) (b := b) (c := x.lo.pair) (d := x.hi.pair) (K := 1048576) (L := 1048576) (by omega) (by omega) (by omega) (by omega)
 repeat' (first | refine And.intro ?_ ?_ | intro _)
 all_goals first | omega | rfl
@[irreducible] def amL (a b : Int) : Int := max (max 0 a) (-b)
@[irreducible] def amH (a b : Int) : Int := max b (-a)
def ramS : Spec [spanSh] := ⟨fun (((a : Int), (b : Int), _), _) => -1048576 <= a /\ a <= 1048576 /\ -1048576 <= b /\ b <= 1048576, fun (((a : Int), (b : Int), _), _) => .agg [.si .i64 (amL a b), .si .i64 (amH a b)]⟩
set_option maxRecDepth 100000 in
theorem ram_ok : FnSpec Tryz.prog 171 _ ramS := by
 refine FnSpec.of SWb_ok mixed (U := 0) (I := fun _ => []) Tryz.func171 rfl (by kernel_rfl) rfl rfl (by decide +kernel) ?_
 rintro ⟨⟨(a : Int), (b : Int), ⟨⟩⟩, ⟨⟩⟩ ⟨a1, a2, b1, b2⟩
 unfold FnSat
 conv => arg 2; reduce
 simp [ramS, and_assoc]
 unfold amL amH
 omega
noncomputable def SWc : Sums := ⟨(171, mkSum _ ramS) :: (174, mkSum _ rrxS) :: (175, mkSum _ rtpS) :: SWb.one, SWb.two, SWb.lo, SWb.eqs, SWb.its, SWb.imm⟩
theorem SWc_ok : SumsOK Tryz.prog SWc := (((SWb_ok.cons Tryz.func175 (by kernel_rfl) (by kernel_rfl) rtp_ok).cons Tryz.func174 (by kernel_rfl) (by kernel_rfl) rrx_ok).cons Tryz.func171 (by kernel_rfl) (by kernel_rfl) ram_ok)
end
end Abs
end Go.Proofs.YtlabbaglbcmofaaGreat

namespace Go.Proofs.YtlabbaglbcmofaaGreat
namespace Abs
open Go Go.RowKit
noncomputable section
attribute [local irreducible] FnSat
def rnxS : Spec [celSh, spansSh, spansSh, spansSh] := ⟨fun (c, (n, el), (m, em), (p, en), _) => ChkOK (celOf c) n (fun k => (el k).1) (fun k => (el k).2.1) m (fun k => (em k).1) (fun k => (em k).2.1) /\ inpB p (fun k => (en k).1) (fun k => (en k).2.1) = true,
 fun (c, (_, el), (m, em), (_, en), _) => .slc (.lit 5) 2 (fun k => [.si .i64 (nbL (widV (celOf c) (fun k => (el k).1) (fun k => (el k).2.1) m (fun k => (em k).1) (fun k => (em k).2.1)) (en 0).1 (en 0).2.1 (en 1).1 (en 1).2.1 k), .si .i64 (nbH (widV (celOf c) (fun k => (el k).1) (fun k => (el k).2.1) m (fun k => (em k).1) (fun k => (em k).2.1)) (en 0).1 (en 0).2.1 (en 1).1 (en 1).2.1 k)])⟩
set_option maxRecDepth 100000 in
set_option maxHeartbeats 8000000 in
theorem rnx_ok : FnSpec Tryz.prog 128 _ rnxS := by
 refine FnSpec.of SWc_ok mixed (U := 0) (I := fun _ => []) Tryz.func128 rfl (by kernel_rfl) rfl rfl (by decide +kernel) ?_
 rintro ⟨c, ⟨n, el⟩, ⟨m, em⟩, ⟨p, en⟩, ⟨⟩⟩ hpre
 obtain ⟨c, rfl⟩ := cel_ex c
 obtain ⟨lo, hi, rfl⟩ : ∃ lo hi : Nat -> Int, el = fun k => (lo k, hi k, ()) := ⟨fun k => (el k).1, fun k => (el k).2.1, rfl⟩
 obtain ⟨bl, bh, rfl⟩ : ∃ bl bh : Nat -> Int, em = fun k => (bl k, bh k, ()) := ⟨fun k => (em k).1, fun k => (em k).2.1, rfl⟩
 obtain ⟨il, ih, rfl⟩ : ∃ il ih : Nat -> Int, en = fun k => (il k, ih k, ()) := ⟨fun k => (en k).1, fun k => (en k).2.1, rfl⟩
 have hpre : ChkOK c n lo hi m bl bh /\ inpB p il ih = true := by have : ChkOK (celOf (celD c)) n lo hi m bl bh /\ inpB p il ih = true := hpre; rwa [celOf_D] at this
 obtain ⟨hC, hI⟩ := hpre
 obtain rfl : n = 7 := hC.n
 obtain rfl : m = 5 := hC.m
 obtain ⟨rfl, I0, I1⟩ := inpB_iff.1 hI
 unfold FnSat
 conv => arg 2; reduce
 simp [rnxS, spoS, ramS, rvalS, capsS, rrxS, rvlS, rtpS, clipS, enc_rsp, mkW_V, ElEq, getB, goneB, aliveB, and_assoc]
 have hc := hC.cel
 have hk := celB_iff.1 hc
 have bx := hC.bx
 obtain ⟨q0, q1, q2, q3, q4, q5, q6, q7, q8, q9, q10, q11, q12, q13, q14⟩ := bx
 have R := rsp_of hC
 obtain ⟨i0, i1, i2⟩ := insV_iff.1 I0
 rw [rspV_lo, rspV_hi]
 have vp := val_pre hk.stress (by decide) (by decide)
 have s1 := sc_val hk.stress (bl 2)
 have s2 := sc_val hk.stress (bh 2)
 have kl := celB_iff.1 hC.cl
 have kh := celB_iff.1 hC.ch
 have := kl.lk0
 have := kl.lk1
 have := kh.lk0
 have := kh.lk1
 have am : 0 <= amL (il 0) (ih 0) /\ amL (il 0) (ih 0) <= 1048576 /\ 0 <= amH (il 0) (ih 0) /\ amH (il 0) (ih 0) <= 1048576 := by unfold amL amH; omega
 have T1 : nbTL (widV c lo hi 5 bl bh) (il 0) (ih 0) = bl 3 + amL (il 0) (ih 0) := by unfold nbTL amL; rw [widV_bl]
 have T2 : nbTH (widV c lo hi 5 bl bh) (il 0) (ih 0) = bh 3 + amH (il 0) (ih 0) := by unfold nbTH amH; rw [widV_bh]
 have A1 : nbAL (widV c lo hi 5 bl bh) = bl 4 + valL c.stress (bl 2) := by unfold nbAL; rw [widV_bl, widV_lo, mvC_stress]
 have A2 : nbAH (widV c lo hi 5 bl bh) = bh 4 + valL c.stress (bh 2) := by unfold nbAH; rw [widV_bh, widV_lo, mvC_stress]
 have Q1 : nbQL (widV c lo hi 5 bl bh) (il 0) (ih 0) = clipV (bl 0 - ih 0 - (mvC c hi).leak) 0 (roomV (mvC c lo) (wearV (mvC c lo) (bh 3 + amH (il 0) (ih 0)) (bh 4 + valL c.stress (bh 2)))) := by
  unfold nbQL; rw [T2, A2, widV_bl, widV_hi, widV_lo]
 have Q2 : nbQH (widV c lo hi 5 bl bh) (il 0) (ih 0) = clipV (bh 0 - il 0 - (mvC c lo).leak) 0 (roomV (mvC c hi) (wearV (mvC c hi) (bl 3 + amL (il 0) (ih 0)) (bl 4 + valL c.stress (bl 2)))) := by
  unfold nbQH; rw [T1, A1, widV_bh, widV_hi, widV_lo, wear_mv, wear_mv]
 have row2 : ∀ {a b a' b' : Int}, a = a' -> b = b' -> nrmL [.si .i64 a, .si .i64 b] = [.si .i64 a', .si .i64 b'] := fun h1 h2 => by rw [h1, h2]; rfl
 refine ⟨hC, by omega, by omega, by omega, by omega, by omega, by omega, by omega, by omega, vp.1, vp.2.1, vp.2.2.1, vp.2.2.2.1, vp.2.2.2.2, by omega, by omega, by omega, by omega, vp.1, vp.2.1, vp.2.2.1, vp.2.2.2.1, vp.2.2.2.2, by omega, by omega, by omega, by omega,
  hC.cl, hC.ch, by omega, by omega, by omega, by omega, by omega, by omega, by omega, by omega, by omega, by omega, ?_, ?_, by omega, by omega, ?_, ?_, R, I0, R, I0, I1, fun j hj => ?_⟩
 ·show -9223372036854775808 <= bl 0 - ih 0 - (mvC c hi).leak; omega
 ·show bl 0 - ih 0 - (mvC c hi).leak <= 9223372036854775807; omega
 ·show -9223372036854775808 <= bh 0 - il 0 - (mvC c lo).leak; omega
 ·show bh 0 - il 0 - (mvC c lo).leak <= 9223372036854775807; omega
 ·obtain ⟨z0, z0'⟩ := nb_0 (widV c lo hi 5 bl bh) (il 0) (ih 0) (il 1) (ih 1)
  obtain ⟨z1, z1'⟩ := nb_1 (widV c lo hi 5 bl bh) (il 0) (ih 0) (il 1) (ih 1)
  obtain ⟨z2, z2'⟩ := nb_2 (widV c lo hi 5 bl bh) (il 0) (ih 0) (il 1) (ih 1)
  obtain ⟨z3, z3'⟩ := nb_3 (widV c lo hi 5 bl bh) (il 0) (ih 0) (il 1) (ih 1)
  obtain ⟨z4, z4'⟩ := nb_4 (widV c lo hi 5 bl bh) (il 0) (ih 0) (il 1) (ih 1)
  match j, hj with
  | 0, _ => exact row2 (Q1.symm.trans z0.symm) (Q2.symm.trans z0'.symm)
  | 1, _ => exact row2 z1.symm z1'.symm
  | 2, _ => exact row2 z2.symm z2'.symm
  | 3, _ => exact row2 (T1.symm.trans z3.symm) (T2.symm.trans z3'.symm)
  | 4, _ => exact row2 (A1.symm.trans z4.symm) (A2.symm.trans z4'.symm)
noncomputable def SWd : Sums := ⟨(128, mkSum _ rnxS) :: SWc.one, SWc.two, SWc.lo, SWc.eqs, SWc.its, SWc.imm⟩
theorem SWd_ok : SumsOK Tryz.prog SWd := (SWc_ok.cons Tryz.func128 (by kernel_rfl) (by kernel_rfl) rnx_ok)
end
end Abs
end Go.Proofs.YtlabbaglbcmofaaGreat

namespace Go.Proofs.YtlabbaglbcmofaaGreat
namespace Abs
open Go Go.RowKit
noncomputable section
attribute [local irreducible] FnSat
structure BsInv (p : Int -> Bool) (most lo hi : Int) : Prop where
 a : 0 <= lo
 b : lo <= hi
 c : hi <= most
 d : p lo = true
 e : ∀ i, hi < i -> i <= most -> p i = false
@[irreducible] def grV (p : Int -> Bool) (most : Int) : Int := if p 0 = true then grI p most else 0
@[irreducible] def grE (p : Int -> Bool) : Int := if p 0 = true then 0 else 17
theorem bs_fin {p : Int -> Bool} {most lo hi : Int} (h : BsInv p most lo hi) (hm : Mono p most) (hh : hi <= lo) : lo = grV p most /\ 0 = grE p := by
 have := h.a
 have := h.b
 have := h.c
 have e := grI_uniq hm h.a (by omega) h.d fun hl => h.e (lo + 1) (by omega) (by omega)
 unfold grV grE
 rw [if_pos hm.p0, if_pos hm.p0, e]
 exact ⟨rfl, rfl⟩
theorem bs_up {p : Int -> Bool} {most lo hi m : Int} (h : BsInv p most lo hi) (h1 : lo < m) (h2 : m <= hi) (hp : p m = true) : BsInv p most m hi := ⟨by have := h.a; omega, h2, h.c, hp, h.e⟩
theorem bs_dn {p : Int -> Bool} {most lo hi m : Int} (h : BsInv p most lo hi) (hm : Mono p most) (h1 : lo < m) (h2 : m <= hi) (hp : p m = false) : BsInv p most lo (m - 1) :=
 ⟨h.a, by omega, by have := h.c; omega, h.d, fun i i1 i2 => by
  cases hi : p i with
  | false => rfl
  | true =>
    have := hm.dn m i (by have := h.a; omega) (by omega) i2 hi
    rw [hp] at this; cases this⟩
theorem mid_b {lo hi : Int} (h0 : 0 <= lo) (h : lo < hi) : lo < (lo + hi + 1).tdiv 2 /\ (lo + hi + 1).tdiv 2 <= hi := by
 rw [Int.tdiv_eq_ediv_of_nonneg (by omega)]; omega
theorem gr_no {p : Int -> Bool} {most : Int} (h : p 0 = false) : 0 = grV p most /\ 17 = grE p := by
 unfold grV grE
 rw [h]; simp
end
end Abs
end Go.Proofs.YtlabbaglbcmofaaGreat

namespace Go.Proofs.YtlabbaglbcmofaaGreat
namespace Abs
open Go Go.RowKit
noncomputable section
attribute [local irreducible] FnSat
end
end Abs
end Go.Proofs.YtlabbaglbcmofaaGreat

namespace Go.Proofs.YtlabbaglbcmofaaGreat
namespace Abs
open Go Go.RowKit
noncomputable section
attribute [local irreducible] FnSat
@[irreducible] def p2 (e : Nat) : Int := (2 : Int) ^ e
theorem p2_s (e : Nat) : p2 (e + 1) = 2 * p2 e := by unfold p2; rw [Int.pow_succ]; omega
theorem p2_0 : p2 0 = 1 := by unfold p2; rfl
theorem p2_pos : ∀ e, 1 <= p2 e
 | 0 => by rw [p2_0]; decide
 | e + 1 => by have := p2_pos e; rw [p2_s]; omega
theorem p2_mono {d : Nat} : ∀ {e : Nat}, d <= e -> p2 d <= p2 e
 | 0, h => by obtain rfl : d = 0 := by omega
              exact Int.le_refl _
 | e + 1, h => by
   rcases Nat.lt_or_ge d (e + 1) with h1 | h1
   ·have := p2_mono (d := d) (e := e) (by omega)
    have := p2_pos e
    rw [p2_s]; omega
   ·obtain rfl : d = e + 1 := by omega
    exact Int.le_refl _
@[irreducible] def stp (e : Nat) : Int := match e with | 0 => 0 | e + 1 => p2 e
theorem stp_0 : stp 0 = 0 := by unfold stp; rfl
theorem stp_s (e : Nat) : stp (e + 1) = p2 e := by unfold stp; rfl
theorem stp_half (e : Nat) : (stp (e + 1)).tdiv 2 = stp e := by
 rw [stp_s]
 cases e with
 | zero => rw [p2_0, stp_0]; rfl
 | succ e =>
   have := p2_pos e
   rw [p2_s, stp_s, Int.tdiv_eq_ediv_of_nonneg (by omega)]
   omega
theorem stp_b {e : Nat} (h : e <= 21) : 0 <= stp e /\ stp e <= 1048576 := by
 cases e with
 | zero => rw [stp_0]; decide
 | succ e =>
   have h1 := p2_mono (d := e) (e := 20) (by omega)
   have h2 := p2_pos e
   have h3 : p2 20 = 1048576 := by unfold p2; rfl
   rw [stp_s]; omega
structure HvInv (p : Int -> Bool) (most : Int) (e : Nat) (x : Int) : Prop where
 e1 : e <= 21
 a : 0 <= x
 b : x <= most
 c : p x = true
 d : ∀ i, x + p2 e <= i -> i <= most -> p i = false
theorem hv_0 {p : Int -> Bool} {most : Int} (hm : Mono p most) (h : most <= 1048576) : HvInv p most 21 0 := ⟨by decide, by decide, hm.h0, hm.p0, fun i h1 h2 => by
 have : p2 21 = 2097152 := by unfold p2; rfl
 omega⟩
theorem hv_fin {p : Int -> Bool} {most x : Int} {e : Nat} (h : HvInv p most e x) (hm : Mono p most) (hs : stp e <= 0) : x = grV p most /\ 0 = grE p := by
 obtain rfl : e = 0 := by
  cases e with
  | zero => rfl
  | succ e => have := p2_pos e; rw [stp_s] at hs; omega
 have hd := h.d
 rw [p2_0] at hd
 have e := grI_uniq hm h.a h.b h.c fun hl => hd (x + 1) (by omega) (by omega)
 unfold grV grE
 rw [if_pos hm.p0, if_pos hm.p0, e]
 exact ⟨rfl, rfl⟩
theorem hv_up {p : Int -> Bool} {most x : Int} {e : Nat} (h : HvInv p most (e + 1) x) (h1 : x + stp (e + 1) <= most) (hp : p (x + stp (e + 1)) = true) : HvInv p most e (x + stp (e + 1)) := by
 rw [stp_s] at *
 have := p2_pos e
 exact ⟨by have := h.e1; omega, by have := h.a; omega, h1, hp, fun i i1 i2 => h.d i (by rw [p2_s]; omega) i2⟩
theorem hv_dn {p : Int -> Bool} {most x : Int} {e : Nat} (h : HvInv p most (e + 1) x) (hm : Mono p most) (hp : most < x + stp (e + 1) \/ p (x + stp (e + 1)) = false) : HvInv p most e x := by
 rw [stp_s] at *
 have := p2_pos e
 refine ⟨by have := h.e1; omega, h.a, h.b, h.c, fun i i1 i2 => ?_⟩
 cases hi : p i with
 | false => rfl
 | true =>
   rcases hp with hp | hp
   ·omega
   ·have := hm.dn (x + p2 e) i (by have := h.a; omega) i1 i2 hi
    rw [hp] at this; cases this
theorem stp_ex {e : Nat} (h : 0 < stp e) : ∃ d, e = d + 1 := by
 cases e with
 | zero => rw [stp_0] at h; omega
 | succ e => exact ⟨e, rfl⟩
end
end Abs
end Go.Proofs.YtlabbaglbcmofaaGreat

namespace Go.Proofs.YtlabbaglbcmofaaGreat
namespace Abs
open Go Go.RowKit
noncomputable section
attribute [local irreducible] FnSat
set_option maxRecDepth 100000 in
theorem rbx_ok : FnSpec Tryz.prog 127 _ chkS := by
 refine FnSpec.of SWd_ok mixed (U := 0) (I := fun _ => []) Tryz.func127 rfl (by kernel_rfl) rfl rfl (by decide +kernel) ?_
 rintro ⟨c, ⟨n, el⟩, ⟨m, em⟩, ⟨⟩⟩ hpre
 obtain ⟨c, rfl⟩ := cel_ex c
 obtain ⟨lo, hi, rfl⟩ : ∃ lo hi : Nat -> Int, el = fun k => (lo k, hi k, ()) := ⟨fun k => (el k).1, fun k => (el k).2.1, rfl⟩
 obtain ⟨bl, bh, rfl⟩ : ∃ bl bh : Nat -> Int, em = fun k => (bl k, bh k, ()) := ⟨fun k => (em k).1, fun k => (em k).2.1, rfl⟩
 have hpre : CelMax c /\ n <= maxLen /\ m <= maxLen := by have : CelMax (celOf (celD c)) /\ n <= maxLen /\ m <= maxLen := hpre; rwa [celOf_D] at this
 obtain ⟨hc, hn, hm⟩ := hpre
 unfold FnSat
 conv => arg 2; reduce
 simp [chkS, posS, sbxS, and_assoc]
 refine ⟨hc, hn, fun h => ⟨hc, hn, chkV_pos h⟩, fun h => by unfold chkV; rw [if_pos h]⟩
noncomputable def SWe : Sums := ⟨(127, mkSum _ chkS) :: SWd.one, SWd.two, SWd.lo, SWd.eqs, SWd.its, SWd.imm⟩
theorem SWe_ok : SumsOK Tryz.prog SWe := (SWd_ok.cons Tryz.func127 (by kernel_rfl) (by kernel_rfl) rbx_ok)
set_option maxRecDepth 100000 in
set_option maxHeartbeats 4000000 in
theorem rvb_ok : FnSpec Tryz.prog 126 _ vbS := by
 refine FnSpec.of SWe_ok mixed (U := 0) (I := fun _ => []) Tryz.func126 rfl (by kernel_rfl) rfl rfl (by decide +kernel) ?_
 rintro ⟨c, ⟨n, el⟩, ⟨m, em⟩, ⟨(a : Int), (b : Int), ⟨⟩⟩, ⟨⟩⟩ hpre
 obtain ⟨c, rfl⟩ := cel_ex c
 obtain ⟨lo, hi, rfl⟩ : ∃ lo hi : Nat -> Int, el = fun k => (lo k, hi k, ()) := ⟨fun k => (el k).1, fun k => (el k).2.1, rfl⟩
 obtain ⟨bl, bh, rfl⟩ : ∃ bl bh : Nat -> Int, em = fun k => (bl k, bh k, ()) := ⟨fun k => (em k).1, fun k => (em k).2.1, rfl⟩
 have hpre : CelMax c /\ n <= maxLen /\ m <= maxLen := by have : CelMax (celOf (celD c)) /\ n <= maxLen /\ m <= maxLen := hpre; rwa [celOf_D] at this
 obtain ⟨hc, hn, hm⟩ := hpre
 unfold FnSat
 conv => arg 2; reduce
 simp [vbS, chkS, insC, spoS, rvlS, enc_rsp, mkW_V, ElEq, getB, goneB, aliveB, and_assoc]
 exact ⟨hc, hn, hm, fun h => ⟨hc, hn, hm, (okV_1 (by rw [orE_e h]; exact h)).symm, (okV_1 (by rw [orE_e h]; exact h)).symm, (orE_e h).symm⟩, fun h => ⟨fun hb => ⟨(okV_1 (by rw [orE_f h hb]; decide)).symm, (okV_1 (by rw [orE_f h hb]; decide)).symm, (orE_f h hb).symm⟩,
  fun hb => ⟨chk_iff.1 h, rsp_of (chk_iff.1 h), hb, (okV_0 (orE_t h hb)).symm, (okV_0 (orE_t h hb)).symm, (orE_t h hb).symm⟩⟩⟩
set_option maxRecDepth 100000 in
set_option maxHeartbeats 4000000 in
theorem rfb_ok : FnSpec Tryz.prog 129 _ fbS := by
 refine FnSpec.of SWe_ok mixed (U := 0) (I := fun _ => []) Tryz.func129 rfl (by kernel_rfl) rfl rfl (by decide +kernel) ?_
 rintro ⟨c, ⟨n, el⟩, ⟨m, em⟩, ⟨⟩⟩ hpre
 obtain ⟨c, rfl⟩ := cel_ex c
 obtain ⟨lo, hi, rfl⟩ : ∃ lo hi : Nat -> Int, el = fun k => (lo k, hi k, ()) := ⟨fun k => (el k).1, fun k => (el k).2.1, rfl⟩
 obtain ⟨bl, bh, rfl⟩ : ∃ bl bh : Nat -> Int, em = fun k => (bl k, bh k, ()) := ⟨fun k => (em k).1, fun k => (em k).2.1, rfl⟩
 have hpre : CelMax c /\ n <= maxLen /\ m <= maxLen := by have : CelMax (celOf (celD c)) /\ n <= maxLen /\ m <= maxLen := hpre; rwa [celOf_D] at this
 obtain ⟨hc, hn, hm⟩ := hpre
 unfold FnSat
 conv => arg 2; reduce
 simp [fbS, chkS, spoS, enc_rsp, ElEq, getB, goneB, aliveB, and_assoc]
 refine ⟨hc, hn, hm, fun h => ⟨hc, hn, hm, (okV_1 h).symm, (okV_1 h).symm⟩, fun h => ⟨chk_iff.1 h, ?_, ?_, h.symm⟩⟩
 ·rw [okV_0 h, rspV_fl, widV_fl]
 ·rw [okV_0 h, rspV_fh, widV_fh]
set_option maxRecDepth 100000 in
set_option maxHeartbeats 4000000 in
theorem rsbx_ok : FnSpec Tryz.prog 61 _ sbS := by
 refine FnSpec.of SWe_ok mixed (U := 0) (I := fun _ => []) Tryz.func61 rfl (by kernel_rfl) rfl rfl (by decide +kernel) ?_
 rintro ⟨c, ⟨n, el⟩, ⟨m, em⟩, ⟨p, en⟩, ⟨⟩⟩ hpre
 obtain ⟨c, rfl⟩ := cel_ex c
 obtain ⟨lo, hi, rfl⟩ : ∃ lo hi : Nat -> Int, el = fun k => (lo k, hi k, ()) := ⟨fun k => (el k).1, fun k => (el k).2.1, rfl⟩
 obtain ⟨bl, bh, rfl⟩ : ∃ bl bh : Nat -> Int, em = fun k => (bl k, bh k, ()) := ⟨fun k => (em k).1, fun k => (em k).2.1, rfl⟩
 obtain ⟨il, ih, rfl⟩ : ∃ il ih : Nat -> Int, en = fun k => (il k, ih k, ()) := ⟨fun k => (en k).1, fun k => (en k).2.1, rfl⟩
 have hpre : CelMax c /\ n <= maxLen /\ m <= maxLen /\ p <= maxLen := by have : CelMax (celOf (celD c)) /\ n <= maxLen /\ m <= maxLen /\ p <= maxLen := hpre; rwa [celOf_D] at this
 obtain ⟨hc, hn, hm, hp⟩ := hpre
 unfold FnSat
 conv => arg 2; reduce
 simp [sbS, chkS, insC, rnxS, ElEq, getB, goneB, aliveB, and_assoc]
 refine ⟨hc, hn, hm, fun h => ⟨hc, hn, hm, sbN_0 (by rw [sbE_1 h]; exact h), (sbE_1 h).symm⟩, fun h => ⟨fun q => by omega, fun q _ => by omega, fun q => ?_, fun q1 q2 q3 => ?_⟩⟩
 ·have hb : inpB p il ih = false := inpB_no fun hb => by
   obtain ⟨b1, b2, b3⟩ := inpB_iff.1 hb
   rcases q with (q | q) | q
   ·omega
   ·rw [b2] at q; cases q
   ·rw [b3] at q; cases q
  exact ⟨sbN_0 (by rw [sbE_2 h hb]; decide), (sbE_2 h hb).symm⟩
 ·have hb : inpB p il ih = true := inpB_iff.2 ⟨by omega, q2, q3⟩
  have e3 := (nb_3 (widV c lo hi m bl bh) (il 0) (ih 0) (il 1) (ih 1)).2
  have e4 := (nb_4 (widV c lo hi m bl bh) (il 0) (ih 0) (il 1) (ih 1)).2
  refine ⟨chk_iff.1 h, hb, fun q => ?_, fun r1 r2 => ?_⟩
  ·have hf : farB (widV c lo hi m bl bh) (il 0) (ih 0) = false := farB_no fun hf => by
    obtain ⟨f1, f2⟩ := farB_iff.1 hf
    rcases q with q | q
    ·have : 1099511627776 < nbH (widV c lo hi m bl bh) (il 0) (ih 0) (il 1) (ih 1) 3 := q
     omega
    ·have : 1099511627776 < nbH (widV c lo hi m bl bh) (il 0) (ih 0) (il 1) (ih 1) 4 := q
     omega
   exact ⟨sbN_0 (by rw [sbE_4 h hb hf]; decide), (sbE_4 h hb hf).symm⟩
  ·have r1 : nbH (widV c lo hi m bl bh) (il 0) (ih 0) (il 1) (ih 1) 3 <= 1099511627776 := r1
   have r2 : nbH (widV c lo hi m bl bh) (il 0) (ih 0) (il 1) (ih 1) 4 <= 1099511627776 := r2
   have hf : farB (widV c lo hi m bl bh) (il 0) (ih 0) = true := farB_iff.2 ⟨by omega, by omega⟩
   exact ⟨(sbN_5 (sbE_0 h hb hf)).symm, (sbE_0 h hb hf).symm⟩
@[irreducible] def boxP (x : Wid) (l h u v i : Int) : Bool := decide (l <= wvL x i i) && decide (wtH x i i u v <= h) && decide (i + x.hi.leak <= x.bl 0)
theorem boxP_iff {x : Wid} {l h u v i : Int} : boxP x l h u v i = true ↔ l <= wvL x i i /\ wtH x i i u v <= h /\ i + x.hi.leak <= x.bl 0 := by unfold boxP; simp [and_assoc]
def rbsS : Spec [celSh, spansSh, spansSh, limSh, spanSh, .int .i64] := ⟨fun (c, (n, el), (m, em), _, ((u : Int), (v : Int), _), (i : Int), _) => ChkOK (celOf c) n (fun k => (el k).1) (fun k => (el k).2.1) m (fun k => (em k).1) (fun k => (em k).2.1) /\ insV 0 u v 400000 = true /\ 0 <= i /\ i <= 1048576,
 fun (c, (_, el), (m, em), ((l : Int), (_ : Int), (_ : Int), (_ : Int), (h : Int), _), ((u : Int), (v : Int), _), (i : Int), _) => .sb (boxP (widV (celOf c) (fun k => (el k).1) (fun k => (el k).2.1) m (fun k => (em k).1) (fun k => (em k).2.1)) l h u v i)⟩
set_option maxRecDepth 100000 in
set_option maxHeartbeats 8000000 in
theorem rbs_ok : FnSpec Tryz.prog 179 _ rbsS := by
 refine FnSpec.of SWe_ok mixed (U := 0) (I := fun _ => []) Tryz.func179 rfl (by kernel_rfl) rfl rfl (by decide +kernel) ?_
 rintro ⟨c, ⟨n, el⟩, ⟨m, em⟩, ⟨(l : Int), (q : Int), (o : Int), (w : Int), (h : Int), ⟨⟩⟩, ⟨(u : Int), (v : Int), ⟨⟩⟩, (i : Int), ⟨⟩⟩ hpre
 obtain ⟨c, rfl⟩ := cel_ex c
 obtain ⟨lo, hi, rfl⟩ : ∃ lo hi : Nat -> Int, el = fun k => (lo k, hi k, ()) := ⟨fun k => (el k).1, fun k => (el k).2.1, rfl⟩
 obtain ⟨bl, bh, rfl⟩ : ∃ bl bh : Nat -> Int, em = fun k => (bl k, bh k, ()) := ⟨fun k => (em k).1, fun k => (em k).2.1, rfl⟩
 have hpre : ChkOK c n lo hi m bl bh /\ insV 0 u v 400000 = true /\ 0 <= i /\ i <= 1048576 := by have : ChkOK (celOf (celD c)) n lo hi m bl bh /\ insV 0 u v 400000 = true /\ 0 <= i /\ i <= 1048576 := hpre; rwa [celOf_D] at this
 obtain ⟨hC, hu, i0, i1⟩ := hpre
 obtain rfl : n = 7 := hC.n
 obtain rfl : m = 5 := hC.m
 unfold FnSat
 conv => arg 2; reduce
 simp [-Bool.forall_bool, rbsS, spoS, rvlS, rtpS, enc_rsp, mkW_V, ElEq, getB, goneB, aliveB, and_assoc]
 have R := rsp_of hC
 have hi' : insV (-1048576) i i 1048576 = true := insV_iff.2 (by omega)
 have kh := celB_iff.1 hC.ch
 have := kh.lk0
 have := kh.lk1
 refine ⟨hC, R, hi', fun _ => ⟨R, hi', hu⟩, fun _ _ => ?_, ?_⟩
 ·rw [rspV_hi]
  show -9223372036854775808 <= i + (mvC c hi).leak /\ i + (mvC c hi).leak <= 9223372036854775807
  omega
 ·unfold boxP
  rw [rspV_hi, widV_hi, widV_bl]
noncomputable def SWf : Sums := ⟨(179, mkSum _ rbsS) :: (61, mkSum _ sbS) :: (129, mkSum _ fbS) :: (126, mkSum _ vbS) :: SWe.one, SWe.two, SWe.lo, SWe.eqs, SWe.its, SWe.imm⟩
theorem SWf_ok : SumsOK Tryz.prog SWf := ((((SWe_ok.cons Tryz.func126 (by kernel_rfl) (by kernel_rfl) rvb_ok).cons Tryz.func129 (by kernel_rfl) (by kernel_rfl) rfb_ok).cons Tryz.func61 (by kernel_rfl) (by kernel_rfl) rsbx_ok).cons Tryz.func179 (by kernel_rfl) (by kernel_rfl) rbs_ok)
end
end Abs
end Go.Proofs.YtlabbaglbcmofaaGreat

namespace Go.Proofs.YtlabbaglbcmofaaGreat
namespace Abs
open Go Go.RowKit
noncomputable section
attribute [local irreducible] FnSat
theorem wv_mono {x : Wid} {i j : Int} (hx : WidOK x) (h : i <= j) : wvL x j j <= wvL x i i := by
 have m1 := Int.mul_le_mul_of_nonneg_right h hx.r0
 have m2 := Int.mul_le_mul_of_nonneg_right h hx.s0
 have p : prH i i x.rl x.rh <= prH j j x.rl x.rh := by unfold prH; omega
 have d := dvI_mono (d := 1000) (by decide) p
 unfold wvL
 omega
theorem wt_mono {x : Wid} {i j u v : Int} (hx : WidOK x) (h0 : 0 <= i) (h : i <= j) : wtH x i i u v <= wtH x j j u v := by
 have m := Int.mul_le_mul_of_nonneg_right (sq_mono h0 h) hx.s0
 have d := dvI_mono (d := 1000000000) (by decide) m
 have e : whH x i i <= whH x j j := by
  unfold whH
  rw [(sq_one i).2, (sq_one j).2]
  omega
 have hk := celB_iff.1 hx.lo
 have d2 := dvI_mono (d := x.lo.hcap) hk.hc0 (show 1000 * whH x i i <= 1000 * whH x j j by omega)
 unfold wtH
 exact clipV_mono (by omega)
theorem box_mono {x : Wid} {l h u v most : Int} (hx : WidOK x) (h0 : 0 <= most) (hp : boxP x l h u v 0 = true) : Mono (boxP x l h u v) most := by
 refine ⟨h0, hp, fun i j i0 ij _ hj => ?_⟩
 obtain ⟨h1, h2, h3⟩ := boxP_iff.1 hj
 have a := wv_mono hx ij
 have b := wt_mono (u := u) (v := v) hx i0 ij
 exact boxP_iff.2 ⟨by omega, by omega, by omega⟩
@[irreducible] def soE (e : Int) (p : Int -> Bool) : Int := if e = 0 then grE p else e
@[irreducible] def soV (e : Int) (p : Int -> Bool) (most : Int) : Int := if e = 0 then grV p most else 0
theorem so_e {e most : Int} {p : Int -> Bool} (h : ¬ e = 0) : 0 = soV e p most /\ e = soE e p := by unfold soV soE; rw [if_neg h, if_neg h]; exact ⟨rfl, rfl⟩
theorem so_0 {e most : Int} {p : Int -> Bool} (h : e = 0) : grV p most = soV e p most /\ grE p = soE e p := by unfold soV soE; rw [if_pos h, if_pos h]; exact ⟨rfl, rfl⟩
def sfoS : Spec [celSh, spansSh, spansSh, limSh, spanSh] := ⟨fun (c, x, y, _) => CelMax (celOf c) /\ x.1 <= maxLen /\ y.1 <= maxLen,
 fun (c, (n, el), (m, em), ((l : Int), (q : Int), (o : Int), (w : Int), (h : Int), _), ((u : Int), (v : Int), _), _) => .tup [.si .i64 (soV (orE (orE (chkV (celOf c) n (fun k => (el k).1) (fun k => (el k).2.1) m (fun k => (em k).1) (fun k => (em k).2.1)) (limB l q o w h) 2) (insV 0 u v 400000) 2) (boxP (widV (celOf c) (fun k => (el k).1) (fun k => (el k).2.1) m (fun k => (em k).1) (fun k => (em k).2.1)) l h u v) o), .si .i64 (soE (orE (orE (chkV (celOf c) n (fun k => (el k).1) (fun k => (el k).2.1) m (fun k => (em k).1) (fun k => (em k).2.1)) (limB l q o w h) 2) (insV 0 u v 400000) 2) (boxP (widV (celOf c) (fun k => (el k).1) (fun k => (el k).2.1) m (fun k => (em k).1) (fun k => (em k).2.1)) l h u v))]⟩
def rsfoI : DatL [celSh, spansSh, spansSh, limSh, spanSh] -> Anns := fun (c, (n, el), (m, em), ((l : Int), (q : Int), (o : Int), (w : Int), (h : Int), _), ((u : Int), (v : Int), _), _) => [
 (11, [], fun fr hp => ⟨Nat × Int, fun (e, x) => ⟨frI [.k 12, .s (.si .i64 x), .s (.si .i64 (stp e)), .k 24, .t 24, .k 1] fr, hp⟩, (Int -> Bool) × Int × Nat × Int, fun (e, x) => ((boxP (widV (celOf c) (fun k => (el k).1) (fun k => (el k).2.1) m (fun k => (em k).1) (fun k => (em k).2.1)) l h u v), o, e, x), fun (p, most, e, x) => HvInv p most e x, fun (e, _) => e⟩)]
noncomputable def SWg : Sums := ⟨(178, mkSum _ limS) :: SWf.one, SWf.two, SWf.lo, SWf.eqs, SWf.its, SWf.imm⟩
theorem SWg_ok : SumsOK Tryz.prog SWg := (SWf_ok.cons Tryz.func178 (by kernel_rfl) (by kernel_rfl) rlim_ok)
set_option maxRecDepth 100000 in
set_option maxHeartbeats 8000000 in
theorem rsfo_ok : FnSpec Tryz.prog 133 _ sfoS := by
 refine FnSpec.of SWg_ok mixed (U := 0) (I := rsfoI) Tryz.func133 rfl (by kernel_rfl) rfl rfl (by decide +kernel) ?_
 rintro ⟨c, ⟨n, el⟩, ⟨m, em⟩, ⟨(l : Int), (q : Int), (o : Int), (w : Int), (hh : Int), ⟨⟩⟩, ⟨(u : Int), (v : Int), ⟨⟩⟩, ⟨⟩⟩ hpre
 obtain ⟨c, rfl⟩ := cel_ex c
 obtain ⟨lo, hi, rfl⟩ : ∃ lo hi : Nat -> Int, el = fun k => (lo k, hi k, ()) := ⟨fun k => (el k).1, fun k => (el k).2.1, rfl⟩
 obtain ⟨bl, bh, rfl⟩ : ∃ bl bh : Nat -> Int, em = fun k => (bl k, bh k, ()) := ⟨fun k => (em k).1, fun k => (em k).2.1, rfl⟩
 have hpre : CelMax c /\ n <= maxLen /\ m <= maxLen := by have : CelMax (celOf (celD c)) /\ n <= maxLen /\ m <= maxLen := hpre; rwa [celOf_D] at this
 obtain ⟨hc, hn, hm⟩ := hpre
 unfold FnSat
 conv => arg 2; reduce
 simp [-Bool.forall_bool, sfoS, chkS, limS, insC, rbsS, ElEq, getB, goneB, aliveB, and_assoc]
 have oE : ∀ e b, ¬ e = 0 -> ¬ orE e b 2 = 0 := fun e b h => by rw [orE_e h]; exact h
 refine ⟨hc, hn, hm, fun h => ⟨hc, hn, hm, ?_⟩, fun h => ⟨fun hb => ?_, fun hb => ⟨fun hu => ?_, fun hu => ⟨chk_iff.1 h, hu, ?_⟩⟩⟩⟩
 ·have e : orE (orE (chkV c n lo hi m bl bh) (limB l q o w hh) 2) (insV 0 u v 400000) 2 = chkV c n lo hi m bl bh := by rw [orE_e (oE _ _ h), orE_e h]
  have := so_e (most := o) (p := boxP (widV c lo hi m bl bh) l hh u v) (e := orE (orE (chkV c n lo hi m bl bh) (limB l q o w hh) 2) (insV 0 u v 400000) 2) (by rw [e]; exact h)
  exact ⟨this.1, e.symm.trans this.2⟩
 ·have e : orE (orE (chkV c n lo hi m bl bh) (limB l q o w hh) 2) (insV 0 u v 400000) 2 = 2 := by rw [orE_e (e := orE (chkV c n lo hi m bl bh) (limB l q o w hh) 2) (by rw [orE_f h hb]; decide), orE_f h hb]
  have := so_e (most := o) (p := boxP (widV c lo hi m bl bh) l hh u v) (e := orE (orE (chkV c n lo hi m bl bh) (limB l q o w hh) 2) (insV 0 u v 400000) 2) (by rw [e]; decide)
  refine ⟨this.1, ?_⟩
  rw [hb, errA_false]
  rw [hb] at e this
  exact e.symm.trans this.2
 ·have e : orE (orE (chkV c n lo hi m bl bh) (limB l q o w hh) 2) (insV 0 u v 400000) 2 = 2 := by rw [orE_f (orE_t h hb) hu]
  have := so_e (most := o) (p := boxP (widV c lo hi m bl bh) l hh u v) (e := orE (orE (chkV c n lo hi m bl bh) (limB l q o w hh) 2) (insV 0 u v 400000) 2) (by rw [e]; decide)
  exact ⟨this.1, e.symm.trans this.2⟩
 ·have e : orE (orE (chkV c n lo hi m bl bh) (limB l q o w hh) 2) (insV 0 u v 400000) 2 = 0 := by rw [orE_t (orE_t h hb) hu]
  obtain ⟨z1, z2⟩ := so_0 (most := o) (p := boxP (widV c lo hi m bl bh) l hh u v) e
  rw [show soV (orE (orE (chkV c n (fun k => lo k) (fun k => hi k) m (fun k => bl k) (fun k => bh k)) (limB l q o w hh) 2) (insV 0 u v 400000) 2) (boxP (widV c (fun k => lo k) (fun k => hi k) m (fun k => bl k) (fun k => bh k)) l hh u v) o = grV (boxP (widV c lo hi m bl bh) l hh u v) o from z1.symm,
   show soE (orE (orE (chkV c n (fun k => lo k) (fun k => hi k) m (fun k => bl k) (fun k => bh k)) (limB l q o w hh) 2) (insV 0 u v 400000) 2) (boxP (widV c (fun k => lo k) (fun k => hi k) m (fun k => bl k) (fun k => bh k)) l hh u v) = grE (boxP (widV c lo hi m bl bh) l hh u v) from z2.symm]
  refine ⟨gr_no, fun hp => ?_⟩
  have lb := limB_iff.1 hb
  have hW := wid_of (chk_iff.1 h)
  have hm : Mono (boxP (widV c lo hi m bl bh) l hh u v) o := box_mono hW (by omega) hp
  refine ⟨⟨21, by unfold stp p2; rfl, hv_0 hm (by omega)⟩, fun e x hv => ⟨fun hs => ?_, fun hs => hv_fin hv hm hs⟩⟩
  obtain ⟨d, rfl⟩ := stp_ex hs
  have sb := stp_b hv.e1
  have sh := stp_half d
  have sb2 := stp_b (e := d) (by have := hv.e1; omega)
  have xa := hv.a
  have xb := hv.b
  refine ⟨by omega, by omega, fun _ => by omega, fun hx => ⟨chk_iff.1 h, hu, by omega, by omega⟩, fun hx hq => ⟨by omega, by omega, by omega, by omega, d, sh, hv_up hv hx hq, by omega⟩, fun hx => ⟨by omega, by omega, d, sh, hv_dn hv hm ?_, by omega⟩⟩
  rcases Int.lt_or_le o (x + stp (d + 1)) with hl | hl
  ·exact .inl hl
  ·exact .inr (hx hl)
@[reducible] def sfoCap : List Sh := [.ptr [.ptr widCells], .ptr limCells, .ptr [.int .i64, .int .i64], .ptr [spansSh]]
def sfo1 : Spec [.int .i64, .ptr [.ptr widCells], .ptr limCells, .ptr [.int .i64, .int .i64], .ptr [spansSh]] := ⟨fun ((i : Int), (x, _), _, ((u : Int), (v : Int), _), ((m, em), _), _) => WidOK (widOf x) /\ m = 5 /\ (em 0).1 = (widOf x).bl 0 /\ insV 0 u v 400000 = true /\ 0 <= i /\ i <= 1048576,
 fun ((i : Int), (x, _), ((l : Int), (_ : Int), (_ : Int), (_ : Int), (h : Int), _), ((u : Int), (v : Int), _), _, _) => .sb (boxP (widOf x) l h u v i)⟩
set_option maxRecDepth 100000 in
set_option maxHeartbeats 8000000 in
theorem sfo1_ok : FnSpec Tryz.prog 157 _ sfo1 := by
 refine FnSpec.of SBq_ok mixed (U := 0) (I := fun _ => []) Tryz.func157 rfl (by kernel_rfl) rfl rfl (by decide +kernel) ?_
 rintro ⟨(i : Int), ⟨x, ⟨⟩⟩, ⟨(l : Int), (q : Int), (o : Int), (w : Int), (h : Int), ⟨⟩⟩, ⟨(u : Int), (v : Int), ⟨⟩⟩, ⟨⟨m, em⟩, ⟨⟩⟩, ⟨⟩⟩ hpre
 obtain ⟨x, rfl⟩ := wid_ex x
 obtain ⟨bl, bh, rfl⟩ : ∃ bl bh : Nat -> Int, em = fun k => (bl k, bh k, ()) := ⟨fun k => (em k).1, fun k => (em k).2.1, rfl⟩
 have hpre : WidOK x /\ m = 5 /\ bl 0 = x.bl 0 /\ insV 0 u v 400000 = true /\ 0 <= i /\ i <= 1048576 := by have : WidOK (widOf (widD x)) /\ m = 5 /\ bl 0 = (widOf (widD x)).bl 0 /\ insV 0 u v 400000 = true /\ 0 <= i /\ i <= 1048576 := hpre; rwa [widOf_D] at this
 obtain ⟨hx, rfl, e0, hu, i0, i1⟩ := hpre
 unfold FnSat
 conv => arg 2; reduce
 simp [-Bool.forall_bool, sfo1, wvS, wtS, ElEq, getB, goneB, aliveB, and_assoc]
 have kh := celB_iff.1 hx.hi
 have := kh.lk0
 have := kh.lk1
 have hi' : insV (-1048576) i i 1048576 = true := insV_iff.2 (by omega)
 refine ⟨hx, hi', fun _ => ⟨hx, hi', hu⟩, fun _ _ => by omega, ?_⟩
 unfold boxP
 rw [e0]
noncomputable def SQa : Sums := ⟨(155, mkSum _ limS) :: (157, mkSum _ sfo1) :: SBq.one, SBq.two, SBq.lo, SBq.eqs, SBq.its, SBq.imm⟩
theorem SQa_ok : SumsOK Tryz.prog SQa := ((SBq_ok.cons Tryz.func157 (by kernel_rfl) (by kernel_rfl) sfo1_ok).cons Tryz.func155 (by kernel_rfl) (by kernel_rfl) lim_ok)
def sfgr : Spec [.int .i64, .fn 157 [] sfoCap] := ⟨fun ((most : Int), (_, (x, _), _, ((u : Int), (v : Int), _), ((m, em), _), _), _) => WidOK (widOf x) /\ m = 5 /\ (em 0).1 = (widOf x).bl 0 /\ insV 0 u v 400000 = true /\ 0 <= most /\ most <= 1048576,
 fun ((most : Int), (_, (x, _), ((l : Int), (_ : Int), (_ : Int), (_ : Int), (h : Int), _), ((u : Int), (v : Int), _), _, _), _) => .tup [.si .i64 (grV (boxP (widOf x) l h u v) most), .si .i64 (grE (boxP (widOf x) l h u v))]⟩
def sfgrI : DatL [.int .i64, .fn 157 [] sfoCap] -> Anns := fun ((most : Int), (_, (x, _), ((l : Int), (_ : Int), (_ : Int), (_ : Int), (h : Int), _), ((u : Int), (v : Int), _), _, _), _) => [
 (4, [], fun fr hp => ⟨Int × Int, fun (lo, hi) => ⟨frI [.k 6, .s (.si .i64 lo), .s (.si .i64 hi), .t 1, .k 4, .t 14, .k 1] fr, hp⟩, (Int -> Bool) × Int × Int × Int, fun (lo, hi) => (boxP (widOf x) l h u v, most, lo, hi), fun (p, most, lo, hi) => BsInv p most lo hi, fun (lo, hi) => nat (isub hi lo)⟩)]
set_option maxRecDepth 100000 in
set_option maxHeartbeats 4000000 in
theorem sfgr_ok : FnSpec Tryz.prog 156 _ sfgr := by
 refine FnSpec.of SQa_ok mixed (U := 0) (I := sfgrI) Tryz.func156 rfl (by kernel_rfl) rfl rfl (by decide +kernel) ?_
 rintro ⟨(most : Int), ⟨y, ⟨x, ⟨⟩⟩, ⟨(l : Int), (q : Int), (o : Int), (w : Int), (h : Int), ⟨⟩⟩, ⟨(u : Int), (v : Int), ⟨⟩⟩, ⟨⟨m, em⟩, ⟨⟩⟩, ⟨⟩⟩, ⟨⟩⟩ hpre
 obtain ⟨x, rfl⟩ := wid_ex x
 obtain ⟨bl, bh, rfl⟩ : ∃ bl bh : Nat -> Int, em = fun k => (bl k, bh k, ()) := ⟨fun k => (em k).1, fun k => (em k).2.1, rfl⟩
 have hpre : WidOK x /\ m = 5 /\ bl 0 = x.bl 0 /\ insV 0 u v 400000 = true /\ 0 <= most /\ most <= 1048576 := by have : WidOK (widOf (widD x)) /\ m = 5 /\ bl 0 = (widOf (widD x)).bl 0 /\ insV 0 u v 400000 = true /\ 0 <= most /\ most <= 1048576 := hpre; rwa [widOf_D] at this
 obtain ⟨hx, rfl, e0, hu, m1, m2⟩ := hpre
 unfold FnSat
 conv => arg 2; reduce
 simp [-Bool.forall_bool, sfgr, sfo1, and_assoc]
 refine ⟨hx, e0, hu, gr_no, fun hp => ?_⟩
 have hm := box_mono hx m1 hp
 refine ⟨⟨by omega, by omega, by omega, hp, fun i j1 j2 => by omega⟩, fun lo hi hb => ⟨fun hlt => ?_, fun hge => bs_fin hb hm hge⟩⟩
 have q1 := hb.a
 have q2 := hb.c
 have md := mid_b q1 hlt
 exact ⟨by omega, by omega, by omega, by omega, by omega, by omega, hx, e0, hu, by omega, by omega, fun hq => ⟨bs_up hb md.1 md.2 hq, by omega⟩, fun hq => ⟨by omega, by omega, bs_dn hb hm md.1 md.2 hq, by omega⟩⟩
noncomputable def SQb : Sums := ⟨(71, mkSum _ chkS) :: (156, mkSum _ sfgr) :: SQa.one, SQa.two, SQa.lo, SQa.eqs, SQa.its, SQa.imm⟩
theorem SQb_ok : SumsOK Tryz.prog SQb := ((SQa_ok.cons Tryz.func156 (by kernel_rfl) (by kernel_rfl) sfgr_ok).cons Tryz.func71 (by kernel_rfl) (by kernel_rfl) chk_ok)
end
end Abs
end Go.Proofs.YtlabbaglbcmofaaGreat

namespace Go.Proofs.YtlabbaglbcmofaaGreat
namespace Abs
open Go Go.RowKit
noncomputable section
attribute [local irreducible] FnSat
set_option maxRecDepth 100000 in
set_option maxHeartbeats 8000000 in
theorem sfo_ok : FnSpec Tryz.prog 94 _ sfoS := by
 refine FnSpec.of SQb_ok mixed (U := 0) (I := fun _ => []) Tryz.func94 rfl (by kernel_rfl) rfl rfl (by decide +kernel) ?_
 rintro ⟨c, ⟨n, el⟩, ⟨m, em⟩, ⟨(l : Int), (q : Int), (o : Int), (w : Int), (hh : Int), ⟨⟩⟩, ⟨(u : Int), (v : Int), ⟨⟩⟩, ⟨⟩⟩ hpre
 obtain ⟨c, rfl⟩ := cel_ex c
 obtain ⟨lo, hi, rfl⟩ : ∃ lo hi : Nat -> Int, el = fun k => (lo k, hi k, ()) := ⟨fun k => (el k).1, fun k => (el k).2.1, rfl⟩
 obtain ⟨bl, bh, rfl⟩ : ∃ bl bh : Nat -> Int, em = fun k => (bl k, bh k, ()) := ⟨fun k => (em k).1, fun k => (em k).2.1, rfl⟩
 have hpre : CelMax c /\ n <= maxLen /\ m <= maxLen := by have : CelMax (celOf (celD c)) /\ n <= maxLen /\ m <= maxLen := hpre; rwa [celOf_D] at this
 obtain ⟨hc, hn, hm⟩ := hpre
 unfold FnSat
 conv => arg 2; reduce
 simp [-Bool.forall_bool, sfoS, chkS, limS, insC, sprS, sfgr, ElEq, getB, goneB, aliveB, and_assoc]
 have oE : ∀ e b, ¬ e = 0 -> ¬ orE e b 2 = 0 := fun e b h => by rw [orE_e h]; exact h
 refine ⟨hc, hn, hm, fun h => ?_, fun h => ⟨fun hb => ?_, fun hb => ⟨fun hu => ?_, fun hu => ?_⟩⟩⟩
 ·have e : orE (orE (chkV c n lo hi m bl bh) (limB l q o w hh) 2) (insV 0 u v 400000) 2 = chkV c n lo hi m bl bh := by rw [orE_e (oE _ _ h), orE_e h]
  have := so_e (most := o) (p := boxP (widV c lo hi m bl bh) l hh u v) (e := orE (orE (chkV c n lo hi m bl bh) (limB l q o w hh) 2) (insV 0 u v 400000) 2) (by rw [e]; exact h)
  exact ⟨this.1, e.symm.trans this.2⟩
 ·have e : orE (orE (chkV c n lo hi m bl bh) (limB l q o w hh) 2) (insV 0 u v 400000) 2 = 2 := by rw [orE_e (e := orE (chkV c n lo hi m bl bh) (limB l q o w hh) 2) (by rw [orE_f h hb]; decide), orE_f h hb]
  have := so_e (most := o) (p := boxP (widV c lo hi m bl bh) l hh u v) (e := orE (orE (chkV c n lo hi m bl bh) (limB l q o w hh) 2) (insV 0 u v 400000) 2) (by rw [e]; decide)
  refine ⟨this.1, ?_⟩
  rw [hb, errA_false]
  rw [hb] at e this
  exact e.symm.trans this.2
 ·have e : orE (orE (chkV c n lo hi m bl bh) (limB l q o w hh) 2) (insV 0 u v 400000) 2 = 2 := by rw [orE_f (orE_t h hb) hu]
  have := so_e (most := o) (p := boxP (widV c lo hi m bl bh) l hh u v) (e := orE (orE (chkV c n lo hi m bl bh) (limB l q o w hh) 2) (insV 0 u v 400000) 2) (by rw [e]; decide)
  exact ⟨this.1, e.symm.trans this.2⟩
 ·have e : orE (orE (chkV c n lo hi m bl bh) (limB l q o w hh) 2) (insV 0 u v 400000) 2 = 0 := by rw [orE_t (orE_t h hb) hu]
  obtain ⟨z1, z2⟩ := so_0 (most := o) (p := boxP (widV c lo hi m bl bh) l hh u v) e
  have lb := limB_iff.1 hb
  have h' : chkV c n lo hi m bl bh = 0 := h
  obtain ⟨k1, k2⟩ := chkV_zero.1 h'
  exact ⟨k1, k2, wid_of (chk_iff.1 h'), (chk_iff.1 h').m, by rw [widV_bl], hu, by omega, by omega, z1, z2⟩
end
end Abs
end Go.Proofs.YtlabbaglbcmofaaGreat

namespace Go.Proofs.YtlabbaglbcmofaaGreat
namespace Abs
open Go Go.RowKit
noncomputable section
attribute [local irreducible] FnSat
end
end Abs
end Go.Proofs.YtlabbaglbcmofaaGreat

namespace Go.Proofs.YtlabbaglbcmofaaGreat
namespace Abs
open Go Go.RowKit
noncomputable section
attribute [local irreducible] FnSat
def raplI : DatL [celSh, intsSh] -> Anns := fun (_, (_, el), _) => [
 (4, [], fun fr hp => ⟨Nat, fun g => ⟨frI [.k 6, .s (.si .i64 (icast g)), .k 9, .t 20] fr, hp⟩, Nat × (Nat -> Int), fun g => (g, fun k => (el k).1), fun (g, v) => g <= 7 /\ ∀ k, k < g -> isQ (v k) = true, fun g => nsub 7 g⟩)]
set_option maxRecDepth 100000 in
set_option maxHeartbeats 4000000 in
theorem rapl_ok : FnSpec Tryz.prog 130 _ aplS := by
 refine FnSpec.of SUd_ok mixed (U := 0) (I := raplI) Tryz.func130 rfl (by kernel_rfl) rfl rfl (by decide +kernel) ?_
 rintro ⟨c, ⟨n, el⟩, ⟨⟩⟩ hpre
 obtain ⟨c, rfl⟩ := cel_ex c
 obtain ⟨v, rfl⟩ : ∃ v : Nat -> Int, el = fun k => (v k, ()) := ⟨fun k => (el k).1, rfl⟩
 have hpre : CelMax c /\ n <= maxLen := by have : CelMax (celOf (celD c)) /\ n <= maxLen := hpre; rwa [celOf_D] at this
 obtain ⟨hc, hn⟩ := hpre
 unfold FnSat
 conv => arg 2; reduce
 unfold maxLen at hn
 simp [aplS, ccheckS, isS, rplS, enc_cel, celOf_mv, ElEq, getB, goneB, aliveB, and_assoc]
 refine ⟨hc, fun h => apl_no (apE_no fun q1 q2 => ?_) (by decide), fun h1 h2 => ⟨⟨0, rfl, by omega, fun k hk => by omega⟩, fun g hg hq => ⟨fun hlt => ⟨by omega, fun hb => apl_no (apE_q (k := g) (by omega) hb) (by decide), fun hb => ⟨by omega, by omega, g + 1, by omega, by omega, fun k hk => ?_, by omega⟩⟩, fun hge => ?_⟩⟩⟩
 ·rcases h with h | h
  ·rw [q1] at h; cases h
  ·omega
 ·by_cases h' : k < g
  ·exact hq k h'
  ·obtain rfl : k = g := by omega
   exact hb
 ·obtain rfl : n = 7 := by omega
  have hq7 : ∀ k, k < 7 -> isQ (v k) = true := fun k hk => hq k (by omega)
  have ho : ofsB v := by
   unfold ofsB
   intro k hk
   exact isQ_iff.1 (hq7 k hk)
  refine ⟨h1, rfl, ho, mvM hc v, fun hb => apl_no (apE_r h1 hq7 hb) (by decide), fun hb => ?_⟩
  have E0 : apE c 7 (fun k => v k) = 0 := apE_0 h1 hq7 hb
  have E : apC c 7 (fun k => v k) = mvC c v := apC_0 E0
  rw [E, E0]
  refine ⟨h1, rfl, ho, ?_⟩
  unfold mvC Cel.cap Cel.ocv Cel.shift Cel.cold Cel.extra Cel.pair Cel.keep Cel.leak Cel.hcap Cel.cool Cel.stress Cel.cyc Cel.agel Cel.grow
  simp
end
end Abs
end Go.Proofs.YtlabbaglbcmofaaGreat

namespace Go.Proofs.YtlabbaglbcmofaaGreat
namespace Abs
open Go Go.RowKit
noncomputable section
attribute [local irreducible] FnSat
theorem nb_box' {c : Cel} {n m : Nat} {lo hi bl bh : Nat -> Int} {a b u v : Int} (h : ChkOK c n lo hi m bl bh) (hI : insV (-1048576) a b 1048576 = true) (hU : insV 0 u v 400000 = true) (hf : farB (widV c lo hi m bl bh) a b = true) :
  BoxOK (nbL (widV c lo hi m bl bh) a b u v) (nbH (widV c lo hi m bl bh) a b u v) := by
 have h1 := h.n
 have h2 := h.m
 subst h1 h2
 exact nb_box h hI hU hf
theorem tk_chk {e : Ew} {q : Bool} {a0 a1 a2 a3 a4 a5 a6 a7 : Int} (hk : EwOK e) (hK : tkK e q a0 a1 a2 a3 a4 a5 a6 a7 = true) :
  ChkOK e.w.cel e.w.tn e.w.tl e.w.th e.n (tkL e q a0 a1 a2 a3 a4 a5 a6 a7) (tkH e q a0 a1 a2 a3 a4 a5 a6 a7) := by
 have hK' := hK
 unfold tkK at hK'
 simp only [Bool.and_eq_true, decide_eq_true_eq] at hK'
 obtain ⟨_, _, hb, hx⟩ := hK'
 obtain ⟨hi, ht, hc, hr⟩ := tlB_iff.1 hb
 obtain ⟨c1, c2⟩ := ckI hk hi
 have k3 := ck3 (ck2 (ck1 hk ht) hc) hr
 have hf : farB (widV e.w.cel e.w.tl e.w.th e.n (t3L e a0 a1 a2 a3 a4 a5) (t3H e a0 a1 a2 a3 a4 a5)) (mxI e.w.cl a2) (mnI e.w.ch a3) = true := by
  unfold tlX at hx
  split at hx
  ·assumption
  ·omega
 have hB := nb_box' k3 c1 c2 hf
 have eL : tkL e q a0 a1 a2 a3 a4 a5 a6 a7 = nbL (widV e.w.cel e.w.tl e.w.th e.n (t3L e a0 a1 a2 a3 a4 a5) (t3H e a0 a1 a2 a3 a4 a5)) (mxI e.w.cl a2) (mnI e.w.ch a3) (in2 e.w a2 a3 a6) (in3 e.w a2 a3 a7) := by unfold tkL; funext k; rw [if_pos hK]
 have eH : tkH e q a0 a1 a2 a3 a4 a5 a6 a7 = nbH (widV e.w.cel e.w.tl e.w.th e.n (t3L e a0 a1 a2 a3 a4 a5) (t3H e a0 a1 a2 a3 a4 a5)) (mxI e.w.cl a2) (mnI e.w.ch a3) (in2 e.w a2 a3 a6) (in3 e.w a2 a3 a7) := by unfold tkH; funext k; rw [if_pos hK]
 rw [eL, eH]
 exact ⟨k3.cel, k3.n, ew_five hk, k3.cl, k3.ch, k3.le, hB⟩
theorem tk_any {e : Ew} {q : Bool} {a0 a1 a2 a3 a4 a5 a6 a7 : Int} (hk : EwOK e) :
  ChkOK e.w.cel e.w.tn e.w.tl e.w.th e.n (tkL e q a0 a1 a2 a3 a4 a5 a6 a7) (tkH e q a0 a1 a2 a3 a4 a5 a6 a7) /\ e.tk <= tkT e q a0 a1 a2 a3 a4 a5 a6 a7 /\ tkT e q a0 a1 a2 a3 a4 a5 a6 a7 <= e.tk + 1 := by
 cases hK : tkK e q a0 a1 a2 a3 a4 a5 a6 a7 with
 | true => exact ⟨tk_chk hk hK, by unfold tkT; rw [if_pos hK]; omega, by unfold tkT; rw [if_pos hK]; omega⟩
 | false =>
   have eL : tkL e q a0 a1 a2 a3 a4 a5 a6 a7 = e.l := by unfold tkL; funext k; rw [if_neg (by rw [hK]; decide)]
   have eH : tkH e q a0 a1 a2 a3 a4 a5 a6 a7 = e.h := by unfold tkH; funext k; rw [if_neg (by rw [hK]; decide)]
   have eT : tkT e q a0 a1 a2 a3 a4 a5 a6 a7 = e.tk := by unfold tkT; rw [if_neg (by rw [hK]; decide)]
   rw [eL, eH, eT]
   exact ⟨hk.chk, Int.le_refl _, by omega⟩
theorem ewN_w (e : Ew) (h0 h1 h2 h3 : Bool) (v0 v1 v2 v3 : Int) : (ewN e h0 h1 h2 h3 v0 v1 v2 v3).w = e.w := by unfold ewN; exact Ew.w_mk _ _ _ _ _ _
theorem ewN_n (e : Ew) (h0 h1 h2 h3 : Bool) (v0 v1 v2 v3 : Int) : (ewN e h0 h1 h2 h3 v0 v1 v2 v3).n = e.n := by unfold ewN; exact Ew.n_mk _ _ _ _ _ _
theorem ewN_ok {e : Ew} (hk : EwOK e) (ht : e.tk < 4294967296) (h0 h1 h2 h3 : Bool) (v0 v1 v2 v3 : Int) : EwOK (ewN e h0 h1 h2 h3 v0 v1 v2 v3) /\ (ewN e h0 h1 h2 h3 v0 v1 v2 v3).tk <= e.tk + 1 := by
 obtain ⟨g1, g2, g3⟩ := tk_any (q := rdB e.w h0 h1 h2 h3 v0 v1 v2 v3) (a0 := spL h0 e.w.s00 e.w.s01 e.w.s02 e.w.s03 v0) (a1 := spH h0 e.w.s00 e.w.s01 e.w.s02 e.w.s03 v0) (a2 := spL h1 e.w.s10 e.w.s11 e.w.s12 e.w.s13 v1) (a3 := spH h1 e.w.s10 e.w.s11 e.w.s12 e.w.s13 v1)
  (a4 := spL h2 e.w.s20 e.w.s21 e.w.s22 e.w.s23 v2) (a5 := spH h2 e.w.s20 e.w.s21 e.w.s22 e.w.s23 v2) (a6 := spL h3 e.w.s30 e.w.s31 e.w.s32 e.w.s33 v3) (a7 := spH h3 e.w.s30 e.w.s31 e.w.s32 e.w.s33 v3) hk
 have h := hk.tk0
 have hb := hk.big
 have hw := hk.wat
 unfold ewN
 refine ⟨⟨?_, ?_, ?_, ?_, ?_⟩, ?_⟩
 ·rw [Ew.w_mk]; exact hb
 ·rw [Ew.w_mk]; exact hw
 ·rw [Ew.w_mk, Ew.n_mk, Ew.l_mk, Ew.h_mk]; exact g1
 ·rw [Ew.tk_mk]; omega
 ·rw [Ew.tk_mk]; omega
 ·rw [Ew.tk_mk]; exact g3
@[irreducible] def filL (e : Ew) : Int := (widV e.w.cel e.w.tl e.w.th e.n e.l e.h).fl
@[irreducible] def filH (e : Ew) : Int := (widV e.w.cel e.w.tl e.w.th e.n e.l e.h).fh
@[irreducible] def hoV (c : Cel) (n : Nat) (d : Nat -> Int) (t a : Int) : Int := aV (apC c n d) ⟨0, 0, 0, t, a⟩ (hlV (apC c n d) ⟨0, 0, 0, t, a⟩)
@[irreducible] def heaL (e : Ew) : Int := hoV e.w.cel e.w.tn e.w.tl (e.h 3) (e.h 4)
@[irreducible] def heaH (e : Ew) : Int := hoV e.w.cel e.w.tn e.w.th (e.l 3) (e.l 4)
theorem celNil_max : CelMax celNil := by
 obtain ⟨_, n2, n3, _, n5, n6, _, _, _, _, _, _, n13, n14, _⟩ := celNil_n
 unfold CelMax maxLen
 omega
theorem apC_max {c : Cel} (h : CelMax c) (n : Nat) (d : Nat -> Int) : CelMax (apC c n d) := by
 by_cases e : apE c n d = 0
 ·rw [apC_0 e]; exact mvM h d
 ·rw [apC_n e]; exact celNil_max
@[irreducible] def pwX (e : Ew) (l q o w h : Int) : Int := orE (orE (chkV e.w.cel e.w.tn e.w.tl e.w.th (nowN e) (nowL e) (nowH e)) (limB l q o w h) 2) (insV 0 e.w.al e.w.ah 400000) 2
@[irreducible] def pwE (e : Ew) (l q o w h : Int) : Int := if nowE e = 0 then soE (pwX e l q o w h) (boxP (widV e.w.cel e.w.tl e.w.th (nowN e) (nowL e) (nowH e)) l h e.w.al e.w.ah) else nowE e
@[irreducible] def pwV (e : Ew) (l q o w h : Int) : Int := if nowE e = 0 then soV (pwX e l q o w h) (boxP (widV e.w.cel e.w.tl e.w.th (nowN e) (nowL e) (nowH e)) l h e.w.al e.w.ah) o else 0
def flwS : Spec [.ptr ewCells] := ⟨fun ((m, x), _) => m = true /\ EwOK (ewOf x), fun ((_, x), _) => .tup [.agg [.si .i64 (filL (ewOf x)), .si .i64 (filH (ewOf x))], .si .i64 0]⟩
noncomputable def Svr : Sums := ⟨(33, mkSum _ hltS) :: (66, mkSum _ aplS) :: (94, mkSum _ sfoS) :: (35, mkSum _ nowS) :: (84, mkSum _ fbS) :: Svd.one, Svd.two, Svd.lo, Svd.eqs, Svd.its, Svd.imm⟩
theorem Svr_ok : SumsOK Tryz.prog Svr := (((((Svd_ok.cons Tryz.func84 (by kernel_rfl) (by kernel_rfl) fb_ok).cons Tryz.func35 (by kernel_rfl) (by kernel_rfl) now_ok).cons Tryz.func94 (by kernel_rfl) (by kernel_rfl) sfo_ok).cons Tryz.func66 (by kernel_rfl) (by kernel_rfl) apl_ok).cons Tryz.func33 (by kernel_rfl) (by kernel_rfl) hlt_ok)
set_option maxRecDepth 100000 in
set_option maxHeartbeats 2000000 in
theorem flw_ok : FnSpec Tryz.prog 30 _ flwS := by
 refine FnSpec.of Svr_ok mixed (U := 0) (I := fun _ => []) Tryz.func30 rfl (by kernel_rfl) rfl rfl (by decide +kernel) ?_
 rintro ⟨⟨m, x⟩, ⟨⟩⟩ hpre
 obtain ⟨e, rfl⟩ := ew_ex x
 have hpre : m = true /\ EwOK e := by have : m = true /\ EwOK (ewOf (ewD e)) := hpre; rwa [ewOf_D] at this
 obtain ⟨rfl, hk⟩ := hpre
 unfold FnSat
 conv => arg 2; reduce
 simp [-Bool.forall_bool, flwS, valW, fbS, and_assoc]
 have h5 := ew_five hk
 have hn := hk.chk.n
 have e0 := chk_iff.2 hk.chk
 refine ⟨hk.big, by rw [hn]; unfold maxLen; omega, by rw [h5]; unfold maxLen; omega, ?_, ?_, ?_⟩
 ·rw [okV_0 e0]; unfold filL; rfl
 ·rw [okV_0 e0]; unfold filH; rfl
 ·exact e0
def pwrS : Spec [.ptr ewCells, limSh] := ⟨fun ((m, x), _) => m = true /\ EwOK (ewOf x), fun ((_, x), ((l : Int), (q : Int), (o : Int), (w : Int), (h : Int), _), _) => .tup [.si .i64 (pwV (ewOf x) l q o w h), .si .i64 (pwE (ewOf x) l q o w h)]⟩
theorem now_len {e : Ew} (hk : EwOK e) : nowN e <= 5 := by
 have h5 := ew_five hk
 unfold nowN
 split <;> omega
set_option maxRecDepth 100000 in
set_option maxHeartbeats 2000000 in
theorem pwr_ok : FnSpec Tryz.prog 36 _ pwrS := by
 refine FnSpec.of Svr_ok mixed (U := 0) (I := fun _ => []) Tryz.func36 rfl (by kernel_rfl) rfl rfl (by decide +kernel) ?_
 rintro ⟨⟨m, x⟩, ⟨(l : Int), (q : Int), (o : Int), (w : Int), (h : Int), ⟨⟩⟩, ⟨⟩⟩ hpre
 obtain ⟨e, rfl⟩ := ew_ex x
 have hpre : m = true /\ EwOK e := by have : m = true /\ EwOK (ewOf (ewD e)) := hpre; rwa [ewOf_D] at this
 obtain ⟨rfl, hk⟩ := hpre
 unfold FnSat
 conv => arg 2; reduce
 simp [-Bool.forall_bool, pwrS, nowS, sfoS, and_assoc]
 have hn := hk.chk.n
 have hl := now_len hk
 refine ⟨hk, fun h0 => ?_, fun h0 => ⟨hk.big, by rw [hn]; unfold maxLen; omega, by unfold maxLen; omega, ?_⟩⟩
 ·unfold pwV pwE
  rw [if_neg h0, if_neg h0]
  exact ⟨rfl, rfl⟩
 ·unfold pwV pwE
  rw [if_pos h0, if_pos h0]
  unfold pwX
  exact ⟨rfl, rfl⟩
end
end Abs
end Go.Proofs.YtlabbaglbcmofaaGreat

namespace Go.Proofs.YtlabbaglbcmofaaGreat
namespace Abs
open Go Go.RowKit
noncomputable section
attribute [local irreducible] FnSat
def h2S : Spec [spanSh] := ⟨fun _ => True, fun (((l : Int), (_ : Int), _), _) => .si .i64 l⟩
set_option maxRecDepth 100000 in
theorem h2_ok : FnSpec Tryz.prog 89 _ h2S := by
 refine FnSpec.of Svr_ok mixed (U := 0) (I := fun _ => []) Tryz.func89 rfl (by kernel_rfl) rfl rfl (by decide +kernel) ?_
 rintro ⟨⟨(l : Int), (h : Int), ⟨⟩⟩, ⟨⟩⟩ -
 unfold FnSat
 conv => arg 2; reduce
 simp [h2S]
def h3S : Spec [spanSh] := ⟨fun _ => True, fun (((_ : Int), (h : Int), _), _) => .si .i64 h⟩
set_option maxRecDepth 100000 in
theorem h3_ok : FnSpec Tryz.prog 90 _ h3S := by
 refine FnSpec.of Svr_ok mixed (U := 0) (I := fun _ => []) Tryz.func90 rfl (by kernel_rfl) rfl rfl (by decide +kernel) ?_
 rintro ⟨⟨(l : Int), (h : Int), ⟨⟩⟩, ⟨⟩⟩ -
 unfold FnSat
 conv => arg 2; reduce
 simp [h3S]
noncomputable def Svs : Sums := ⟨(90, mkSum _ h3S) :: (89, mkSum _ h2S) :: Svr.one, Svr.two, Svr.lo, Svr.eqs, Svr.its, Svr.imm⟩
theorem Svs_ok : SumsOK Tryz.prog Svs := ((Svr_ok.cons Tryz.func89 (by kernel_rfl) (by kernel_rfl) h2_ok).cons Tryz.func90 (by kernel_rfl) (by kernel_rfl) h3_ok)
@[reducible] def hA : Sh := .fn 89 [] []
@[reducible] def hB : Sh := .fn 90 [] []
def h1A : Spec [hA, .int .i64, .int .i64, .ptr [.ptr ewCells]] := ⟨fun (_, _, _, ((_, x), _), _) => EwOK (ewOf x), fun (_, (t : Int), (a : Int), ((_, x), _), _) => .si .i64 (hoV (ewOf x).w.cel (ewOf x).w.tn (ewOf x).w.tl t a)⟩
def h1B : Spec [hB, .int .i64, .int .i64, .ptr [.ptr ewCells]] := ⟨fun (_, _, _, ((_, x), _), _) => EwOK (ewOf x), fun (_, (t : Int), (a : Int), ((_, x), _), _) => .si .i64 (hoV (ewOf x).w.cel (ewOf x).w.tn (ewOf x).w.th t a)⟩
def h1AI : DatL [hA, .int .i64, .int .i64, .ptr [.ptr ewCells]] -> Anns := fun (_, (t : Int), (a : Int), ((_, x), _), _) => [
 (3, [(8, 2, 1)], fun fr hp => ⟨Nat, fun g => ⟨frI [.k 9, .t 2, .k 10, .s (.si .i64 (icast g)), .t 29] fr, setB hp 0 (.row 2 1 (.sym g) (fun k => [.si .i64 ((ewOf x).w.tl k)]))⟩, Nat × Nat, fun g => (g, (ewOf x).w.tn), fun (g, n) => g <= n, fun g => nsub (ewOf x).w.tn g⟩)]
set_option maxRecDepth 100000 in
set_option maxHeartbeats 4000000 in
theorem h1A_ok : FnSpec Tryz.prog 88 _ h1A := by
 refine FnSpec.of Svs_ok mixed (U := 0) (I := h1AI) Tryz.func88 rfl (by kernel_rfl) rfl rfl (by decide +kernel) ?_
 rintro ⟨⟨⟩, (t : Int), (a : Int), ⟨⟨m, x⟩, ⟨⟩⟩, ⟨⟩⟩ hpre
 obtain ⟨e, rfl⟩ := ew_ex x
 have hk : EwOK e := by have : EwOK (ewOf (ewD e)) := hpre; rwa [ewOf_D] at this
 unfold FnSat
 conv => arg 2; reduce
 simp [-Bool.forall_bool, h1A, h2S, aplS, hltS, maxRow, ElEq, getB, goneB, aliveB, and_assoc]
 have h5 := ew_five hk
 have hn := hk.chk.n
 have hs : staOf (0, 0, 0, t, a, PUnit.unit) = ⟨0, 0, 0, t, a⟩ := by unfold staOf; rfl
 rw [hs]
 refine ⟨⟨0, rfl, rfl, fun j => by omega, by omega⟩, fun g hg => ⟨fun hlt => ⟨hlt, by omega, by omega, by omega, g + 1, by omega, rfl, fun j hj => app_one hj (fun _ => rfl) (fun h => by subst h; rfl), by omega, by omega⟩, fun hge => ?_⟩⟩
 have eg : g = e.w.tn := by omega
 rw [eg]
 exact ⟨hk.big, by rw [hn]; unfold maxLen; omega, apC_max hk.big _ _, by unfold hoV; rfl⟩
def h1BI : DatL [hB, .int .i64, .int .i64, .ptr [.ptr ewCells]] -> Anns := fun (_, (t : Int), (a : Int), ((_, x), _), _) => [
 (3, [(8, 2, 1)], fun fr hp => ⟨Nat, fun g => ⟨frI [.k 9, .t 2, .k 10, .s (.si .i64 (icast g)), .t 29] fr, setB hp 0 (.row 2 1 (.sym g) (fun k => [.si .i64 ((ewOf x).w.th k)]))⟩, Nat × Nat, fun g => (g, (ewOf x).w.tn), fun (g, n) => g <= n, fun g => nsub (ewOf x).w.tn g⟩)]
set_option maxRecDepth 100000 in
set_option maxHeartbeats 4000000 in
theorem h1B_ok : FnSpec Tryz.prog 88 _ h1B := by
 refine FnSpec.of Svs_ok mixed (U := 0) (I := h1BI) Tryz.func88 rfl (by kernel_rfl) rfl rfl (by decide +kernel) ?_
 rintro ⟨⟨⟩, (t : Int), (a : Int), ⟨⟨m, x⟩, ⟨⟩⟩, ⟨⟩⟩ hpre
 obtain ⟨e, rfl⟩ := ew_ex x
 have hk : EwOK e := by have : EwOK (ewOf (ewD e)) := hpre; rwa [ewOf_D] at this
 unfold FnSat
 conv => arg 2; reduce
 simp [-Bool.forall_bool, h1B, h3S, aplS, hltS, maxRow, ElEq, getB, goneB, aliveB, and_assoc]
 have h5 := ew_five hk
 have hn := hk.chk.n
 have hs : staOf (0, 0, 0, t, a, PUnit.unit) = ⟨0, 0, 0, t, a⟩ := by unfold staOf; rfl
 rw [hs]
 refine ⟨⟨0, rfl, rfl, fun j => by omega, by omega⟩, fun g hg => ⟨fun hlt => ⟨hlt, by omega, by omega, by omega, g + 1, by omega, rfl, fun j hj => app_one hj (fun _ => rfl) (fun h => by subst h; rfl), by omega, by omega⟩, fun hge => ?_⟩⟩
 have eg : g = e.w.tn := by omega
 rw [eg]
 exact ⟨hk.big, by rw [hn]; unfold maxLen; omega, apC_max hk.big _ _, by unfold hoV; rfl⟩
noncomputable def Svt : Sums := ⟨(88, (altSum (mkSum _ h1A) (mkSum _ h1B))) :: Svs.one, Svs.two, Svs.lo, Svs.eqs, Svs.its, Svs.imm⟩
theorem Svt_ok : SumsOK Tryz.prog Svt := (Svs_ok.add Tryz.func88 (by kernel_rfl) (by kernel_rfl) (altSum_ok (mkSum_ok h1A_ok) (mkSum_ok h1B_ok)))
def hlwS : Spec [.ptr ewCells] := ⟨fun ((m, x), _) => m = true /\ EwOK (ewOf x), fun ((_, x), _) => .tup [.agg [.si .i64 (heaL (ewOf x)), .si .i64 (heaH (ewOf x))], .si .i64 0]⟩
set_option maxRecDepth 100000 in
set_option maxHeartbeats 4000000 in
theorem hlw_ok : FnSpec Tryz.prog 32 _ hlwS := by
 refine FnSpec.of Svt_ok mixed (U := 0) (I := fun _ => []) Tryz.func32 rfl (by kernel_rfl) rfl rfl (by decide +kernel) ?_
 rintro ⟨⟨m, x⟩, ⟨⟩⟩ hpre
 obtain ⟨e, rfl⟩ := ew_ex x
 have hpre : m = true /\ EwOK e := by have : m = true /\ EwOK (ewOf (ewD e)) := hpre; rwa [ewOf_D] at this
 obtain ⟨rfl, hk⟩ := hpre
 unfold FnSat
 conv => arg 2; reduce
 simp [-Bool.forall_bool, hlwS, valW, h1A, h1B, and_assoc]
 have h5 := ew_five hk
 exact ⟨by omega, by omega, hk, by omega, by omega, hk, by unfold heaL; rfl, by unfold heaH; rfl⟩
end
end Abs
end Go.Proofs.YtlabbaglbcmofaaGreat
