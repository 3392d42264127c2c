/- FnExactPackSize: for every argument the law returns true, and its arguments read behind the call as they read before. No conditions. -/
import Derived.Shelf.Abstract
import Derived.Test.YtfnhjaiioojbkaaRows
import Derived.WalkKit
import Derived.ProofKit
import Derived.OpenShut
import Derived.ShutString
import Derived.ChangeOld
import Derived.Below
import Derived.SizedLaws
import Derived.Test.YtfnhjaiioojbkaaMExactPackSize0
import Derived.Test.YtfnhjaiioojbkaaMExactPackSize1
import Derived.Test.YtfnhjaiioojbkaaMExactPackSize2
import Derived.Test.YtfnhjaiioojbkaaMExactPackSize3
set_option linter.unusedVariables false
set_option linter.unusedSimpArgs false
section
namespace Go.Proofs.Ytfnhjaiioojbkaa.Q
open Go.RowKit Go.Proofs.YtfnhjaiioojbkaaW.PrintWords
set_option linter.unusedVariables false
set_option linter.unusedSimpArgs false
/-- The first ones' sum. -/
def psum (f : Nat → Nat) : Nat → Nat
  | 0 => 0
  | n + 1 => psum f n + f n
theorem psum_top {f : Nat → Nat} {c : Nat} : ∀ n, (∀ j, j < n → f j ≤ c) → psum f n ≤ c * n
  | 0, _ => by simp [psum]
  | n + 1, H => by
    have := psum_top n (fun j hj => H j (by omega))
    have := H n (by omega)
    simp only [psum, Nat.mul_succ]; omega
def pksz (P : List Pk) (j : Nat) : Nat := sz (pkAt P j).f1
end Go.Proofs.Ytfnhjaiioojbkaa.Q
end
section
namespace Go.Proofs.Ytfnhjaiioojbkaa.Q
open Go.RowKit Go.Proofs.YtfnhjaiioojbkaaW.PrintWords Go.Proofs.YtfnhjaiioojbkaaW.PrintLast Go.Proofs.YtfnhjaiioojbkaaW.PrintMore
attribute [local go_sem] max2_int min2_int max_two min_two max_three min_three max_four min_four   -- for this text's walks alone
set_option linter.unusedVariables false
set_option linter.unusedSimpArgs false
def spec_PackSize.l0 : Nat → List (S53) → Int → Int → Option (Int)
 | 0, _, _, _ => none
 | k + 1, x0, x3, x4 => if x4 < (x0.length : Int) then (if 0 ≤ x4 then ((spec_l13Size.f k ((rd_T53 x0 x4).f1)).bind fun t897 => (spec_PackSize.l0 k x0 (wrap64 (x3 + t897)) (wrap64 (x4 + 1)))) else (none)) else (some x3)
def spec_PackSize.f (k : Nat) (l0 : List (S53)) : Option (Int) := (spec_l13PackOk.f k l0).bind fun t895 => (if t895 = true then (spec_PackSize.l0 k l0 0 0) else (some (-1)))
set_option maxHeartbeats 8000000 in
set_option maxRecDepth 100000 in
theorem spec_PackSize.calls (k : Nat) (A0 : Option Addr) (c0 : Nat) (l0 : List (S53)) (r : Int) (w : World) (hr0 : Kd.C k53 w A0 l0.length l0) (hc0 : l0.length ≤ c0) (h : spec_PackSize.f k l0 = some r) :
 Calls Try.prog 45 #[.slice A0 l0.length c0] w fun e w' => e = .returned (.int .i64 r) ∧ Below w.heap.size w w' := by
 have HR0 := Aside0.mk hr0; have HC0 := Aside0.mk hc0; clear hr0 hc0; have HB := Aside0.mk (Below.refl w.heap.size w); have H : ((spec_l13PackOk.f k l0).bind fun t895 => (if t895 = true then (spec_PackSize.l0 k l0 0 0) else (some (-1)))) = some r := h; clear h; replace H := Option.bind_eq_some_iff.mp H; obtain ⟨t895, A20, H⟩ := H; replace H : (if t895 = true then (spec_PackSize.l0 k l0 0 0) else (some (-1))) = some r := H; have A2 := Aside0.mk A20; clear A20; by_cases c3 : t895 = true
 ·subst c3; (have H1 : (spec_PackSize.l0 k l0 0 0) = some r := by rw [if_pos rfl] at H; exact H); clear H; have H := H1; clear H1; have H' := Aside0.mk H; clear H; go_enter Try.func45, Try.ntmps45; go_wp2_with (first | ((with_reducible refine gate_callee (f := 86) rfl ?_); refine goesL_ (some 6) rfl rfl Try.func86 (by kernel_rfl) rfl #[.slice A0 l0.length c0] rfl (by (try simp only [List.map_toArray, List.map_cons, List.map_nil]); first | done | rfl | (simp only [List.length_drop, List.length_take]; rfl)) ?_; (with_reducible refine (spec_l13PackOk.calls k _ _ l0 true _ ?side1 ?side2 A2.out).mono ?_); (case side1 => repeat (first | exact HR0.out | (with_reducible refine Kd.C_alloc ?_ _) | (with_reducible refine Kd.C_drewN ?_ _) | (with_reducible refine Kd.C_drew ?_))); (case side2 => exact HC0.out); rintro e w4 ⟨rfl, hb⟩; refine ⟨_, rfl, ?_⟩; have n0_ := Aside0.mk (below_step (by repeat (first | (with_reducible first | exact HB.out | apply below_alloc | apply pw_below_drewN | apply below_drew1) | exact HB.out)) hb); clear HB; have HB := n0_; clear n0_; (try clear hb); (try clear hb2); (try clear hk); (try clear hi))); go_loopg [3, 4] k (fun kq v3 v4 w' => ∃ (x3_1 : Int) (x4_1 : Int), v3 = .int .i64 x3_1 ∧ v4 = .int .i64 x4_1 ∧ Aside0 (spec_PackSize.l0 kq l0 x3_1 x4_1 = some r) ∧ Aside0 (kq ≤ k) ∧ Aside0 (Below w.heap.size w w'))
  case atStart => exact ⟨(0), (0), (by first | rfl | (simp; done) | (simp [*]; done)), (by first | rfl | (simp; done) | (simp [*]; done)), H', ⟨Nat.le_refl _⟩, ⟨by repeat (first | (with_reducible first | exact HB.out | apply below_alloc | apply pw_below_drewN | apply below_drew1) | exact HB.out)⟩⟩
  case round =>
   clear H'; (try clear p2); (try clear c3); (try clear c4); obtain ⟨x3_1, x4_1, rfl, rfl, HA, HK1, HB⟩ := hrel
   cases gk with
   | zero => exact absurd HA.out (by simp [spec_PackSize.l0])
   | succ k1 =>
    have H := HA.out; clear HA; simp only [spec_PackSize.l0] at H; by_cases c5 : x4_1 < (l0.length : Int)
    ·rw [if_pos c5] at H; have c5b0 : decide (x4_1 < (l0.length : Int)) = true := decide_eq_true c5; clear c5; by_cases c6 : 0 ≤ x4_1
     ·rw [if_pos c6] at H; have c6b0 : decide (0 ≤ x4_1) = true := decide_eq_true c6; clear c6; replace H := Option.bind_eq_some_iff.mp H; obtain ⟨t897, A70, H⟩ := H; replace H : (spec_PackSize.l0 k1 l0 (wrap64 (x3_1 + t897)) (wrap64 (x4_1 + 1))) = some r := H; have A7 := Aside0.mk A70; clear A70; have H' := Aside0.mk H; clear H; have p896 : 0 ≤ (x4_1 : Int) := of_decide_eq_true (by assumption); have q896 : x4_1 < (l0.length : Int) := of_decide_eq_true (by assumption); obtain ⟨ad896, A896_1, c896_1, e896, hx896_0, hx896_1, hl896_1, hi896_1⟩ := at_T53 HR0.out x4_1 p896 q896; cases e896; replace hx896_0 := (HB.out.cell (World.block_lt_of_cell? w _ hx896_0)).trans hx896_0; replace hx896_1 := (HB.out.cell (World.block_lt_of_cell? w _ hx896_1)).trans hx896_1; have HR896_1 := Aside0.mk hi896_1; have HC896_1 := Aside0.mk hl896_1; clear hi896_1 hl896_1; replace p896 := eq_true p896; replace q896 := eq_true q896; go_wp2_with (first | ((with_reducible refine gate_callee (f := 90) rfl ?_); refine goesL_ (some 20) rfl rfl Try.func90 (by kernel_rfl) rfl #[.slice A896_1 ((rd_T53 l0 x4_1).f1).length c896_1] rfl (by (try simp only [List.map_toArray, List.map_cons, List.map_nil]); first | done | rfl | (simp only [List.length_drop, List.length_take]; rfl)) ?_; (with_reducible refine (spec_l13Size.calls k1 _ _ ((rd_T53 l0 x4_1).f1) t897 _ ?side1 ?side2 A7.out).mono ?_); (case side1 => repeat (first | exact (Kd.C_below HR896_1.out HB.out) | (with_reducible refine Kd.C_alloc ?_ _) | (with_reducible refine Kd.C_drewN ?_ _) | (with_reducible refine Kd.C_drew ?_))); (case side2 => exact HC896_1.out); rintro e w' ⟨rfl, ⟨nd, rfl⟩⟩; refine ⟨_, rfl, ?_⟩)); go_roundg k1
      case measure => have := HK1.out; omega
      case rel => exact ⟨(wrap64 (x3_1 + t897)), (wrap64 (x4_1 + 1)), (by first | rfl | (simp; done) | (simp [*]; done)), (by first | rfl | (simp; done) | (simp [*]; done)), H', ⟨by have := HK1.out; omega⟩, ⟨by repeat (first | (with_reducible first | exact HB.out | apply below_alloc | apply pw_below_drewN | apply below_drew1) | exact HB.out)⟩⟩
     ·rw [if_neg c6] at H; exact absurd H (by simp)
    ·rw [if_neg c5] at H; have c5b0 : decide (x4_1 < (l0.length : Int)) = false := decide_eq_false c5; clear c5; obtain rfl := Option.some.inj H; go_wp2; go_ret; exact ⟨by first | rfl | (simp <;> rfl) | (simp [*] <;> rfl), by repeat (first | (with_reducible first | exact HB.out | apply below_alloc | apply pw_below_drewN | apply below_drew1) | exact HB.out)⟩
 ·replace c3 := Bool.eq_false_iff.mpr c3; subst c3; (have H1 : (some (-1)) = some r := by rw [if_neg (show ¬ (false = true) by decide)] at H; exact H); clear H; have H := H1; clear H1; obtain rfl := Option.some.inj H; go_enter Try.func45, Try.ntmps45; go_wp2_with (first | ((with_reducible refine gate_callee (f := 86) rfl ?_); refine goesL_ (some 6) rfl rfl Try.func86 (by kernel_rfl) rfl #[.slice A0 l0.length c0] rfl (by (try simp only [List.map_toArray, List.map_cons, List.map_nil]); first | done | rfl | (simp only [List.length_drop, List.length_take]; rfl)) ?_; (with_reducible refine (spec_l13PackOk.calls k _ _ l0 false _ ?side1 ?side2 A2.out).mono ?_); (case side1 => repeat (first | exact HR0.out | (with_reducible refine Kd.C_alloc ?_ _) | (with_reducible refine Kd.C_drewN ?_ _) | (with_reducible refine Kd.C_drew ?_))); (case side2 => exact HC0.out); rintro e w8 ⟨rfl, hb⟩; refine ⟨_, rfl, ?_⟩; have n0_ := Aside0.mk (below_step (by repeat (first | (with_reducible first | exact HB.out | apply below_alloc | apply pw_below_drewN | apply below_drew1) | exact HB.out)) hb); clear HB; have HB := n0_; clear n0_; (try clear hb); (try clear hb2); (try clear hk); (try clear hi))); go_ret; exact ⟨by first | rfl | (simp <;> rfl) | (simp [*] <;> rfl), by repeat (first | (with_reducible first | exact HB.out | apply below_alloc | apply pw_below_drewN | apply below_drew1) | exact HB.out)⟩
end Go.Proofs.Ytfnhjaiioojbkaa.Q
end
section
namespace Go.Proofs.Ytfnhjaiioojbkaa.Q
open Go.RowKit Go.Proofs.YtfnhjaiioojbkaaW.PrintWords
set_option linter.unusedVariables false
set_option linter.unusedSimpArgs false
theorem implOkAny_ev {P : List Pk} (hs : PkS P) : Ev (fun k => impl_PackOk.f k P) (resU (unG P P.length)).2.2 := by
  unfold impl_PackOk.f
  exact Ev.bind (unpackAny_ev hs) (Ev.now _)
theorem implSum_ev {P : List Pk} (hl : P.length ≤ 12) (ok : ∀ j, j < P.length → deltaB (pkAt P j).f1 = true) : ∀ (d i : Nat), P.length - i = d → i ≤ P.length →
    Ev (fun k => impl_PackSize.l0 k (psum (pksz P) i : Int) P (P.length : Int) i) (psum (pksz P) P.length : Int)
  | 0, i, hd, hi => by
    obtain rfl : i = P.length := by omega
    refine Ev.step' ?_
    simp only [impl_PackSize.l0]
    exact Ev.negf (by omega) (Ev.now _)
  | d + 1, i, hd, hi => by
    have ih := implSum_ev hl ok d (i + 1) (by omega) (by omega)
    have hs := psum_top (f := pksz P) (c := 110) i (fun j hj => sz_le (ok j (by omega)))
    have hz := sz_le (ok i (by omega))
    refine Ev.step' ?_
    simp only [impl_PackSize.l0, rd_pk, w64_succ i (by omega)]
    refine Ev.posf (by omega) (Ev.posf (by omega) (Ev.posf (by omega) (Ev.bind (implSize_ev (ok i (by omega))) ?_)))
    simp only [w64_add (psum (pksz P) i) (sz (pkAt P i).f1) (by omega)]
    exact ih
theorem specSum_ev {P : List Pk} (hl : P.length ≤ 12) (ok : ∀ j, j < P.length → deltaB (pkAt P j).f1 = true) : ∀ (d i : Nat), P.length - i = d → i ≤ P.length →
    Ev (fun k => spec_PackSize.l0 k P (psum (pksz P) i : Int) i) (psum (pksz P) P.length : Int)
  | 0, i, hd, hi => by
    obtain rfl : i = P.length := by omega
    refine Ev.step' ?_
    simp only [spec_PackSize.l0]
    exact Ev.negf (by omega) (Ev.now _)
  | d + 1, i, hd, hi => by
    have ih := specSum_ev hl ok d (i + 1) (by omega) (by omega)
    have hs := psum_top (f := pksz P) (c := 110) i (fun j hj => sz_le (ok j (by omega)))
    have hz := sz_le (ok i (by omega))
    refine Ev.step' ?_
    simp only [spec_PackSize.l0, rd_pk, w64_succ i (by omega)]
    refine Ev.posf (by omega) (Ev.posf (by omega) (Ev.bind (specSize_ev (ok i (by omega))) ?_))
    simp only [w64_add (psum (pksz P) i) (sz (pkAt P i).f1) (by omega)]
    exact ih
def sizeB (P : List Pk) : Int := match unG P P.length with
  | some _ => (psum (pksz P) P.length : Int)
  | none => -1
theorem implSizeAny_ev {P : List Pk} (hs : PkS P) : Ev (fun k => impl_PackSize.f k P) (sizeB P) := by
  have hu := implOkAny_ev hs
  unfold impl_PackSize.f
  unfold sizeB
  cases h : unG P P.length with
  | none => rw [h] at hu; exact Ev.bind hu (Ev.negf (by simp [resU]) (Ev.now _))
  | some q =>
    rw [h] at hu
    exact Ev.bind hu (Ev.posf rfl (implSum_ev (by have := (unG_good _ q h).1; omega) (fun j hj => (unG_okA _ q h j hj).2.2) _ 0 rfl (by omega)))
theorem specSizeAny_ev {P : List Pk} (hs : PkS P) : Ev (fun k => spec_PackSize.f k P) (sizeB P) := by
  have hu := packOkAny_ev hs
  unfold spec_PackSize.f
  unfold sizeB
  cases h : unG P P.length with
  | none => rw [h] at hu; exact Ev.bind hu (Ev.negf (by simp [resU]) (Ev.now _))
  | some q =>
    rw [h] at hu
    exact Ev.bind hu (Ev.posf rfl (specSum_ev (by have := (unG_good _ q h).1; omega) (fun j hj => (unG_okA _ q h j hj).2.2) _ 0 rfl (by omega)))
end Go.Proofs.Ytfnhjaiioojbkaa.Q
end
section
namespace Go.Proofs.Ytfnhjaiioojbkaa.Q
open Go.RowKit Go.Proofs.YtfnhjaiioojbkaaW.PrintWords Go.Proofs.YtfnhjaiioojbkaaW.PrintLast Go.Proofs.YtfnhjaiioojbkaaW.PrintMore
attribute [local go_sem] max2_int min2_int max_two min_two max_three min_three max_four min_four   -- for this text's walks alone
set_option linter.unusedVariables false
set_option linter.unusedSimpArgs false
def laws_szPacked.f (k : Nat) (a0_0 : Int) (l0_1 : List (S72)) (a1 : Int) : Option (Int) := (laws_szDeltaS.f k l0_1 a1).bind fun t988 => (if t988 < 0 then (some (-1)) else (some t988))
set_option maxHeartbeats 8000000 in
set_option maxRecDepth 100000 in
theorem laws_szPacked.calls (k : Nat) (a0_0 : Int) (A0_1 : Option Addr) (c0_1 : Nat) (l0_1 : List (S72)) (a1 : Int) (r : Int) (w : World) (hr0_1 : Kd.C k72 w A0_1 l0_1.length l0_1) (hc0_1 : l0_1.length ≤ c0_1) (h : laws_szPacked.f k a0_0 l0_1 a1 = some r) :
 Calls Try.prog 95 #[.agg #[.int .i64 a0_0, .slice A0_1 l0_1.length c0_1], .int .i64 a1] w fun e w' => e = .returned (.int .i64 r) ∧ Below w.heap.size w w' := by
 have hu97 := Try.underlying97; have HR0_1 := Aside0.mk hr0_1; have HC0_1 := Aside0.mk hc0_1; clear hr0_1 hc0_1; have HB := Aside0.mk (Below.refl w.heap.size w); have H : ((laws_szDeltaS.f k l0_1 a1).bind fun t988 => (if t988 < 0 then (some (-1)) else (some t988))) = some r := h; clear h; replace H := Option.bind_eq_some_iff.mp H; obtain ⟨t988, A30, H⟩ := H; replace H : (if t988 < 0 then (some (-1)) else (some t988)) = some r := H; have A3 := Aside0.mk A30; clear A30; by_cases c4 : t988 < 0
 ·rw [if_pos c4] at H; have c4b0 : decide (t988 < 0) = true := decide_eq_true c4; clear c4; obtain rfl := Option.some.inj H; go_enter Try.func95, Try.ntmps95; go_wp2_with (first | ((with_reducible refine gate_dst (N := 2) rfl ?_); refine box_event ?hg (N := 2) ?hd (cs := #[.int .i64 a0_0, .slice A0_1 l0_1.length c0_1]) (t := 97) ?hr ?_; (case hd => rfl); (case hg => rfl); (case hr => first | (go_simp; done) | (go_simp; rfl)); intro gb987 hg w5 hbox hb; have n0_ := Aside0.mk (below_step (by repeat (first | (with_reducible first | exact HB.out | apply below_alloc | apply pw_below_drewN | apply below_drew1) | exact HB.out)) hb); have n1_ := Aside0.mk (hbox); have n2_ := Aside0.mk ((by rw [hg]; exact (below_size (by repeat (first | (with_reducible first | exact HB.out | apply below_alloc | apply pw_below_drewN | apply below_drew1) | exact HB.out))) : w.heap.size ≤ gb987)); have n3_ := Aside0.mk ((by rw [hg]; exact (below_size (by repeat (first | (with_reducible first | exact HB.out | apply below_alloc | apply pw_below_drewN | apply below_drew1) | exact HB.out))) : w.heap.size ≤ gb987)); clear HB; have HB := n0_; have BK987 := n1_; have GW987 := n2_; have GE987 := n3_; clear n0_ n1_ n2_ n3_; clear hb hbox hg; have hcz6_0 : w5.cell? ⟨gb987, 0, none⟩ = some (.int .i64 a0_0) := (blk_cell BK987.out 0).trans rfl; have hcz6_1 : w5.cell? ⟨gb987, 1, none⟩ = some (.slice A0_1 l0_1.length c0_1) := (blk_cell BK987.out 1).trans rfl; have hfz6_0 := blk_frozen BK987.out 0; have hfz6_1 := blk_frozen BK987.out 1) | ((with_reducible refine gate_callee (f := 15) rfl ?_); refine goesL_ (some 8) rfl rfl Try.func15 (by kernel_rfl) rfl #[.slice A0_1 l0_1.length c0_1, .int .i64 a1] rfl (by (try simp only [List.map_toArray, List.map_cons, List.map_nil]); first | done | rfl | (simp only [List.length_drop, List.length_take]; rfl)) ?_; (with_reducible refine (laws_szDeltaS.calls k _ _ l0_1 a1 t988 _ ?side1 ?side2 A3.out).mono ?_); (case side1 => repeat (first | exact (Kd.C_below HR0_1.out HB.out) | (with_reducible refine Kd.C_alloc ?_ _) | (with_reducible refine Kd.C_drewN ?_ _) | (with_reducible refine Kd.C_drew ?_))); (case side2 => exact HC0_1.out); rintro e w7 ⟨rfl, hb⟩; refine ⟨_, rfl, ?_⟩; have n0_ := Aside0.mk (blk_below (g := gb987) (o := .cells #[.int .i64 a0_0, .slice A0_1 l0_1.length c0_1] 97 (0, 0)) (by (with_reducible repeat (first | refine blk_drewN ?_ _ | refine blk_drew ?_ | refine blk_alloc ?_ _)); exact BK987.out) hb); have n1_ := Aside0.mk (below_step (by repeat (first | (with_reducible first | exact HB.out | apply below_alloc | apply pw_below_drewN | apply below_drew1 | refine below_set ?_ GE987.out) | exact HB.out)) hb); clear BK987; clear HB; have BK987 := n0_; have HB := n1_; clear n0_ n1_; (try clear hb); (try clear hb2); (try clear hk); (try clear hi))); go_ret; exact ⟨by first | rfl | (simp <;> rfl) | (simp [*] <;> rfl), by repeat (first | (with_reducible first | exact HB.out | apply below_alloc | apply pw_below_drewN | apply below_drew1 | refine below_set ?_ GE987.out) | exact HB.out)⟩
 ·rw [if_neg c4] at H; have c4b0 : decide (t988 < 0) = false := decide_eq_false c4; clear c4; obtain rfl := Option.some.inj H; go_enter Try.func95, Try.ntmps95; go_wp2_with (first | ((with_reducible refine gate_dst (N := 2) rfl ?_); refine box_event ?hg (N := 2) ?hd (cs := #[.int .i64 a0_0, .slice A0_1 l0_1.length c0_1]) (t := 97) ?hr ?_; (case hd => rfl); (case hg => rfl); (case hr => first | (go_simp; done) | (go_simp; rfl)); intro gb987 hg w8 hbox hb; have n0_ := Aside0.mk (below_step (by repeat (first | (with_reducible first | exact HB.out | apply below_alloc | apply pw_below_drewN | apply below_drew1) | exact HB.out)) hb); have n1_ := Aside0.mk (hbox); have n2_ := Aside0.mk ((by rw [hg]; exact (below_size (by repeat (first | (with_reducible first | exact HB.out | apply below_alloc | apply pw_below_drewN | apply below_drew1) | exact HB.out))) : w.heap.size ≤ gb987)); have n3_ := Aside0.mk ((by rw [hg]; exact (below_size (by repeat (first | (with_reducible first | exact HB.out | apply below_alloc | apply pw_below_drewN | apply below_drew1) | exact HB.out))) : w.heap.size ≤ gb987)); clear HB; have HB := n0_; have BK987 := n1_; have GW987 := n2_; have GE987 := n3_; clear n0_ n1_ n2_ n3_; clear hb hbox hg; have hcz9_0 : w8.cell? ⟨gb987, 0, none⟩ = some (.int .i64 a0_0) := (blk_cell BK987.out 0).trans rfl; have hcz9_1 : w8.cell? ⟨gb987, 1, none⟩ = some (.slice A0_1 l0_1.length c0_1) := (blk_cell BK987.out 1).trans rfl; have hfz9_0 := blk_frozen BK987.out 0; have hfz9_1 := blk_frozen BK987.out 1) | ((with_reducible refine gate_callee (f := 15) rfl ?_); refine goesL_ (some 8) rfl rfl Try.func15 (by kernel_rfl) rfl #[.slice A0_1 l0_1.length c0_1, .int .i64 a1] rfl (by (try simp only [List.map_toArray, List.map_cons, List.map_nil]); first | done | rfl | (simp only [List.length_drop, List.length_take]; rfl)) ?_; (with_reducible refine (laws_szDeltaS.calls k _ _ l0_1 a1 t988 _ ?side1 ?side2 A3.out).mono ?_); (case side1 => repeat (first | exact (Kd.C_below HR0_1.out HB.out) | (with_reducible refine Kd.C_alloc ?_ _) | (with_reducible refine Kd.C_drewN ?_ _) | (with_reducible refine Kd.C_drew ?_))); (case side2 => exact HC0_1.out); rintro e w10 ⟨rfl, hb⟩; refine ⟨_, rfl, ?_⟩; have n0_ := Aside0.mk (blk_below (g := gb987) (o := .cells #[.int .i64 a0_0, .slice A0_1 l0_1.length c0_1] 97 (0, 0)) (by (with_reducible repeat (first | refine blk_drewN ?_ _ | refine blk_drew ?_ | refine blk_alloc ?_ _)); exact BK987.out) hb); have n1_ := Aside0.mk (below_step (by repeat (first | (with_reducible first | exact HB.out | apply below_alloc | apply pw_below_drewN | apply below_drew1 | refine below_set ?_ GE987.out) | exact HB.out)) hb); clear BK987; clear HB; have BK987 := n0_; have HB := n1_; clear n0_ n1_; (try clear hb); (try clear hb2); (try clear hk); (try clear hi))); go_ret; exact ⟨by first | rfl | (simp <;> rfl) | (simp [*] <;> rfl), by repeat (first | (with_reducible first | exact HB.out | apply below_alloc | apply pw_below_drewN | apply below_drew1 | refine below_set ?_ GE987.out) | exact HB.out)⟩
end Go.Proofs.Ytfnhjaiioojbkaa.Q
end
section
namespace Go.Proofs.Ytfnhjaiioojbkaa.Q
open Go.RowKit Go.Proofs.YtfnhjaiioojbkaaW.PrintWords Go.Proofs.YtfnhjaiioojbkaaW.PrintLast Go.Proofs.YtfnhjaiioojbkaaW.PrintMore
attribute [local go_sem] max2_int min2_int max_two min_two max_three min_three max_four min_four   -- for this text's walks alone
set_option linter.unusedVariables false
set_option linter.unusedSimpArgs false
def laws_szPackedS.l0 : Nat → List (S97) → Int → Int → Option (Int)
 | 0, _, _, _ => none
 | k + 1, x0, x1, x5 => if x5 < (x0.length : Int) then (if 0 ≤ x5 then ((laws_szPacked.f k ((rd_T97 x0 x5).f0) ((rd_T97 x0 x5).f1) x1).bind fun t990 => (if t990 < 0 then (some (-1)) else (laws_szPackedS.l0 k x0 t990 (wrap64 (x5 + 1))))) else (none)) else (some x1)
def laws_szPackedS.f (k : Nat) (l0 : List (S97)) (a1 : Int) : Option (Int) := if (wrap64 (a1 - (l0.length : Int))) < 0 then (some (-1)) else (laws_szPackedS.l0 k l0 (wrap64 (a1 - (l0.length : Int))) 0)
set_option maxHeartbeats 8000000 in
set_option maxRecDepth 100000 in
theorem laws_szPackedS.calls (k : Nat) (A0 : Option Addr) (c0 : Nat) (l0 : List (S97)) (a1 : Int) (r : Int) (w : World) (hr0 : Kd.C k97 w A0 l0.length l0) (hc0 : l0.length ≤ c0) (h : laws_szPackedS.f k l0 a1 = some r) :
 Calls Try.prog 50 #[.slice A0 l0.length c0, .int .i64 a1] w fun e w' => e = .returned (.int .i64 r) ∧ Below w.heap.size w w' := by
 have hu97 := Try.underlying97; have HR0 := Aside0.mk hr0; have HC0 := Aside0.mk hc0; clear hr0 hc0; have HB := Aside0.mk (Below.refl w.heap.size w); have H : (if (wrap64 (a1 - (l0.length : Int))) < 0 then (some (-1)) else (laws_szPackedS.l0 k l0 (wrap64 (a1 - (l0.length : Int))) 0)) = some r := h; clear h; by_cases c3 : (wrap64 (a1 - (l0.length : Int))) < 0
 ·rw [if_pos c3] at H; have c3b0 : decide ((wrap64 (a1 - (l0.length : Int))) < 0) = true := decide_eq_true c3; clear c3; obtain rfl := Option.some.inj H; go_enter Try.func50, Try.ntmps50; go_wp2; go_ret; exact ⟨by first | rfl | (simp <;> rfl) | (simp [*] <;> rfl), by repeat (first | (with_reducible first | exact HB.out | apply below_alloc | apply pw_below_drewN | apply below_drew1) | exact HB.out)⟩
 ·rw [if_neg c3] at H; have c3b0 : decide ((wrap64 (a1 - (l0.length : Int))) < 0) = false := decide_eq_false c3; clear c3; have H' := Aside0.mk H; clear H; go_enter Try.func50, Try.ntmps50; go_wp2; go_loopg [1, 5] k (fun kq v1 v5 w' => ∃ (x1_1 : Int) (x5_1 : Int), v1 = .int .i64 x1_1 ∧ v5 = .int .i64 x5_1 ∧ Aside0 (laws_szPackedS.l0 kq l0 x1_1 x5_1 = some r) ∧ Aside0 (kq ≤ k) ∧ Aside0 (Below w.heap.size w w'))
  case atStart => exact ⟨(wrap64 (a1 - (l0.length : Int))), (0), (by first | rfl | (simp; done) | (simp [*]; done)), (by first | rfl | (simp; done) | (simp [*]; done)), H', ⟨Nat.le_refl _⟩, ⟨by repeat (first | (with_reducible first | exact HB.out | apply below_alloc | apply pw_below_drewN | apply below_drew1) | exact HB.out)⟩⟩
  case round =>
   clear H'; (try clear p2); (try clear c3); (try clear c3b0); obtain ⟨x1_1, x5_1, rfl, rfl, HA, HK1, HB⟩ := hrel
   cases gk with
   | zero => exact absurd HA.out (by simp [laws_szPackedS.l0])
   | succ k1 =>
    have H := HA.out; clear HA; simp only [laws_szPackedS.l0] at H; by_cases c4 : x5_1 < (l0.length : Int)
    ·rw [if_pos c4] at H; have c4b0 : decide (x5_1 < (l0.length : Int)) = true := decide_eq_true c4; clear c4; by_cases c5 : 0 ≤ x5_1
     ·rw [if_pos c5] at H; have c5b0 : decide (0 ≤ x5_1) = true := decide_eq_true c5; clear c5; replace H := Option.bind_eq_some_iff.mp H; obtain ⟨t990, A60, H⟩ := H; replace H : (if t990 < 0 then (some (-1)) else (laws_szPackedS.l0 k1 l0 t990 (wrap64 (x5_1 + 1)))) = some r := H; have A6 := Aside0.mk A60; clear A60; by_cases c7 : t990 < 0
      ·rw [if_pos c7] at H; have c7b0 : decide (t990 < 0) = true := decide_eq_true c7; clear c7; obtain rfl := Option.some.inj H; have p989 : 0 ≤ (x5_1 : Int) := of_decide_eq_true (by assumption); have q989 : x5_1 < (l0.length : Int) := of_decide_eq_true (by assumption); obtain ⟨ad989, A989_1, c989_1, e989, hx989_0, hx989_1, hl989_1, hi989_1⟩ := at_T97 HR0.out x5_1 p989 q989; cases e989; replace hx989_0 := (HB.out.cell (World.block_lt_of_cell? w _ hx989_0)).trans hx989_0; replace hx989_1 := (HB.out.cell (World.block_lt_of_cell? w _ hx989_1)).trans hx989_1; have HR989_1 := Aside0.mk hi989_1; have HC989_1 := Aside0.mk hl989_1; clear hi989_1 hl989_1; replace p989 := eq_true p989; replace q989 := eq_true q989; go_wp2_with (first | ((with_reducible refine gate_callee (f := 95) rfl ?_); refine goesL_ (some 23) rfl rfl Try.func95 (by kernel_rfl) rfl #[.agg #[.int .i64 ((rd_T97 l0 x5_1).f0), .slice A989_1 ((rd_T97 l0 x5_1).f1).length c989_1], .int .i64 x1_1] rfl (by (try simp only [List.map_toArray, List.map_cons, List.map_nil]); first | done | rfl | (simp only [List.length_drop, List.length_take]; rfl)) ?_; (with_reducible refine (laws_szPacked.calls k1 ((rd_T97 l0 x5_1).f0) _ _ ((rd_T97 l0 x5_1).f1) x1_1 t990 _ ?side1 ?side2 A6.out).mono ?_); (case side1 => repeat (first | exact (Kd.C_below HR989_1.out HB.out) | (with_reducible refine Kd.C_alloc ?_ _) | (with_reducible refine Kd.C_drewN ?_ _) | (with_reducible refine Kd.C_drew ?_))); (case side2 => exact HC989_1.out); rintro e w8 ⟨rfl, hb⟩; refine ⟨_, rfl, ?_⟩; have n0_ := Aside0.mk (below_step (by repeat (first | (with_reducible first | exact HB.out | apply below_alloc | apply pw_below_drewN | apply below_drew1) | exact HB.out)) hb); clear HB; have HB := n0_; clear n0_; (try clear hb); (try clear hb2); (try clear hk); (try clear hi))); go_ret; exact ⟨by first | rfl | (simp <;> rfl) | (simp [*] <;> rfl), by repeat (first | (with_reducible first | exact HB.out | apply below_alloc | apply pw_below_drewN | apply below_drew1) | exact HB.out)⟩
      ·rw [if_neg c7] at H; have c7b0 : decide (t990 < 0) = false := decide_eq_false c7; clear c7; have H' := Aside0.mk H; clear H; have p989 : 0 ≤ (x5_1 : Int) := of_decide_eq_true (by assumption); have q989 : x5_1 < (l0.length : Int) := of_decide_eq_true (by assumption); obtain ⟨ad989, A989_1, c989_1, e989, hx989_0, hx989_1, hl989_1, hi989_1⟩ := at_T97 HR0.out x5_1 p989 q989; cases e989; replace hx989_0 := (HB.out.cell (World.block_lt_of_cell? w _ hx989_0)).trans hx989_0; replace hx989_1 := (HB.out.cell (World.block_lt_of_cell? w _ hx989_1)).trans hx989_1; have HR989_1 := Aside0.mk hi989_1; have HC989_1 := Aside0.mk hl989_1; clear hi989_1 hl989_1; replace p989 := eq_true p989; replace q989 := eq_true q989; go_wp2_with (first | ((with_reducible refine gate_callee (f := 95) rfl ?_); refine goesL_ (some 23) rfl rfl Try.func95 (by kernel_rfl) rfl #[.agg #[.int .i64 ((rd_T97 l0 x5_1).f0), .slice A989_1 ((rd_T97 l0 x5_1).f1).length c989_1], .int .i64 x1_1] rfl (by (try simp only [List.map_toArray, List.map_cons, List.map_nil]); first | done | rfl | (simp only [List.length_drop, List.length_take]; rfl)) ?_; (with_reducible refine (laws_szPacked.calls k1 ((rd_T97 l0 x5_1).f0) _ _ ((rd_T97 l0 x5_1).f1) x1_1 t990 _ ?side1 ?side2 A6.out).mono ?_); (case side1 => repeat (first | exact (Kd.C_below HR989_1.out HB.out) | (with_reducible refine Kd.C_alloc ?_ _) | (with_reducible refine Kd.C_drewN ?_ _) | (with_reducible refine Kd.C_drew ?_))); (case side2 => exact HC989_1.out); rintro e w9 ⟨rfl, hb⟩; refine ⟨_, rfl, ?_⟩; have n0_ := Aside0.mk (below_step (by repeat (first | (with_reducible first | exact HB.out | apply below_alloc | apply pw_below_drewN | apply below_drew1) | exact HB.out)) hb); clear HB; have HB := n0_; clear n0_; (try clear hb); (try clear hb2); (try clear hk); (try clear hi))); go_roundg k1
       case measure => have := HK1.out; omega
       case rel => exact ⟨(t990), (wrap64 (x5_1 + 1)), (by first | rfl | (simp; done) | (simp [*]; done)), (by first | rfl | (simp; done) | (simp [*]; done)), H', ⟨by have := HK1.out; omega⟩, ⟨by repeat (first | (with_reducible first | exact HB.out | apply below_alloc | apply pw_below_drewN | apply below_drew1) | exact HB.out)⟩⟩
     ·rw [if_neg c5] at H; exact absurd H (by simp)
    ·rw [if_neg c4] at H; have c4b0 : decide (x5_1 < (l0.length : Int)) = false := decide_eq_false c4; clear c4; obtain rfl := Option.some.inj H; go_wp2; go_ret; exact ⟨by first | rfl | (simp <;> rfl) | (simp [*] <;> rfl), by repeat (first | (with_reducible first | exact HB.out | apply below_alloc | apply pw_below_drewN | apply below_drew1) | exact HB.out)⟩
end Go.Proofs.Ytfnhjaiioojbkaa.Q
end
section
namespace Go.Proofs.Ytfnhjaiioojbkaa.Q
open Go.RowKit Go.Proofs.YtfnhjaiioojbkaaW.PrintWords
set_option linter.unusedVariables false
set_option linter.unusedSimpArgs false
abbrev Pq := S97
theorem rdPq {l : List Pq} {i : Nat} (h : i < l.length) : rd_T97 l (i : Int) = l[i] := by simp [rd_T97, List.getD_eq_getElem?_getD, h]
def BigP (l : List Pq) : Prop := l.length ≤ 9223372036854775807 ∧ ∀ x ∈ l, BigD x.f1
def SmP (l : List Pq) : Prop := l.length ≤ 1000000 ∧ ∀ x ∈ l, SmQ x.f1
theorem szP0_ev {l : List Pq} (h : BigP l) (hl : l.length ≤ 1000000) : ∀ (d i : Nat) (a : Int), l.length - i = d → i ≤ l.length → 0 ≤ a → a ≤ 1000000 →
    ∃ r, Ev (fun k => laws_szPackedS.l0 k l a i) r ∧ -1 ≤ r ∧ r ≤ 1000000 ∧ (0 ≤ r → ∀ j (hj : j < l.length), i ≤ j → SmQ l[j].f1)
  | 0, i, a, hd, hi, h0, h1 => by
    refine ⟨a, Ev.step' ?_, by omega, h1, fun _ j hj hij => absurd hj (by omega)⟩
    simp only [laws_szPackedS.l0]
    exact Ev.negf (by omega) (Ev.now _)
  | d + 1, i, a, hd, hi, h0, h1 => by
    have hi' : i < l.length := by omega
    obtain ⟨z, hz, z1, z2, z3⟩ := szD_ev (h.2 l[i] (List.getElem_mem hi')) h0 h1
    by_cases c : z < 0
    · refine ⟨-1, Ev.step' ?_, by omega, by omega, fun hr => absurd hr (by omega)⟩
      simp only [laws_szPackedS.l0, rdPq hi']
      refine Ev.posf (by omega) (Ev.posf (by omega) (Ev.bind (a := -1) ?_ (Ev.posf (by omega) (Ev.now _))))
      unfold laws_szPacked.f
      exact Ev.bind hz (Ev.posf c (Ev.now _))
    · obtain ⟨r, hr, r1, r2, r3⟩ := szP0_ev h hl d (i + 1) z (by omega) (by omega) (by omega) (by omega)
      refine ⟨r, Ev.step' ?_, r1, r2, fun h0r j hj hij => ?_⟩
      · simp only [laws_szPackedS.l0, rdPq hi', w64_succ i (by omega)]
        refine Ev.posf (by omega) (Ev.posf (by omega) (Ev.bind (a := z) ?_ (Ev.negf c hr)))
        unfold laws_szPacked.f
        exact Ev.bind hz (Ev.negf c (Ev.now _))
      · by_cases e : j = i
        · subst e; exact z3 (by omega)
        · exact r3 h0r j hj (by omega)
theorem szP_ev {l : List Pq} (h : BigP l) {a : Int} (h0 : 0 ≤ a) (h1 : a ≤ 1000000) : ∃ r, Ev (fun k => laws_szPackedS.f k l a) r ∧ -1 ≤ r ∧ r ≤ 1000000 ∧ (0 ≤ r → SmP l) := by
  have hb := h.1
  have hw : wrap64 (a - (l.length : Int)) = a - (l.length : Int) := w64 (by omega) (by omega)
  unfold laws_szPackedS.f
  by_cases c : a - (l.length : Int) < 0
  · exact ⟨-1, Ev.posf (by rw [hw]; exact c) (Ev.now _), by omega, by omega, fun hr => absurd hr (by omega)⟩
  · obtain ⟨r, hr, r1, r2, r3⟩ := szP0_ev h (by omega) _ 0 (a - (l.length : Int)) rfl (by omega) (by omega) (by omega)
    refine ⟨r, Ev.negf (by rw [hw]; exact c) (by rw [hw]; exact hr), r1, r2, fun h0r => ⟨by omega, fun x hx => ?_⟩⟩
    obtain ⟨j, hj, rfl⟩ := List.mem_iff_getElem.mp hx
    exact r3 h0r j hj (by omega)
theorem rdPk {l : List Pk} {i : Nat} (h : i < l.length) : rd_T53 l (i : Int) = l[i] := by simp [rd_T53, List.getD_eq_getElem?_getD, h]
theorem eqP0_refl (l : List Pk) (hl : l.length ≤ 100000000) (hx : ∀ x ∈ l, x.f1.length ≤ 100000000 ∧ ∀ y ∈ x.f1, y.f2.length ≤ 100000000) : ∀ (d i : Nat), l.length - i = d → i ≤ l.length → Ev (fun k => laws_eqPackedS.l0 k l l i) true
  | 0, i, hd, hi => by
    refine Ev.step' ?_
    simp only [laws_eqPackedS.l0]
    exact Ev.negf (by omega) (Ev.now _)
  | d + 1, i, hd, hi => by
    have hi' : i < l.length := by omega
    have h2 := hx _ (List.getElem_mem hi')
    refine Ev.step' ?_
    simp only [laws_eqPackedS.l0, w64_succ i (by omega), rdPk hi']
    refine Ev.posf (by omega) (Ev.posf (by omega) (Ev.posf (by omega) (Ev.bind (a := true) ?_ (Ev.posf rfl (eqP0_refl l hl hx d (i + 1) (by omega) (by omega))))))
    unfold laws_eqPacked.f
    exact Ev.posf rfl (Ev.bind (eqD_refl _ h2.1 h2.2) (Ev.posf rfl (Ev.now _)))
theorem eqP_refl (l : List Pk) (hl : l.length ≤ 100000000) (hx : ∀ x ∈ l, x.f1.length ≤ 100000000 ∧ ∀ y ∈ x.f1, y.f2.length ≤ 100000000) : Ev (fun k => laws_eqPackedS.f k l l) true := by
  unfold laws_eqPackedS.f
  exact Ev.posf rfl (eqP0_refl l hl hx _ 0 rfl (by omega))
section
variable {H : Type} {enc : TypeId × Value → H} {w : World} {base : Nat} {spare : Nat → Bool} {held : Bool}
set_option maxRecDepth 100000 in
theorem opens_P : Opens enc Try.prog w base spare held 97 k97 (fun x => BigD x.f1) := fun fuel cs x h => by
  obtain ⟨y0, y1, n, _, hl, h0, h1⟩ := Go.ChangeShapes.trod_struct2 Try.underlying97 h
  have hl3 : cs.length = 2 := hl.trans (by kernel_rfl)
  obtain ⟨c0, c1, rfl⟩ : ∃ c0 c1, cs = [c0, c1] := by match cs, hl3 with | [a, b], _ => exact ⟨a, b, rfl⟩
  obtain ⟨a0, k0, _⟩ := opens_int Try.underlying3 _ _ _ h0
  obtain ⟨a1, k1, g1⟩ := opens_DS _ _ _ h1
  exact ⟨⟨a0, a1⟩, ⟨[c0], [c1], rfl, k0, k1⟩, g1⟩
set_option maxRecDepth 100000 in
theorem opens_PS : Opens enc Try.prog w base spare held 61 (Kd.slice 97 k97) BigP :=
  opens_slice Try.underlying61 (by kernel_rfl) opens_P
end
def toPk (x : Pq) : Pk := ⟨x.f0, x.f1.map toP⟩
theorem fulPS_len (b : Bool) (l : List Pq) : (fulPS b l).2 = l.length := by
  unfold fulPS
  split
  case isTrue h => rw [h.2]; rfl
  case isFalse h => rfl
theorem fulPS_false (l : List Pq) : fulPS false l = (l.map (toPF false) ++ List.replicate (room l.length) fillPF, l.length) := by
  unfold fulPS
  rw [if_neg (fun h => by cases h.1)]
theorem fulPS_take (b : Bool) (l : List Pq) : ((fulPS b l).1.take (fulPS b l).2).map plP = l.map toPk := by
  have e : plP ∘ toPF b = toPk := by funext x; show (⟨x.f0, ((fulDS b x.f1).1.take (fulDS b x.f1).2).map plD⟩ : Pk) = ⟨x.f0, x.f1.map toP⟩; rw [fulDS_take]
  unfold fulPS
  split
  case isTrue h => rw [h.2]; rfl
  case isFalse h => simp [e]
theorem toPSp (A0 : Option Addr) (c0 : Nat) (l0 : List Pq) (b : Bool) (w : World) (hr0 : Kd.C k97 w A0 l0.length l0) (hq : SmP l0) (P : List Pk) (hP : l0.map toPk = P) :
    Calls Try.prog 51 #[.slice A0 l0.length c0, .bool b] w fun e w' => ∃ A c, e = .returned (.slice A P.length c) ∧ P.length ≤ c ∧ Kd.C k53 w' A P.length P ∧
      (b = false → Kd.C kPF w' A (fulPS false l0).1.length (fulPS false l0).1 ∧ (fulPS false l0).1.length ≤ c) ∧ Below w.heap.size w w' :=
  (toPS_calls A0 c0 l0 b w hr0 hq.1 hq.2).mono fun e w' ⟨A, c, he, hn, ho, hb⟩ => by
    subst hP
    obtain ⟨_, h1, h2⟩ := Kd.S_reads' ho
    have h3 := C_plP (Kd.C_take h2 hn)
    rw [fulPS_take] at h3
    have hl : (l0.map toPk).length = (fulPS b l0).2 := by rw [List.length_map, fulPS_len]
    refine ⟨A, c, by rw [hl]; exact he, by rw [hl]; omega, h3, fun hb0 => ?_, hb⟩
    subst hb0
    exact ⟨h2, h1⟩
theorem okP_eq (l : List Pq) (hq : SmP l) : PkS (l.map toPk) := ⟨by rw [List.length_map]; exact hq.1, fun x hx => by
  obtain ⟨y, hy, rfl⟩ := List.mem_map.mp hx
  exact okD_eq _ (hq.2 y hy)⟩
theorem fulD_false (l : List Dq) (hq : SmQ l) : FulN (fulDS false l).1.length (fulDS false l).2 ∧ FulD (fulDS false l).1 (fulDS false l).2 := by
  have e : (fulDS false l).2 = l.length := fulDS_len _ _
  rw [e]
  refine ⟨?_, fun i hi => rdDF_ful l hq i hi, spare_ev l hq⟩
  rw [fulDS_false]
  exact ⟨by simp, hq.1⟩
theorem rdPF_ful (l : List Pq) (hq : SmP l) (i : Nat) (hi : i < l.length) : FulN (rd_PF (fulPS false l).1 i).2.1.length (rd_PF (fulPS false l).1 i).2.2 ∧ FulD (rd_PF (fulPS false l).1 i).2.1 (rd_PF (fulPS false l).1 i).2.2 := by
  rw [fulPS_false]
  have e : rd_PF (l.map (toPF false) ++ List.replicate (room l.length) fillPF) (i : Int) = toPF false l[i] := by
    simp [rd_PF, List.getD_eq_getElem?_getD, List.getElem?_append_left, hi]
  rw [e]
  exact fulD_false _ (hq.2 _ (List.getElem_mem hi))
theorem spareP_ev (l : List Pq) (hq : SmP l) : ∃ K, laws_eqPackedS.f K (((fulPS false l).1.drop l.length).map plP) (((fulPS false l).1.drop l.length).map plP) = some true := by
  have e : (fulPS false l).1.drop l.length = List.replicate (room l.length) fillPF := by rw [fulPS_false]; simp
  rw [e]
  have := room_le l.length
  have h1 := hq.1
  obtain ⟨K, hK⟩ := eqP_refl ((List.replicate (room l.length) fillPF).map plP) (by simp; omega) (fun x hx => by
    obtain ⟨y, hy, rfl⟩ := List.mem_map.mp hx
    obtain rfl := List.eq_of_mem_replicate hy
    refine ⟨by decide, fun z hz => ?_⟩
    obtain rfl : z = plD fillDF := by simpa [plP, fillPF] using hz
    decide)
  exact ⟨K, hK K (Nat.le_refl _)⟩
end Go.Proofs.Ytfnhjaiioojbkaa.Q
end
section
namespace Go.Proofs.Ytfnhjaiioojbkaa.Q
open Go.RowKit Go.Proofs.YtfnhjaiioojbkaaW.PrintWords Go.Proofs.YtfnhjaiioojbkaaW.PrintLast Go.Proofs.YtfnhjaiioojbkaaW.PrintMore
attribute [local go_sem] max2_int min2_int max_two min_two max_three min_three max_four min_four
set_option linter.unusedVariables false
set_option linter.unusedSimpArgs false
set_option maxHeartbeats 8000000 in
set_option maxRecDepth 100000 in
theorem fnExactPackSize_walk (A0 : Option Addr) (c0 : Nat) (l0 : List Pq) (w : World) (hr0 : Kd.C k97 w A0 l0.length l0) (hc0 : l0.length ≤ c0) (hb : BigP l0) :
    Calls Try.prog 13 #[.slice A0 l0.length c0] w fun e w' => e = .returned (.bool true) ∧ Below w.heap.size w w' := by
  obtain ⟨z, ⟨kz, hz⟩, z1, z2, z3⟩ := szP_ev hb (a := 1000000) (by omega) (by omega)
  have HZ := Aside0.mk (hz kz (Nat.le_refl _))
  have HR0 := Aside0.mk hr0
  have HC0 := Aside0.mk hc0
  clear hz hr0 hc0 hb
  have HB := Aside0.mk (Below.refl w.heap.size w)
  by_cases c : z < 0
  · have cb : decide (z < 0) = true := decide_eq_true c
    clear c z1 z2 z3
    go_enter Try.func13, Try.ntmps13
    go_wp2_with (first | ((with_reducible refine gate_callee (f := 50) rfl ?_); refine goesL_ (some 10) rfl rfl Try.func50 (by kernel_rfl) rfl #[.slice A0 l0.length c0, .int .i64 1000000] rfl (by (try simp only [List.map_toArray, List.map_cons, List.map_nil]); first | done | rfl) ?_; (refine (laws_szPackedS.calls kz _ _ l0 1000000 z _ (by repeat (first | (with_reducible exact HR0.out) | (with_reducible refine Kd.C_alloc ?_ _) | (with_reducible refine Kd.C_drewN ?_ _) | (with_reducible refine Kd.C_drew ?_) | exact HR0.out)) HC0.out HZ.out).mono ?_); rintro e w1 ⟨rfl, hb⟩; refine ⟨_, rfl, ?_⟩; have nb_ := Aside0.mk (below_step (by repeat (first | (with_reducible first | exact HB.out | apply below_alloc | apply pw_below_drewN | apply below_drew1) | exact HB.out)) hb); have nHR0_ := Aside0.mk (Kd.C_below (by repeat (first | (with_reducible exact HR0.out) | (with_reducible refine Kd.C_alloc ?_ _) | (with_reducible refine Kd.C_drewN ?_ _) | (with_reducible refine Kd.C_drew ?_) | exact HR0.out)) hb); clear HB hb; have HB := nb_; clear nb_; clear HR0; have HR0 := nHR0_; clear nHR0_))
    go_ret
    exact ⟨rfl, HB.out⟩
  · have cb : decide (z < 0) = false := decide_eq_false c
    have hq := z3 (by omega)
    have HQ := Aside0.mk hq
    have hS := okP_eq l0 hq
    obtain ⟨P, hP⟩ : ∃ P, l0.map toPk = P := ⟨_, rfl⟩
    rw [hP] at hS
    have hlen : P.length = l0.length := by rw [← hP]; simp
    have HPe := Aside0.mk hP
    clear hP
    obtain ⟨k1, h1⟩ := specSizeAny_ev hS
    obtain ⟨k2, h2⟩ := implSizeAny_ev hS
    have H1 := Aside0.mk (h1 k1 (Nat.le_refl _))
    have H2 := Aside0.mk (h2 k2 (Nat.le_refl _))
    generalize sizeB P = b at H1 H2
    clear h1 h2 hS hq c z1 z2 z3
    have e1 : (b != b) = false := by simp
    have HN := Aside0.mk (show FulN (fulPS false l0).1.length P.length by
      rw [fulPS_false, hlen]
      exact ⟨by simp, HQ.out.1⟩)
    have HE := Aside0.mk (show ∀ i : Nat, i < P.length → FulN (rd_PF (fulPS false l0).1 i).2.1.length (rd_PF (fulPS false l0).1 i).2.2 ∧ FulD (rd_PF (fulPS false l0).1 i).2.1 (rd_PF (fulPS false l0).1 i).2.2 from fun i hi => rdPF_ful l0 HQ.out i (by rw [← hlen]; exact hi))
    have HP := Aside0.mk (show ∃ K, laws_eqPackedS.f K (((fulPS false l0).1.drop P.length).map plP) (((fulPS false l0).1.drop P.length).map plP) = some true by rw [hlen]; exact spareP_ev l0 HQ.out)
    clear hlen
    go_enter Try.func13, Try.ntmps13
    go_wp2_with (first | ((with_reducible refine gate_callee (f := 50) rfl ?_); refine goesL_ (some 10) rfl rfl Try.func50 (by kernel_rfl) rfl #[.slice A0 l0.length c0, .int .i64 1000000] rfl (by (try simp only [List.map_toArray, List.map_cons, List.map_nil]); first | done | rfl) ?_; (refine (laws_szPackedS.calls kz _ _ l0 1000000 z _ (by repeat (first | (with_reducible exact HR0.out) | (with_reducible refine Kd.C_alloc ?_ _) | (with_reducible refine Kd.C_drewN ?_ _) | (with_reducible refine Kd.C_drew ?_) | exact HR0.out)) HC0.out HZ.out).mono ?_); rintro e w1 ⟨rfl, hb⟩; refine ⟨_, rfl, ?_⟩; have nb_ := Aside0.mk (below_step (by repeat (first | (with_reducible first | exact HB.out | apply below_alloc | apply pw_below_drewN | apply below_drew1) | exact HB.out)) hb); have nHR0_ := Aside0.mk (Kd.C_below (by repeat (first | (with_reducible exact HR0.out) | (with_reducible refine Kd.C_alloc ?_ _) | (with_reducible refine Kd.C_drewN ?_ _) | (with_reducible refine Kd.C_drew ?_) | exact HR0.out)) hb); clear HB hb; have HB := nb_; clear nb_; clear HR0; have HR0 := nHR0_; clear nHR0_) | ((with_reducible refine gate_callee (f := 51) rfl ?_); refine goesL_ (some 14) rfl rfl Try.func51 (by kernel_rfl) rfl #[.slice A0 l0.length c0, .bool false] rfl (by (try simp only [List.map_toArray, List.map_cons, List.map_nil]); first | done | rfl) ?_; (refine (toPSp A0 c0 l0 false _ (by repeat (first | (with_reducible exact HR0.out) | (with_reducible refine Kd.C_alloc ?_ _) | (with_reducible refine Kd.C_drewN ?_ _) | (with_reducible refine Kd.C_drew ?_) | exact HR0.out)) HQ.out P HPe.out).mono ?_); rintro e w1 ⟨A1, c1, rfl, hl_, hc_, hf_, hb⟩; refine ⟨_, rfl, ?_⟩; have nb_ := Aside0.mk (below_step (by repeat (first | (with_reducible first | exact HB.out | apply below_alloc | apply pw_below_drewN | apply below_drew1) | exact HB.out)) hb); have nHR0_ := Aside0.mk (Kd.C_below (by repeat (first | (with_reducible exact HR0.out) | (with_reducible refine Kd.C_alloc ?_ _) | (with_reducible refine Kd.C_drewN ?_ _) | (with_reducible refine Kd.C_drew ?_) | exact HR0.out)) hb); have L1 := Aside0.mk hl_; have C1 := Aside0.mk hc_; have F1 := Aside0.mk (hf_ rfl).1; have G1 := Aside0.mk (hf_ rfl).2; clear HB hb; have HB := nb_; clear nb_; clear HR0; have HR0 := nHR0_; clear nHR0_) | ((with_reducible refine gate_callee (f := 45) rfl ?_); refine goesL_ (some 15) rfl rfl Try.func45 (by kernel_rfl) rfl #[.slice A1 P.length c1] rfl (by (try simp only [List.map_toArray, List.map_cons, List.map_nil]); first | done | rfl) ?_; (refine (spec_PackSize.calls k1 _ _ P b _ (by repeat (first | (with_reducible exact C1.out) | (with_reducible refine Kd.C_alloc ?_ _) | (with_reducible refine Kd.C_drewN ?_ _) | (with_reducible refine Kd.C_drew ?_) | exact C1.out)) L1.out H1.out).mono ?_); rintro e w1 ⟨rfl, hb⟩; refine ⟨_, rfl, ?_⟩; have nb_ := Aside0.mk (below_step (by repeat (first | (with_reducible first | exact HB.out | apply below_alloc | apply pw_below_drewN | apply below_drew1) | exact HB.out)) hb); have nHR0_ := Aside0.mk (Kd.C_below (by repeat (first | (with_reducible exact HR0.out) | (with_reducible refine Kd.C_alloc ?_ _) | (with_reducible refine Kd.C_drewN ?_ _) | (with_reducible refine Kd.C_drew ?_) | exact HR0.out)) hb); clear HB hb; have HB := nb_; clear nb_; clear HR0; have HR0 := nHR0_; clear nHR0_) | ((with_reducible refine gate_callee (f := 51) rfl ?_); refine goesL_ (some 17) rfl rfl Try.func51 (by kernel_rfl) rfl #[.slice A0 l0.length c0, .bool false] rfl (by (try simp only [List.map_toArray, List.map_cons, List.map_nil]); first | done | rfl) ?_; (refine (toPSp A0 c0 l0 false _ (by repeat (first | (with_reducible exact HR0.out) | (with_reducible refine Kd.C_alloc ?_ _) | (with_reducible refine Kd.C_drewN ?_ _) | (with_reducible refine Kd.C_drew ?_) | exact HR0.out)) HQ.out P HPe.out).mono ?_); rintro e w1 ⟨A2, c2, rfl, hl_, hc_, hf_, hb⟩; refine ⟨_, rfl, ?_⟩; have nb_ := Aside0.mk (below_step (by repeat (first | (with_reducible first | exact HB.out | apply below_alloc | apply pw_below_drewN | apply below_drew1) | exact HB.out)) hb); have nHR0_ := Aside0.mk (Kd.C_below (by repeat (first | (with_reducible exact HR0.out) | (with_reducible refine Kd.C_alloc ?_ _) | (with_reducible refine Kd.C_drewN ?_ _) | (with_reducible refine Kd.C_drew ?_) | exact HR0.out)) hb); have L2 := Aside0.mk hl_; have C2 := Aside0.mk hc_; have F2 := Aside0.mk (hf_ rfl).1; have G2 := Aside0.mk (hf_ rfl).2; clear HB hb; have HB := nb_; clear nb_; clear HR0; have HR0 := nHR0_; clear nHR0_) | ((with_reducible refine gate_callee (f := 44) rfl ?_); refine goesL_ (some 19) rfl rfl Try.func44 (by kernel_rfl) rfl #[.slice A2 P.length c2] rfl (by (try simp only [List.map_toArray, List.map_cons, List.map_nil]); first | done | rfl) ?_; (refine (impl_PackSize.calls k2 _ _ P b _ (by repeat (first | (with_reducible exact C2.out) | (with_reducible refine Kd.C_alloc ?_ _) | (with_reducible refine Kd.C_drewN ?_ _) | (with_reducible refine Kd.C_drew ?_) | exact C2.out)) L2.out H2.out).mono ?_); rintro e w1 ⟨rfl, hb⟩; refine ⟨_, rfl, ?_⟩; have nb_ := Aside0.mk (below_step (by repeat (first | (with_reducible first | exact HB.out | apply below_alloc | apply pw_below_drewN | apply below_drew1) | exact HB.out)) hb); have nHR0_ := Aside0.mk (Kd.C_below (by repeat (first | (with_reducible exact HR0.out) | (with_reducible refine Kd.C_alloc ?_ _) | (with_reducible refine Kd.C_drewN ?_ _) | (with_reducible refine Kd.C_drew ?_) | exact HR0.out)) hb); have nF2_ := Aside0.mk (Kd.C_below (by repeat (first | (with_reducible exact F2.out) | (with_reducible refine Kd.C_alloc ?_ _) | (with_reducible refine Kd.C_drewN ?_ _) | (with_reducible refine Kd.C_drew ?_) | exact F2.out)) hb); clear HB hb; have HB := nb_; clear nb_; clear HR0; have HR0 := nHR0_; clear nHR0_; clear F2; have F2 := nF2_; clear nF2_) | ((with_reducible refine gate_callee (f := 51) rfl ?_); refine goesL_ (some 25) rfl rfl Try.func51 (by kernel_rfl) rfl #[.slice A0 l0.length c0, .bool false] rfl (by (try simp only [List.map_toArray, List.map_cons, List.map_nil]); first | done | rfl) ?_; (refine (toPSp A0 c0 l0 false _ (by repeat (first | (with_reducible exact HR0.out) | (with_reducible refine Kd.C_alloc ?_ _) | (with_reducible refine Kd.C_drewN ?_ _) | (with_reducible refine Kd.C_drew ?_) | exact HR0.out)) HQ.out P HPe.out).mono ?_); rintro e w1 ⟨A3, c3, rfl, hl_, hc_, hf_, hb⟩; refine ⟨_, rfl, ?_⟩; have nb_ := Aside0.mk (below_step (by repeat (first | (with_reducible first | exact HB.out | apply below_alloc | apply pw_below_drewN | apply below_drew1) | exact HB.out)) hb); have nHR0_ := Aside0.mk (Kd.C_below (by repeat (first | (with_reducible exact HR0.out) | (with_reducible refine Kd.C_alloc ?_ _) | (with_reducible refine Kd.C_drewN ?_ _) | (with_reducible refine Kd.C_drew ?_) | exact HR0.out)) hb); have nF2_ := Aside0.mk (Kd.C_below (by repeat (first | (with_reducible exact F2.out) | (with_reducible refine Kd.C_alloc ?_ _) | (with_reducible refine Kd.C_drewN ?_ _) | (with_reducible refine Kd.C_drew ?_) | exact F2.out)) hb); have L3 := Aside0.mk hl_; have C3 := Aside0.mk hc_; have F3 := Aside0.mk (hf_ rfl).1; have G3 := Aside0.mk (hf_ rfl).2; clear HB hb; have HB := nb_; clear nb_; clear HR0; have HR0 := nHR0_; clear nHR0_; clear F2; have F2 := nF2_; clear nF2_) | ((with_reducible refine gate_callee (f := 52) rfl ?_); refine goesL_ (some 26) rfl rfl Try.func52 (by kernel_rfl) rfl #[.slice A2 P.length c2, .slice A3 P.length c3] rfl (by (try simp only [List.map_toArray, List.map_cons, List.map_nil]); first | done | rfl) ?_; (refine (intPS_calls A2 A3 c2 c3 (fulPS false l0).1 P.length _ (by repeat (first | (with_reducible exact F2.out) | (with_reducible refine Kd.C_alloc ?_ _) | (with_reducible refine Kd.C_drewN ?_ _) | (with_reducible refine Kd.C_drew ?_) | exact F2.out)) G2.out (by repeat (first | (with_reducible exact F3.out) | (with_reducible refine Kd.C_alloc ?_ _) | (with_reducible refine Kd.C_drewN ?_ _) | (with_reducible refine Kd.C_drew ?_) | exact F3.out)) G3.out HN.out HE.out HP.out).mono ?_); rintro e w1 ⟨rfl, hb⟩; refine ⟨_, rfl, ?_⟩; have nb_ := Aside0.mk (below_step (by repeat (first | (with_reducible first | exact HB.out | apply below_alloc | apply pw_below_drewN | apply below_drew1) | exact HB.out)) hb); have nHR0_ := Aside0.mk (Kd.C_below (by repeat (first | (with_reducible exact HR0.out) | (with_reducible refine Kd.C_alloc ?_ _) | (with_reducible refine Kd.C_drewN ?_ _) | (with_reducible refine Kd.C_drew ?_) | exact HR0.out)) hb); clear HB hb; have HB := nb_; clear nb_; clear HR0; have HR0 := nHR0_; clear nHR0_) | ((with_reducible refine gate_callee (f := 51) rfl ?_); refine goesL_ (some 29) rfl rfl Try.func51 (by kernel_rfl) rfl #[.slice A0 l0.length c0, .bool true] rfl (by (try simp only [List.map_toArray, List.map_cons, List.map_nil]); first | done | rfl) ?_; (refine (toPSp A0 c0 l0 true _ (by repeat (first | (with_reducible exact HR0.out) | (with_reducible refine Kd.C_alloc ?_ _) | (with_reducible refine Kd.C_drewN ?_ _) | (with_reducible refine Kd.C_drew ?_) | exact HR0.out)) HQ.out P HPe.out).mono ?_); rintro e w1 ⟨A4, c4, rfl, hl_, hc_, hf_, hb⟩; refine ⟨_, rfl, ?_⟩; have nb_ := Aside0.mk (below_step (by repeat (first | (with_reducible first | exact HB.out | apply below_alloc | apply pw_below_drewN | apply below_drew1) | exact HB.out)) hb); have nHR0_ := Aside0.mk (Kd.C_below (by repeat (first | (with_reducible exact HR0.out) | (with_reducible refine Kd.C_alloc ?_ _) | (with_reducible refine Kd.C_drewN ?_ _) | (with_reducible refine Kd.C_drew ?_) | exact HR0.out)) hb); have L4 := Aside0.mk hl_; have C4 := Aside0.mk hc_; clear HB hb; have HB := nb_; clear nb_; clear HR0; have HR0 := nHR0_; clear nHR0_) | ((with_reducible refine gate_callee (f := 44) rfl ?_); refine goesL_ (some 30) rfl rfl Try.func44 (by kernel_rfl) rfl #[.slice A4 P.length c4] rfl (by (try simp only [List.map_toArray, List.map_cons, List.map_nil]); first | done | rfl) ?_; (refine (impl_PackSize.calls k2 _ _ P b _ (by repeat (first | (with_reducible exact C4.out) | (with_reducible refine Kd.C_alloc ?_ _) | (with_reducible refine Kd.C_drewN ?_ _) | (with_reducible refine Kd.C_drew ?_) | exact C4.out)) L4.out H2.out).mono ?_); rintro e w1 ⟨rfl, hb⟩; refine ⟨_, rfl, ?_⟩; have nb_ := Aside0.mk (below_step (by repeat (first | (with_reducible first | exact HB.out | apply below_alloc | apply pw_below_drewN | apply below_drew1) | exact HB.out)) hb); have nHR0_ := Aside0.mk (Kd.C_below (by repeat (first | (with_reducible exact HR0.out) | (with_reducible refine Kd.C_alloc ?_ _) | (with_reducible refine Kd.C_drewN ?_ _) | (with_reducible refine Kd.C_drew ?_) | exact HR0.out)) hb); clear HB hb; have HB := nb_; clear nb_; clear HR0; have HR0 := nHR0_; clear nHR0_))
    go_ret
    exact ⟨rfl, HB.out⟩
end Go.Proofs.Ytfnhjaiioojbkaa.Q
end
section
/- FnExactPackSize: for every argument the law returns true, and its arguments read behind the call as they read before. No conditions. -/
namespace Go.Proofs.Ytfnhjaiioojbkaa.fnExactPackSize
open Go.ChangeShapes Go.WideShapes Go.ChangeAt Go.RowKit
set_option linter.unusedVariables false
theorem own : ownKnob Try.prog.godebug = none := by kernel_rfl
theorem laidOut : laidOutB Try.prog = true := by kernel_rfl
set_option maxRecDepth 100000 in
theorem lifted (os : Os) (started : os.Started) (H : Type) (enc : TypeId × Value → H) :
    ReturnsInHanded {} Try.checked os 13 .any (Rows.fnExactPackSizeSpec.pre6 enc Try.prog Try.f13 Rows.fnExactPackSizeRow.domain false) (Rows.fnExactPackSizeSpec.post enc Try.prog Try.f13 false true false false) := by
  refine returnsInHanded_of_change_sized (C := Try.checked) own started (by kernel_rfl) Try.func13
    (ChangeSpec.witness6 (enc := enc) (C := Try.checked) false ⟨#[], #[.slice none 0 0], []⟩ 13 (by kernel_rfl) (by kernel_rfl) (by kernel_rfl) (by kernel_rfl)) ?_
  intro W base args ds gs before hval0 hW hcnd hsz0 _
  have hval : ∀ (j : Nat) t v, Try.f13.params[j]? = some t → args[j]? = some v → Value.okWide Try.prog W .any base t v := hval0
  have hW' := hW
  obtain ⟨p, q, hA0, hV, rfl, hfz, hnd⟩ := hW
  have hA : DataW.TrodAll enc Try.prog W 0 (fun _ => true) true Try.f13.params.toList args.toList ds p := hA0
  rw [Try.params13] at hA hval
  obtain ⟨v0, vs0, d0, ds0, p0, q0, hargs, rfl, rfl, h0, r0⟩ := trodAll_cons hA
  obtain ⟨rfl, rfl, rfl⟩ := trodAll_nil r0
  obtain rfl : args = #[v0] := by cases args; simp_all
  obtain ⟨rfl, rfl⟩ := trodVars_none hV
  obtain ⟨a0, len0, cap0, rfl⟩ := okWide_slice Try.underlying61 (hval 0 61 v0 rfl rfl)
  have k0 := h0
  have lt0 : ∀ x ∈ p0, x.block < W.heap.size := by obtain ⟨m, hm⟩ := k0; exact DataW.trod_lt m _ _ _ hm
  obtain ⟨l0, e0, hc0, hr0, hb0⟩ := Q.opened Q.opens_PS h0
  subst e0
  clear hA0 hval0 hsz0
  refine (Q.fnExactPackSize_walk a0 cap0 l0 W hr0 hc0 hb0).mono fun e W' ⟨he, bel⟩ => ?_
  subst he
  exact ⟨_, rfl, _, _, _, [], _, [], hW', trodAll_mk1 (shut_bool Try.underlying4 _), (trodAll_cons_mk (Below.trod laidOut (by kernel_rfl) (of_decide_eq_true (by kernel_rfl)) k0 bel lt0) trodAll_mk0), rfl, bel.frame _, fun h => by cases h⟩
theorem over : Rows.fnExactPackSizeRow.holds Try.pinned (OpenSpec.ofChange Rows.fnExactPackSizeSpec) :=
  OpenClaim.holds_of_wide 13 Try.f13 rfl rfl rfl rfl rfl rfl rfl ⟨rfl, rfl, rfl, rfl, rfl⟩ rfl rfl rfl rfl rfl (by kernel_rfl) Try.func13 (by kernel_rfl)
    (of_decide_eq_true (by kernel_rfl)) (by unfold Func.isWrapper; first | (rw [if_pos (by decide +kernel)]; kernel_rfl) | (rw [if_neg (by decide +kernel)]; exact ⟨rfl, rfl⟩))
    (fun os started H enc _ => lifted os started H enc)
theorem proved : Rows.FnExactPackSizeSaid := over
#print axioms proved
end Go.Proofs.Ytfnhjaiioojbkaa.fnExactPackSize
namespace Go.Proofs.Ytfnhjaiioojbkaa
/-- The row, under a short name, for the claim. -/
theorem fnExactPackSize_holds : Rows.FnExactPackSizeSaid := fnExactPackSize.proved
end Go.Proofs.Ytfnhjaiioojbkaa
end
