/- FnExactPackGet: for every argument the law returns true, and its arguments read behind the call as they read before. No conditions. -/
import Derived.Shelf.Abstract
import Derived.Test.YtfnhjaiioojbkaaRows
import Derived.WalkKit
import Derived.ProofKit
import Derived.OpenShut
import Derived.ShutString
import Derived.ChangeOld
import Derived.Below
import Derived.SizedLaws
import Derived.Test.YtfnhjaiioojbkaaMExactPackGet0
import Derived.Test.YtfnhjaiioojbkaaMExactPackGet1
import Derived.Test.YtfnhjaiioojbkaaMExactPackGet2
import Derived.Test.YtfnhjaiioojbkaaMExactPackGet3
set_option linter.unusedVariables false
set_option linter.unusedSimpArgs false
section
namespace Go.Proofs.Ytfnhjaiioojbkaa.Q
open Go.RowKit Go.Proofs.YtfnhjaiioojbkaaW.PrintWords Go.Proofs.YtfnhjaiioojbkaaW.PrintLast Go.Proofs.YtfnhjaiioojbkaaW.PrintMore
attribute [local go_sem] max2_int min2_int max_two min_two max_three min_three max_four min_four   -- for this text's walks alone
set_option linter.unusedVariables false
set_option linter.unusedSimpArgs false
mutual
def spec_l13PackOk.l0 : Nat → List (S53) → Int → Option (Bool)
 | 0, _, _ => none
 | k + 1, x0, x3 => if x3 < (x0.length : Int) then (if 0 ≤ x3 then ((spec_l1In.f ((rd_T53 x0 x3).f0) (-1) (wrap64 (x3 - 1))).bind fun t819 => (if t819 = true then ((spec_l13Ok.f k ((rd_T53 x0 x3).f1)).bind fun t821 => (if t821 = true then (spec_l13PackOk.l0 k x0 (wrap64 (x3 + 1))) else (some false))) else (some false))) else (none)) else (spec_l13PackOk.l1 k x0 0)
def spec_l13PackOk.l1 : Nat → List (S53) → Int → Option (Bool)
 | 0, _, _ => none
 | k + 1, x0, x4 => if x4 < (x0.length : Int) then ((spec_l13Get.f k x0 x4).bind fun bt822 => (if bt822.2 = true then ((spec_l13Deep.f k x0 x4).bind fun t826 => (if t826 > 3 then (some false) else (spec_l13PackOk.l1 k x0 (wrap64 (x4 + 1))))) else (some false))) else (some (decide ((x0.length : Int) ≤ 12)))
end
def spec_l13PackOk.f (k : Nat) (l0 : List (S53)) : Option (Bool) := spec_l13PackOk.l0 k l0 0
set_option maxHeartbeats 8000000 in
set_option maxRecDepth 100000 in
theorem spec_l13PackOk.calls (k : Nat) (A0 : Option Addr) (c0 : Nat) (l0 : List (S53)) (r : Bool) (w : World) (hr0 : Kd.C k53 w A0 l0.length l0) (hc0 : l0.length ≤ c0) (h : spec_l13PackOk.f k l0 = some r) :
 Calls Try.prog 86 #[.slice A0 l0.length c0] w fun e w' => e = .returned (.bool r) ∧ Below w.heap.size w w' := by
 have HR0 := Aside0.mk hr0; have HC0 := Aside0.mk hc0; clear hr0 hc0; have HB := Aside0.mk (Below.refl w.heap.size w); have H : (spec_l13PackOk.l0 k l0 0) = some r := h; clear h; have H' := Aside0.mk H; clear H; go_enter Try.func86, Try.ntmps86; go_wp2; go_loopg [3] k (fun kq v3 w' => ∃ (x3_1 : Int), v3 = .int .i64 x3_1 ∧ Aside0 (spec_l13PackOk.l0 kq l0 x3_1 = some r) ∧ Aside0 (kq ≤ k) ∧ Aside0 (Below w.heap.size w w'))
 case atStart => exact ⟨(0), (by first | rfl | (simp; done) | (simp [*]; done)), H', ⟨Nat.le_refl _⟩, ⟨by repeat (first | (with_reducible first | exact HB.out | apply below_alloc | apply pw_below_drewN | apply below_drew1) | exact HB.out)⟩⟩
 case round =>
  clear H'; obtain ⟨x3_1, rfl, HA, HK1, HB⟩ := hrel
  cases gk with
  | zero => exact absurd HA.out (by simp [spec_l13PackOk.l0])
  | succ k1 =>
   have H := HA.out; clear HA; simp only [spec_l13PackOk.l0] at H; by_cases c2 : x3_1 < (l0.length : Int)
   ·rw [if_pos c2] at H; have c2b0 : decide (x3_1 < (l0.length : Int)) = true := decide_eq_true c2; clear c2; by_cases c3 : 0 ≤ x3_1
    ·rw [if_pos c3] at H; have c3b0 : decide (0 ≤ x3_1) = true := decide_eq_true c3; clear c3; replace H := Option.bind_eq_some_iff.mp H; obtain ⟨t819, A40, H⟩ := H; replace H : (if t819 = true then ((spec_l13Ok.f k1 ((rd_T53 l0 x3_1).f1)).bind fun t821 => (if t821 = true then (spec_l13PackOk.l0 k1 l0 (wrap64 (x3_1 + 1))) else (some false))) else (some false)) = some r := H; have A4 := Aside0.mk A40; clear A40; by_cases c5 : t819 = true
     ·subst c5; (have H1 : ((spec_l13Ok.f k1 ((rd_T53 l0 x3_1).f1)).bind fun t821 => (if t821 = true then (spec_l13PackOk.l0 k1 l0 (wrap64 (x3_1 + 1))) else (some false))) = some r := by rw [if_pos rfl] at H; exact H); clear H; have H := H1; clear H1; replace H := Option.bind_eq_some_iff.mp H; obtain ⟨t821, A60, H⟩ := H; replace H : (if t821 = true then (spec_l13PackOk.l0 k1 l0 (wrap64 (x3_1 + 1))) else (some false)) = some r := H; have A6 := Aside0.mk A60; clear A60; by_cases c7 : t821 = true
      ·subst c7; (have H1 : (spec_l13PackOk.l0 k1 l0 (wrap64 (x3_1 + 1))) = some r := by rw [if_pos rfl] at H; exact H); clear H; have H := H1; clear H1; have H' := Aside0.mk H; clear H; have p818 : 0 ≤ (x3_1 : Int) := of_decide_eq_true (by assumption); have q818 : x3_1 < (l0.length : Int) := of_decide_eq_true (by assumption); obtain ⟨ad818, A818_1, c818_1, e818, hx818_0, hx818_1, hl818_1, hi818_1⟩ := at_T53 HR0.out x3_1 p818 q818; cases e818; replace hx818_0 := (HB.out.cell (World.block_lt_of_cell? w _ hx818_0)).trans hx818_0; replace hx818_1 := (HB.out.cell (World.block_lt_of_cell? w _ hx818_1)).trans hx818_1; have HR818_1 := Aside0.mk hi818_1; have HC818_1 := Aside0.mk hl818_1; clear hi818_1 hl818_1; replace p818 := eq_true p818; replace q818 := eq_true q818; go_wp2_with (first | ((with_reducible refine gate_callee (f := 87) rfl ?_); refine goesL_ (some 20) rfl rfl Try.func87 (by kernel_rfl) rfl #[.int .i64 ((rd_T53 l0 x3_1).f0), .int .i64 (-1), .int .i64 (wrap64 (x3_1 - 1))] rfl (by (try simp only [List.map_toArray, List.map_cons, List.map_nil]); first | done | rfl | (simp only [List.length_drop, List.length_take]; rfl)) ?_; (with_reducible refine (spec_l1In.calls ((rd_T53 l0 x3_1).f0) (-1) (wrap64 (x3_1 - 1)) true _ A4.out).mono ?_); rintro e w' ⟨rfl, ⟨nd, rfl⟩⟩; refine ⟨_, rfl, ?_⟩; have p820 : 0 ≤ (x3_1 : Int) := of_decide_eq_true (by assumption); have q820 : x3_1 < (l0.length : Int) := of_decide_eq_true (by assumption); obtain ⟨ad820, A820_1, c820_1, e820, hx820_0, hx820_1, hl820_1, hi820_1⟩ := at_T53 HR0.out x3_1 p820 q820; obtain rfl : ad818 = ad820 := (by injection e820); replace hx820_0 := (HB.out.cell (World.block_lt_of_cell? w _ hx820_0)).trans hx820_0; replace hx820_1 := (HB.out.cell (World.block_lt_of_cell? w _ hx820_1)).trans hx820_1; have HR820_1 := Aside0.mk hi820_1; have HC820_1 := Aside0.mk hl820_1; clear hi820_1 hl820_1; replace p820 := eq_true p820; replace q820 := eq_true q820; have ea_ := Option.some.inj (hx818_1.symm.trans hx820_1); injection ea_ with ea_ en_ ec_; subst ea_; subst ec_; clear en_) | (go_at_call 61; (with_reducible refine (spec_l13Ok.calls k1 _ _ ((rd_T53 l0 x3_1).f1) true _ ?side1 ?side2 A6.out).mono ?_); (case side1 => repeat (first | exact (Kd.C_below HR820_1.out (by repeat (first | (with_reducible first | exact HB.out | apply below_alloc | apply pw_below_drewN | apply below_drew1) | exact HB.out))) | (with_reducible refine Kd.C_alloc ?_ _) | (with_reducible refine Kd.C_drewN ?_ _) | (with_reducible refine Kd.C_drew ?_))); (case side2 => exact HC820_1.out); rintro e w8 ⟨rfl, hb⟩; have n0_ := Aside0.mk (below_step (by repeat (first | (with_reducible first | exact HB.out | apply below_alloc | apply pw_below_drewN | apply below_drew1) | exact HB.out)) hb); clear HB; have HB := n0_; clear n0_; (try clear hb); (try clear hb2); (try clear hk); (try clear hi))); go_roundg k1
       case measure => have := HK1.out; omega
       case rel => exact ⟨(wrap64 (x3_1 + 1)), (by first | rfl | (simp; done) | (simp [*]; done)), H', ⟨by have := HK1.out; omega⟩, ⟨by repeat (first | (with_reducible first | exact HB.out | apply below_alloc | apply pw_below_drewN | apply below_drew1) | exact HB.out)⟩⟩
      ·replace c7 := Bool.eq_false_iff.mpr c7; subst c7; (have H1 : (some false) = some r := by rw [if_neg (show ¬ (false = true) by decide)] at H; exact H); clear H; have H := H1; clear H1; obtain rfl := Option.some.inj H; have p818 : 0 ≤ (x3_1 : Int) := of_decide_eq_true (by assumption); have q818 : x3_1 < (l0.length : Int) := of_decide_eq_true (by assumption); obtain ⟨ad818, A818_1, c818_1, e818, hx818_0, hx818_1, hl818_1, hi818_1⟩ := at_T53 HR0.out x3_1 p818 q818; cases e818; replace hx818_0 := (HB.out.cell (World.block_lt_of_cell? w _ hx818_0)).trans hx818_0; replace hx818_1 := (HB.out.cell (World.block_lt_of_cell? w _ hx818_1)).trans hx818_1; have HR818_1 := Aside0.mk hi818_1; have HC818_1 := Aside0.mk hl818_1; clear hi818_1 hl818_1; replace p818 := eq_true p818; replace q818 := eq_true q818; go_wp2_with (first | ((with_reducible refine gate_callee (f := 87) rfl ?_); refine goesL_ (some 20) rfl rfl Try.func87 (by kernel_rfl) rfl #[.int .i64 ((rd_T53 l0 x3_1).f0), .int .i64 (-1), .int .i64 (wrap64 (x3_1 - 1))] rfl (by (try simp only [List.map_toArray, List.map_cons, List.map_nil]); first | done | rfl | (simp only [List.length_drop, List.length_take]; rfl)) ?_; (with_reducible refine (spec_l1In.calls ((rd_T53 l0 x3_1).f0) (-1) (wrap64 (x3_1 - 1)) true _ A4.out).mono ?_); rintro e w' ⟨rfl, ⟨nd, rfl⟩⟩; refine ⟨_, rfl, ?_⟩; have p820 : 0 ≤ (x3_1 : Int) := of_decide_eq_true (by assumption); have q820 : x3_1 < (l0.length : Int) := of_decide_eq_true (by assumption); obtain ⟨ad820, A820_1, c820_1, e820, hx820_0, hx820_1, hl820_1, hi820_1⟩ := at_T53 HR0.out x3_1 p820 q820; obtain rfl : ad818 = ad820 := (by injection e820); replace hx820_0 := (HB.out.cell (World.block_lt_of_cell? w _ hx820_0)).trans hx820_0; replace hx820_1 := (HB.out.cell (World.block_lt_of_cell? w _ hx820_1)).trans hx820_1; have HR820_1 := Aside0.mk hi820_1; have HC820_1 := Aside0.mk hl820_1; clear hi820_1 hl820_1; replace p820 := eq_true p820; replace q820 := eq_true q820; have ea_ := Option.some.inj (hx818_1.symm.trans hx820_1); injection ea_ with ea_ en_ ec_; subst ea_; subst ec_; clear en_) | (go_at_call 61; (with_reducible refine (spec_l13Ok.calls k1 _ _ ((rd_T53 l0 x3_1).f1) false _ ?side1 ?side2 A6.out).mono ?_); (case side1 => repeat (first | exact (Kd.C_below HR820_1.out (by repeat (first | (with_reducible first | exact HB.out | apply below_alloc | apply pw_below_drewN | apply below_drew1) | exact HB.out))) | (with_reducible refine Kd.C_alloc ?_ _) | (with_reducible refine Kd.C_drewN ?_ _) | (with_reducible refine Kd.C_drew ?_))); (case side2 => exact HC820_1.out); rintro e w9 ⟨rfl, hb⟩; have n0_ := Aside0.mk (below_step (by repeat (first | (with_reducible first | exact HB.out | apply below_alloc | apply pw_below_drewN | apply below_drew1) | exact HB.out)) hb); clear HB; have HB := n0_; clear n0_; (try clear hb); (try clear hb2); (try clear hk); (try clear hi))); go_ret; exact ⟨by first | rfl | (simp <;> rfl) | (simp [*] <;> rfl), by repeat (first | (with_reducible first | exact HB.out | apply below_alloc | apply pw_below_drewN | apply below_drew1) | exact HB.out)⟩
     ·replace c5 := Bool.eq_false_iff.mpr c5; subst c5; (have H1 : (some false) = some r := by rw [if_neg (show ¬ (false = true) by decide)] at H; exact H); clear H; have H := H1; clear H1; obtain rfl := Option.some.inj H; have p818 : 0 ≤ (x3_1 : Int) := of_decide_eq_true (by assumption); have q818 : x3_1 < (l0.length : Int) := of_decide_eq_true (by assumption); obtain ⟨ad818, A818_1, c818_1, e818, hx818_0, hx818_1, hl818_1, hi818_1⟩ := at_T53 HR0.out x3_1 p818 q818; cases e818; replace hx818_0 := (HB.out.cell (World.block_lt_of_cell? w _ hx818_0)).trans hx818_0; replace hx818_1 := (HB.out.cell (World.block_lt_of_cell? w _ hx818_1)).trans hx818_1; have HR818_1 := Aside0.mk hi818_1; have HC818_1 := Aside0.mk hl818_1; clear hi818_1 hl818_1; replace p818 := eq_true p818; replace q818 := eq_true q818; go_wp2_with (first | ((with_reducible refine gate_callee (f := 87) rfl ?_); refine goesL_ (some 20) rfl rfl Try.func87 (by kernel_rfl) rfl #[.int .i64 ((rd_T53 l0 x3_1).f0), .int .i64 (-1), .int .i64 (wrap64 (x3_1 - 1))] rfl (by (try simp only [List.map_toArray, List.map_cons, List.map_nil]); first | done | rfl | (simp only [List.length_drop, List.length_take]; rfl)) ?_; (with_reducible refine (spec_l1In.calls ((rd_T53 l0 x3_1).f0) (-1) (wrap64 (x3_1 - 1)) false _ A4.out).mono ?_); rintro e w' ⟨rfl, ⟨nd, rfl⟩⟩; refine ⟨_, rfl, ?_⟩)); go_ret; exact ⟨by first | rfl | (simp <;> rfl) | (simp [*] <;> rfl), by repeat (first | (with_reducible first | exact HB.out | apply below_alloc | apply pw_below_drewN | apply below_drew1) | exact HB.out)⟩
    ·rw [if_neg c3] at H; exact absurd H (by simp)
   ·rw [if_neg c2] at H; have c2b0 : decide (x3_1 < (l0.length : Int)) = false := decide_eq_false c2; clear c2; have H' := Aside0.mk H; clear H; go_wp2; go_loopg [4] k1 (fun kq v4 w' => ∃ (x4_2 : Int), v4 = .int .i64 x4_2 ∧ Aside0 (spec_l13PackOk.l1 kq l0 x4_2 = some r) ∧ Aside0 (kq ≤ k1) ∧ Aside0 (Below w.heap.size w w'))
    case atStart => exact ⟨(0), (by first | rfl | (simp; done) | (simp [*]; done)), H', ⟨Nat.le_refl _⟩, ⟨by repeat (first | (with_reducible first | exact HB.out | apply below_alloc | apply pw_below_drewN | apply below_drew1) | exact HB.out)⟩⟩
    case round =>
     clear H'; (try clear c2); (try clear c2b0); (try clear p2); (try clear c3); (try clear c3b0); (try clear c5); (try clear p6); (try clear c7); (try clear c8); (try clear p8); (try clear q8); (try clear hx8); (try clear hx818_0); (try clear hx818_1); (try clear hx820_0); (try clear hx820_1); (try clear p818); (try clear p820); (try clear q818); (try clear q820); obtain ⟨x4_2, rfl, HA, HK2, HB⟩ := hrel
     cases gk with
     | zero => exact absurd HA.out (by simp [spec_l13PackOk.l1])
     | succ k2 =>
      have H := HA.out; clear HA; simp only [spec_l13PackOk.l1] at H; by_cases c10 : x4_2 < (l0.length : Int)
      ·rw [if_pos c10] at H; have c10b0 : decide (x4_2 < (l0.length : Int)) = true := decide_eq_true c10; clear c10; replace H := Option.bind_eq_some_iff.mp H; obtain ⟨⟨t822, t823⟩, A110, H⟩ := H; replace H : (if t823 = true then ((spec_l13Deep.f k2 l0 x4_2).bind fun t826 => (if t826 > 3 then (some false) else (spec_l13PackOk.l1 k2 l0 (wrap64 (x4_2 + 1))))) else (some false)) = some r := H; have A11 := Aside0.mk A110; clear A110; by_cases c12 : t823 = true
       ·subst c12; (have H1 : ((spec_l13Deep.f k2 l0 x4_2).bind fun t826 => (if t826 > 3 then (some false) else (spec_l13PackOk.l1 k2 l0 (wrap64 (x4_2 + 1))))) = some r := by rw [if_pos rfl] at H; exact H); clear H; have H := H1; clear H1; replace H := Option.bind_eq_some_iff.mp H; obtain ⟨t826, A130, H⟩ := H; replace H : (if t826 > 3 then (some false) else (spec_l13PackOk.l1 k2 l0 (wrap64 (x4_2 + 1)))) = some r := H; have A13 := Aside0.mk A130; clear A130; by_cases c14 : t826 > 3
        ·rw [if_pos c14] at H; have c14b0 : decide (3 < t826) = true := decide_eq_true c14; clear c14; obtain rfl := Option.some.inj H; go_wp2_with (first | ((with_reducible refine gate_callee (f := 88) rfl ?_); refine goesL_ (some 40) rfl rfl Try.func88 (by kernel_rfl) rfl #[.slice A0 l0.length c0, .int .i64 x4_2] rfl (by (try simp only [List.map_toArray, List.map_cons, List.map_nil]); first | done | rfl | (simp only [List.length_drop, List.length_take]; rfl)) ?_; (with_reducible refine (spec_l13Get.calls k2 _ _ l0 x4_2 t822 true _ ?side1 ?side2 A11.out).mono ?_); (case side1 => repeat (first | exact (Kd.C_below HR0.out HB.out) | (with_reducible refine Kd.C_alloc ?_ _) | (with_reducible refine Kd.C_drewN ?_ _) | (with_reducible refine Kd.C_drew ?_))); (case side2 => exact HC0.out); rintro e w15 ⟨v824, rfl, ho0, hb⟩; refine ⟨_, rfl, ?_⟩; have n0_ := Aside0.mk (Kd.R_lower ho0 (below_size (by repeat (first | (with_reducible first | exact HB.out | apply below_alloc | apply pw_below_drewN | apply below_drew1) | exact HB.out)))); have n1_ := Aside0.mk (below_step (by repeat (first | (with_reducible first | exact HB.out | apply below_alloc | apply pw_below_drewN | apply below_drew1) | exact HB.out)) hb); clear HB; have HO825 := n0_; have HB := n1_; clear n0_ n1_; (try clear hb); (try clear hb2); (try clear hk); (try clear hi); (try clear ho0)) | (go_at_call 94; (with_reducible refine (spec_l13Deep.calls k2 _ _ l0 x4_2 t826 _ ?side1 ?side2 A13.out).mono ?_); (case side1 => repeat (first | exact (Kd.C_below HR0.out HB.out) | (with_reducible refine Kd.C_alloc ?_ _) | (with_reducible refine Kd.C_drewN ?_ _) | (with_reducible refine Kd.C_drew ?_))); (case side2 => exact HC0.out); rintro e w' ⟨rfl, ⟨nd, rfl⟩⟩)); go_ret; exact ⟨by first | rfl | (simp <;> rfl) | (simp [*] <;> rfl), by repeat (first | (with_reducible first | exact HB.out | apply below_alloc | apply pw_below_drewN | apply below_drew1) | exact HB.out)⟩
        ·rw [if_neg c14] at H; have c14b0 : decide (3 < t826) = false := decide_eq_false c14; clear c14; have H' := Aside0.mk H; clear H; go_wp2_with (first | ((with_reducible refine gate_callee (f := 88) rfl ?_); refine goesL_ (some 40) rfl rfl Try.func88 (by kernel_rfl) rfl #[.slice A0 l0.length c0, .int .i64 x4_2] rfl (by (try simp only [List.map_toArray, List.map_cons, List.map_nil]); first | done | rfl | (simp only [List.length_drop, List.length_take]; rfl)) ?_; (with_reducible refine (spec_l13Get.calls k2 _ _ l0 x4_2 t822 true _ ?side1 ?side2 A11.out).mono ?_); (case side1 => repeat (first | exact (Kd.C_below HR0.out HB.out) | (with_reducible refine Kd.C_alloc ?_ _) | (with_reducible refine Kd.C_drewN ?_ _) | (with_reducible refine Kd.C_drew ?_))); (case side2 => exact HC0.out); rintro e w16 ⟨v824, rfl, ho0, hb⟩; refine ⟨_, rfl, ?_⟩; have n0_ := Aside0.mk (Kd.R_lower ho0 (below_size (by repeat (first | (with_reducible first | exact HB.out | apply below_alloc | apply pw_below_drewN | apply below_drew1) | exact HB.out)))); have n1_ := Aside0.mk (below_step (by repeat (first | (with_reducible first | exact HB.out | apply below_alloc | apply pw_below_drewN | apply below_drew1) | exact HB.out)) hb); clear HB; have HO825 := n0_; have HB := n1_; clear n0_ n1_; (try clear hb); (try clear hb2); (try clear hk); (try clear hi); (try clear ho0)) | (go_at_call 94; (with_reducible refine (spec_l13Deep.calls k2 _ _ l0 x4_2 t826 _ ?side1 ?side2 A13.out).mono ?_); (case side1 => repeat (first | exact (Kd.C_below HR0.out HB.out) | (with_reducible refine Kd.C_alloc ?_ _) | (with_reducible refine Kd.C_drewN ?_ _) | (with_reducible refine Kd.C_drew ?_))); (case side2 => exact HC0.out); rintro e w' ⟨rfl, ⟨nd, rfl⟩⟩)); go_roundg k2
         case measure => have := HK1.out; have := HK2.out; omega
         case rel => exact ⟨(wrap64 (x4_2 + 1)), (by first | rfl | (simp; done) | (simp [*]; done)), H', ⟨by have := HK1.out; have := HK2.out; omega⟩, ⟨by repeat (first | (with_reducible first | exact HB.out | apply below_alloc | apply pw_below_drewN | apply below_drew1) | exact HB.out)⟩⟩
       ·replace c12 := Bool.eq_false_iff.mpr c12; subst c12; (have H1 : (some false) = some r := by rw [if_neg (show ¬ (false = true) by decide)] at H; exact H); clear H; have H := H1; clear H1; obtain rfl := Option.some.inj H; go_wp2_with (first | ((with_reducible refine gate_callee (f := 88) rfl ?_); refine goesL_ (some 40) rfl rfl Try.func88 (by kernel_rfl) rfl #[.slice A0 l0.length c0, .int .i64 x4_2] rfl (by (try simp only [List.map_toArray, List.map_cons, List.map_nil]); first | done | rfl | (simp only [List.length_drop, List.length_take]; rfl)) ?_; (with_reducible refine (spec_l13Get.calls k2 _ _ l0 x4_2 t822 false _ ?side1 ?side2 A11.out).mono ?_); (case side1 => repeat (first | exact (Kd.C_below HR0.out HB.out) | (with_reducible refine Kd.C_alloc ?_ _) | (with_reducible refine Kd.C_drewN ?_ _) | (with_reducible refine Kd.C_drew ?_))); (case side2 => exact HC0.out); rintro e w17 ⟨v824, rfl, ho0, hb⟩; refine ⟨_, rfl, ?_⟩; have n0_ := Aside0.mk (Kd.R_lower ho0 (below_size (by repeat (first | (with_reducible first | exact HB.out | apply below_alloc | apply pw_below_drewN | apply below_drew1) | exact HB.out)))); have n1_ := Aside0.mk (below_step (by repeat (first | (with_reducible first | exact HB.out | apply below_alloc | apply pw_below_drewN | apply below_drew1) | exact HB.out)) hb); clear HB; have HO825 := n0_; have HB := n1_; clear n0_ n1_; (try clear hb); (try clear hb2); (try clear hk); (try clear hi); (try clear ho0))); go_ret; exact ⟨by first | rfl | (simp <;> rfl) | (simp [*] <;> rfl), by repeat (first | (with_reducible first | exact HB.out | apply below_alloc | apply pw_below_drewN | apply below_drew1) | exact HB.out)⟩
      ·rw [if_neg c10] at H; have c10b0 : decide (x4_2 < (l0.length : Int)) = false := decide_eq_false c10; clear c10; obtain rfl := Option.some.inj H; go_wp2; go_ret; exact ⟨by first | rfl | (simp <;> rfl) | (simp [*] <;> rfl), by repeat (first | (with_reducible first | exact HB.out | apply below_alloc | apply pw_below_drewN | apply below_drew1) | exact HB.out)⟩
end Go.Proofs.Ytfnhjaiioojbkaa.Q
end
section
namespace Go.Proofs.Ytfnhjaiioojbkaa.Q
open Go.RowKit Go.Proofs.YtfnhjaiioojbkaaW.PrintWords Go.Proofs.YtfnhjaiioojbkaaW.PrintLast Go.Proofs.YtfnhjaiioojbkaaW.PrintMore
attribute [local go_sem] max2_int min2_int max_two min_two max_three min_three max_four min_four   -- for this text's walks alone
set_option linter.unusedVariables false
set_option linter.unusedSimpArgs false
def spec_PackGet.f (k : Nat) (l0 : List (S53)) (a1 : Int) : Option (List ByteArray × Bool) := (spec_l13PackOk.f k l0).bind fun t827 => (if t827 = true then ((spec_l1In.f a1 0 (wrap64 ((l0.length : Int) - 1))).bind fun t828 => (if t828 = true then ((spec_l13Get.f k l0 a1).bind fun bt829 => (some (bt829.1, bt829.2))) else (some (([] : List ByteArray), false)))) else (some (([] : List ByteArray), false)))
set_option maxHeartbeats 8000000 in
set_option maxRecDepth 100000 in
theorem spec_PackGet.calls (k : Nat) (A0 : Option Addr) (c0 : Nat) (l0 : List (S53)) (a1 : Int) (r1 : List ByteArray) (r2 : Bool) (w : World) (hr0 : Kd.C k53 w A0 l0.length l0) (hc0 : l0.length ≤ c0) (h : spec_PackGet.f k l0 a1 = some (r1, r2)) :
 Calls Try.prog 40 #[.slice A0 l0.length c0, .int .i64 a1] w fun e w' => ∃ v0_ : Value, e = .returned (.tuple #[v0_, .bool r2]) ∧ Kd.R Kd.string 9 w' w.heap.size (fun _ => True) v0_ r1 ∧ Below w.heap.size w w' := by
 have HR0 := Aside0.mk hr0; have HC0 := Aside0.mk hc0; clear hr0 hc0; have HB := Aside0.mk (Below.refl w.heap.size w); have H : ((spec_l13PackOk.f k l0).bind fun t827 => (if t827 = true then ((spec_l1In.f a1 0 (wrap64 ((l0.length : Int) - 1))).bind fun t828 => (if t828 = true then ((spec_l13Get.f k l0 a1).bind fun bt829 => (some (bt829.1, bt829.2))) else (some (([] : List ByteArray), false)))) else (some (([] : List ByteArray), false)))) = some (r1, r2) := h; clear h; replace H := Option.bind_eq_some_iff.mp H; obtain ⟨t827, A30, H⟩ := H; replace H : (if t827 = true then ((spec_l1In.f a1 0 (wrap64 ((l0.length : Int) - 1))).bind fun t828 => (if t828 = true then ((spec_l13Get.f k l0 a1).bind fun bt829 => (some (bt829.1, bt829.2))) else (some (([] : List ByteArray), false)))) else (some (([] : List ByteArray), false))) = some (r1, r2) := H; have A3 := Aside0.mk A30; clear A30; by_cases c4 : t827 = true
 ·subst c4; (have H1 : ((spec_l1In.f a1 0 (wrap64 ((l0.length : Int) - 1))).bind fun t828 => (if t828 = true then ((spec_l13Get.f k l0 a1).bind fun bt829 => (some (bt829.1, bt829.2))) else (some (([] : List ByteArray), false)))) = some (r1, r2) := by rw [if_pos rfl] at H; exact H); clear H; have H := H1; clear H1; replace H := Option.bind_eq_some_iff.mp H; obtain ⟨t828, A50, H⟩ := H; replace H : (if t828 = true then ((spec_l13Get.f k l0 a1).bind fun bt829 => (some (bt829.1, bt829.2))) else (some (([] : List ByteArray), false))) = some (r1, r2) := H; have A5 := Aside0.mk A50; clear A50; by_cases c6 : t828 = true
  ·subst c6; (have H1 : ((spec_l13Get.f k l0 a1).bind fun bt829 => (some (bt829.1, bt829.2))) = some (r1, r2) := by rw [if_pos rfl] at H; exact H); clear H; have H := H1; clear H1; replace H := Option.bind_eq_some_iff.mp H; obtain ⟨⟨t829, t830⟩, A70, H⟩ := H; replace H : (some (t829, t830)) = some (r1, r2) := H; have A7 := Aside0.mk A70; clear A70; simp only [Option.some.injEq, Prod.mk.injEq] at H; obtain ⟨rfl, rfl⟩ := H; go_enter Try.func40, Try.ntmps40; go_wp2_with (first | ((with_reducible refine gate_callee (f := 86) rfl ?_); refine goesL_ (some 7) rfl rfl Try.func86 (by kernel_rfl) rfl #[.slice A0 l0.length c0] rfl (by (try simp only [List.map_toArray, List.map_cons, List.map_nil]); first | done | rfl | (simp only [List.length_drop, List.length_take]; rfl)) ?_; (with_reducible refine (spec_l13PackOk.calls k _ _ l0 true _ ?side1 ?side2 A3.out).mono ?_); (case side1 => repeat (first | exact HR0.out | (with_reducible refine Kd.C_alloc ?_ _) | (with_reducible refine Kd.C_drewN ?_ _) | (with_reducible refine Kd.C_drew ?_))); (case side2 => exact HC0.out); rintro e w8 ⟨rfl, hb⟩; refine ⟨_, rfl, ?_⟩; have n0_ := Aside0.mk (below_step (by repeat (first | (with_reducible first | exact HB.out | apply below_alloc | apply pw_below_drewN | apply below_drew1) | exact HB.out)) hb); clear HB; have HB := n0_; clear n0_; (try clear hb); (try clear hb2); (try clear hk); (try clear hi)) | (go_at_call 87; (with_reducible refine (spec_l1In.calls a1 0 (wrap64 ((l0.length : Int) - 1)) true _ A5.out).mono ?_); rintro e w' ⟨rfl, ⟨nd, rfl⟩⟩) | ((with_reducible refine gate_callee (f := 88) rfl ?_); refine goesL_ (some 19) rfl rfl Try.func88 (by kernel_rfl) rfl #[.slice A0 l0.length c0, .int .i64 a1] rfl (by (try simp only [List.map_toArray, List.map_cons, List.map_nil]); first | done | rfl | (simp only [List.length_drop, List.length_take]; rfl)) ?_; (with_reducible refine (spec_l13Get.calls k _ _ l0 a1 t829 t830 _ ?side1 ?side2 A7.out).mono ?_); (case side1 => repeat (first | exact (Kd.C_below HR0.out (by repeat (first | (with_reducible first | exact HB.out | apply below_alloc | apply pw_below_drewN | apply below_drew1) | exact HB.out))) | (with_reducible refine Kd.C_alloc ?_ _) | (with_reducible refine Kd.C_drewN ?_ _) | (with_reducible refine Kd.C_drew ?_))); (case side2 => exact HC0.out); rintro e w9 ⟨v831, rfl, ho0, hb⟩; refine ⟨_, rfl, ?_⟩; have n0_ := Aside0.mk (Kd.R_lower ho0 (below_size (by repeat (first | (with_reducible first | exact HB.out | apply below_alloc | apply pw_below_drewN | apply below_drew1) | exact HB.out)))); have n1_ := Aside0.mk (below_step (by repeat (first | (with_reducible first | exact HB.out | apply below_alloc | apply pw_below_drewN | apply below_drew1) | exact HB.out)) hb); clear HB; have HO832 := n0_; have HB := n1_; clear n0_ n1_; (try clear hb); (try clear hb2); (try clear hk); (try clear hi); (try clear ho0))); go_ret2; exact ⟨_, by first | rfl | (simp <;> rfl) | (simp [*] <;> rfl), by (with_reducible repeat (first | apply Kd.R_alloc | apply Kd.R_drewN | apply Kd.R_drew)); exact HO832.out, by repeat (first | (with_reducible first | exact HB.out | apply below_alloc | apply pw_below_drewN | apply below_drew1) | exact HB.out)⟩
  ·replace c6 := Bool.eq_false_iff.mpr c6; subst c6; (have H1 : (some (([] : List ByteArray), false)) = some (r1, r2) := by rw [if_neg (show ¬ (false = true) by decide)] at H; exact H); clear H; have H := H1; clear H1; simp only [Option.some.injEq, Prod.mk.injEq] at H; obtain ⟨rfl, rfl⟩ := H; go_enter Try.func40, Try.ntmps40; go_wp2_with (first | ((with_reducible refine gate_callee (f := 86) rfl ?_); refine goesL_ (some 7) rfl rfl Try.func86 (by kernel_rfl) rfl #[.slice A0 l0.length c0] rfl (by (try simp only [List.map_toArray, List.map_cons, List.map_nil]); first | done | rfl | (simp only [List.length_drop, List.length_take]; rfl)) ?_; (with_reducible refine (spec_l13PackOk.calls k _ _ l0 true _ ?side1 ?side2 A3.out).mono ?_); (case side1 => repeat (first | exact HR0.out | (with_reducible refine Kd.C_alloc ?_ _) | (with_reducible refine Kd.C_drewN ?_ _) | (with_reducible refine Kd.C_drew ?_))); (case side2 => exact HC0.out); rintro e w10 ⟨rfl, hb⟩; refine ⟨_, rfl, ?_⟩; have n0_ := Aside0.mk (below_step (by repeat (first | (with_reducible first | exact HB.out | apply below_alloc | apply pw_below_drewN | apply below_drew1) | exact HB.out)) hb); clear HB; have HB := n0_; clear n0_; (try clear hb); (try clear hb2); (try clear hk); (try clear hi)) | (go_at_call 87; (with_reducible refine (spec_l1In.calls a1 0 (wrap64 ((l0.length : Int) - 1)) false _ A5.out).mono ?_); rintro e w' ⟨rfl, ⟨nd, rfl⟩⟩)); go_ret2; exact ⟨_, by first | rfl | (simp <;> rfl) | (simp [*] <;> rfl), by first | exact Kd.R_nil _ _ _ _ _ | exact Kd.N_nil _ _ _ _ _ | exact Kd.V_nil _ _ _ _ _ | exact Kd.Q_nil _ _ _ _ _ | exact Kd.S_nil _ _ _ _ _, by repeat (first | (with_reducible first | exact HB.out | apply below_alloc | apply pw_below_drewN | apply below_drew1) | exact HB.out)⟩
 ·replace c4 := Bool.eq_false_iff.mpr c4; subst c4; (have H1 : (some (([] : List ByteArray), false)) = some (r1, r2) := by rw [if_neg (show ¬ (false = true) by decide)] at H; exact H); clear H; have H := H1; clear H1; simp only [Option.some.injEq, Prod.mk.injEq] at H; obtain ⟨rfl, rfl⟩ := H; go_enter Try.func40, Try.ntmps40; go_wp2_with (first | ((with_reducible refine gate_callee (f := 86) rfl ?_); refine goesL_ (some 7) rfl rfl Try.func86 (by kernel_rfl) rfl #[.slice A0 l0.length c0] rfl (by (try simp only [List.map_toArray, List.map_cons, List.map_nil]); first | done | rfl | (simp only [List.length_drop, List.length_take]; rfl)) ?_; (with_reducible refine (spec_l13PackOk.calls k _ _ l0 false _ ?side1 ?side2 A3.out).mono ?_); (case side1 => repeat (first | exact HR0.out | (with_reducible refine Kd.C_alloc ?_ _) | (with_reducible refine Kd.C_drewN ?_ _) | (with_reducible refine Kd.C_drew ?_))); (case side2 => exact HC0.out); rintro e w11 ⟨rfl, hb⟩; refine ⟨_, rfl, ?_⟩; have n0_ := Aside0.mk (below_step (by repeat (first | (with_reducible first | exact HB.out | apply below_alloc | apply pw_below_drewN | apply below_drew1) | exact HB.out)) hb); clear HB; have HB := n0_; clear n0_; (try clear hb); (try clear hb2); (try clear hk); (try clear hi))); go_ret2; exact ⟨_, by first | rfl | (simp <;> rfl) | (simp [*] <;> rfl), by first | exact Kd.R_nil _ _ _ _ _ | exact Kd.N_nil _ _ _ _ _ | exact Kd.V_nil _ _ _ _ _ | exact Kd.Q_nil _ _ _ _ _ | exact Kd.S_nil _ _ _ _ _, by repeat (first | (with_reducible first | exact HB.out | apply below_alloc | apply pw_below_drewN | apply below_drew1) | exact HB.out)⟩
end Go.Proofs.Ytfnhjaiioojbkaa.Q
end
section
namespace Go.Proofs.Ytfnhjaiioojbkaa.Q
open Go.RowKit Go.Proofs.YtfnhjaiioojbkaaW.PrintWords
set_option linter.unusedVariables false
set_option linter.unusedSimpArgs false
def PkS (P : List Pk) : Prop := P.length ≤ 1000000 ∧ ∀ p ∈ P, SmD p.f1
theorem PkS.get {P : List Pk} (h : PkS P) {j : Nat} (hj : j < P.length) : SmD (pkAt P j).f1 := by
  have e : pkAt P j = P[j] := by simp [pkAt, List.getD_eq_getElem?_getD, hj]
  rw [e]
  exact h.2 _ (List.getElem_mem hj)
theorem txAt_old {l : List Tx} {j : Nat} (x : Tx) (h : j < l.length) : txAt (l ++ [x]) j = txAt l j := by
  simp [txAt, List.getD_eq_getElem?_getD, List.getElem?_append_left h]
theorem txAt_new (l : List Tx) (x : Tx) : txAt (l ++ [x]) l.length = x := by simp [txAt]
abbrev Un := List Tx × List Int
def bs (q : Un) (p : Pk) : Tx := if 0 ≤ p.f0 then txAt q.1 p.f0.toNat else []
def stepU (P : List Pk) (i : Nat) (q : Un) : Option Un :=
  if i < 12 ∧ -1 ≤ (pkAt P i).f0 ∧ (pkAt P i).f0 < (i : Int) ∧ (doB (bs q (pkAt P i)) (pkAt P i).f1).2 = true ∧ dep q.2 (pkAt P i).f0 ≤ 3 then some (q.1 ++ [(doB (bs q (pkAt P i)) (pkAt P i).f1).1], q.2 ++ [dep q.2 (pkAt P i).f0]) else none
def unG (P : List Pk) : Nat → Option Un
  | 0 => some ([], [])
  | i + 1 => (unG P i).bind (stepU P i)
theorem unG_none {P : List Pk} {i : Nat} (h : unG P i = none) : ∀ d, unG P (i + d) = none
  | 0 => h
  | d + 1 => by rw [← Nat.add_assoc, unG, unG_none h d]; rfl
def resU : Option Un → List Tx × List Int × Bool
  | some q => (q.1, q.2, true)
  | none => ([], [], false)
/-- What is known of a pack's first i texts. -/
def GU (P : List Pk) (q : Un) (i : Nat) : Prop := i ≤ 12 ∧ q.1.length = i ∧ q.2.length = i ∧ ∀ j, j < i → textB (txAt q.1 j) = true ∧ 1 ≤ dpAt q.2 j ∧ dpAt q.2 j ≤ 3 ∧ -1 ≤ (pkAt P j).f0 ∧ (pkAt P j).f0 < (j : Int) ∧
  doB (bs q (pkAt P j)) (pkAt P j).f1 = (txAt q.1 j, true) ∧ dpAt q.2 j = dep q.2 (pkAt P j).f0
theorem bs_app {q : Un} {p : Pk} (t : Tx) (n : Int) (h : p.f0 < (q.1.length : Int)) : bs (q.1 ++ [t], q.2 ++ [n]) p = bs q p := by
  unfold bs
  split
  · exact txAt_old _ (by omega)
  · rfl
theorem dep_app {D : List Int} {b : Int} (n : Int) (h : b < (D.length : Int)) : dep (D ++ [n]) b = dep D b := by
  unfold dep
  split
  · rw [dpAt_old _ (by omega)]
  · rfl
theorem dep_pos {D : List Int} {b : Int} (h : ∀ j, j < D.length → 1 ≤ dpAt D j) (hb : b < (D.length : Int)) : 1 ≤ dep D b := by
  unfold dep
  split
  · have := h b.toNat (by omega); omega
  · omega
theorem unG_good {P : List Pk} : ∀ (i : Nat) (q : Un), unG P i = some q → GU P q i
  | 0, q, h => by
    obtain rfl := Option.some.inj h
    exact ⟨by omega, rfl, rfl, fun j hj => absurd hj (by omega)⟩
  | i + 1, q, h => by
    obtain ⟨q0, h0, h1⟩ := Option.bind_eq_some_iff.mp h
    obtain ⟨_, l1, l2, g⟩ := unG_good i q0 h0
    unfold stepU at h1
    split at h1
    case isFalse => cases h1
    case isTrue c =>
      obtain ⟨c1, c2, c3, c4, c5⟩ := c
      obtain rfl := Option.some.inj h1
      have hd := dep_pos (D := q0.2) (b := (pkAt P i).f0) (fun j hj => (g j (by omega)).2.1) (by omega)
      refine ⟨by omega, by simp [l1], by simp [l2], fun j hj => ?_⟩
      by_cases e : j = i
      · subst e
        have e1 : txAt (q0.1 ++ [(doB (bs q0 (pkAt P j)) (pkAt P j).f1).1]) j = (doB (bs q0 (pkAt P j)) (pkAt P j).f1).1 := by
          have := txAt_new q0.1 (doB (bs q0 (pkAt P j)) (pkAt P j).f1).1
          rw [l1] at this; exact this
        have e2 : dpAt (q0.2 ++ [dep q0.2 (pkAt P j).f0]) j = dep q0.2 (pkAt P j).f0 := by
          have := dpAt_new q0.2 (dep q0.2 (pkAt P j).f0)
          rw [l2] at this; exact this
        simp only [e1, e2]
        rw [bs_app _ _ (by omega), dep_app _ (by omega)]
        exact ⟨(doB_true c4).2.2.2, hd, c5, c2, c3, Prod.ext rfl c4, rfl⟩
      · have hj' : j < i := by omega
        obtain ⟨g1, g2, g3, g4, g5, g6, g7⟩ := g j hj'
        simp only [txAt_old _ (show j < q0.1.length by omega), dpAt_old _ (show j < q0.2.length by omega)]
        rw [bs_app _ _ (by omega), dep_app _ (by omega)]
        exact ⟨g1, g2, g3, g4, g5, g6, g7⟩
theorem unpackAny0_ev {P : List Pk} (hs : PkS P) : ∀ (d i : Nat) (q : Un), P.length - i = d → i ≤ P.length → unG P i = some q →
    Ev (fun k => impl_unpacked.l0 k q.1 q.2 P (P.length : Int) i) (resU (unG P P.length))
  | 0, i, q, hd, hi, hq => by
    obtain rfl : i = P.length := by omega
    refine Ev.step' ?_
    simp only [impl_unpacked.l0]
    exact Ev.negf (by omega) (EvT (Ev.now _) (by rw [hq]; rfl))
  | d + 1, i, q, hd, hi, hq => by
    have hi' : i < P.length := by omega
    obtain ⟨i12, l1, l2, g⟩ := unG_good i q hq
    have hS := hs.get hi'
    have hP := hs.1
    have bad : ∀ b : Bool, b = true → unG P (i + 1) = none → Ev (fun k => impl_unpacked.j1 k q.1 q.2 P (P.length : Int) i b (pkAt P i).f0 (pkAt P i).f1) (resU (unG P P.length)) := fun b hb hn => by
      subst hb
      have := unG_none hn (P.length - (i + 1))
      rw [show i + 1 + (P.length - (i + 1)) = P.length by omega] at this
      rw [this]
      refine Ev.step' ?_
      simp only [impl_unpacked.j1]
      exact Ev.posf trivial (Ev.now _)
    have e1 : unG P (i + 1) = stepU P i q := by rw [unG, hq]; rfl
    refine Ev.step' ?_
    simp only [impl_unpacked.l0, rd_pk]
    refine Ev.posf (by omega) (Ev.posf (by omega) (Ev.posf (by omega) (Ev.ite (fun c => bad _ rfl ?_) (fun c => ?_))))
    · rw [e1, stepU, if_neg (by omega)]
    · simp only [within_eq, w64 (x := (i : Int) - 1) (by omega) (by omega)]
      refine Ev.somef ?_
      by_cases hw : -1 ≤ (pkAt P i).f0 ∧ (pkAt P i).f0 ≤ (i : Int) - 1
      · have hd0 := dep_pos (D := q.2) (b := (pkAt P i).f0) (fun j hj => (g j (by omega)).2.1) (by omega)
        have hb : (!(decide (-1 ≤ (pkAt P i).f0) && decide ((pkAt P i).f0 ≤ (i : Int) - 1))) = false := by simp [hw.1, hw.2]
        have hbad : (doB (bs q (pkAt P i)) (pkAt P i).f1).2 ≠ true → resU (unG P P.length) = ([], [], false) := fun hn => by
          have hn2 : unG P (i + 1) = none := by rw [e1, stepU, if_neg (fun h => hn h.2.2.2.1)]
          have := unG_none hn2 (P.length - (i + 1))
          rw [show i + 1 + (P.length - (i + 1)) = P.length by omega] at this
          rw [this]; rfl
        have hdeep : ¬ dep q.2 (pkAt P i).f0 ≤ 3 → resU (unG P P.length) = ([], [], false) := fun hn => by
          have hn2 : unG P (i + 1) = none := by rw [e1, stepU, if_neg (fun h => hn h.2.2.2.2)]
          have := unG_none hn2 (P.length - (i + 1))
          rw [show i + 1 + (P.length - (i + 1)) = P.length by omega] at this
          rw [this]; rfl
        have hgood : (doB (bs q (pkAt P i)) (pkAt P i).f1).2 = true → dep q.2 (pkAt P i).f0 ≤ 3 → Ev (fun k => impl_unpacked.l0 k (q.1 ++ [(doB (bs q (pkAt P i)) (pkAt P i).f1).1]) (q.2 ++ [dep q.2 (pkAt P i).f0]) P (P.length : Int) (wrap64 ((i : Int) + 1))) (resU (unG P P.length)) := fun h1 h2 => by
          rw [w64_succ i (by omega)]
          exact unpackAny0_ev hs d (i + 1) (q.1 ++ [(doB (bs q (pkAt P i)) (pkAt P i).f1).1], q.2 ++ [dep q.2 (pkAt P i).f0]) (by omega) (by omega) (by rw [e1, stepU, if_pos ⟨by omega, hw.1, by omega, h1, h2⟩])
        simp only [hb]
        refine Ev.step' ?_
        simp only [impl_unpacked.j1]
        refine Ev.negf (by decide) (Ev.ite (fun c0 => ?_) (fun c0 => ?_))
        · obtain ⟨b, hbq⟩ := toNat_of c0
          have hbi : b < i := by omega
          have eb : bs q (pkAt P i) = txAt q.1 b := by rw [bs, if_pos (by omega), hbq]; rfl
          have ed : dep q.2 (pkAt P i).f0 = dpAt q.2 b + 1 := by rw [dep, if_pos (by omega), hbq]; rfl
          obtain ⟨g1, g2, g3, _⟩ := g b hbi
          rw [eb, ed] at hgood
          rw [eb] at hbad
          rw [ed] at hdeep
          have hdo := implDeltaDo_ev (txAt q.1 b) (pkAt P i).f1 (textB_Sm g1) hS
          simp only [hbq, rd_tx, rd_dp, w64 (x := dpAt q.2 b + 1) (by omega) (by omega)]
          refine Ev.posf (by omega) (Ev.posf (by omega) (Ev.posf (by omega) (Ev.bind hdo (Ev.ite (fun cd => Ev.ite (fun cq => EvT (Ev.now _) (hdeep (by omega)).symm) (fun cq => Ev.posf (by omega) (Ev.posf (by omega) (hgood cd (by omega))))) (fun cd => EvT (Ev.now _) (hbad cd).symm)))))
        · have eb : bs q (pkAt P i) = [] := by rw [bs, if_neg (by omega)]
          have ed : dep q.2 (pkAt P i).f0 = 1 := by rw [dep, if_neg (by omega)]
          rw [eb, ed] at hgood
          rw [eb] at hbad
          have hdo := implDeltaDo_ev [] (pkAt P i).f1 ⟨by simp, by simp⟩ hS
          refine Ev.bind hdo (Ev.ite (fun cd => Ev.negf (by decide) (Ev.posf (by omega) (Ev.posf (by omega) (hgood cd (by omega))))) (fun cd => EvT (Ev.now _) (hbad cd).symm))
      · refine bad _ ?_ ?_
        · simp only [Bool.not_eq_true', Bool.and_eq_false_iff, decide_eq_false_iff_not]; omega
        · rw [e1, stepU, if_neg (by omega)]
theorem unpackAny_ev {P : List Pk} (hs : PkS P) : Ev (fun k => impl_unpacked.f k P) (resU (unG P P.length)) := by
  unfold impl_unpacked.f
  exact unpackAny0_ev hs _ 0 ([], []) rfl (by omega) rfl
theorem l13Do_ev {base : Tx} (hb : textB base = true) {d : List Dl} (hk : deltaB d = true) : Ev (fun k => spec_l13Do.f k base d) (doB base d) := by
  unfold spec_l13Do.f
  obtain ⟨h1, h2⟩ := deltaB_len hk
  exact EvT (specDo_ev hb d h2 (by omega) _ 0 [] (by omega) rfl (by simp) (by simp)) (by rw [doB, if_pos ⟨hb, hk⟩, List.drop_zero])
def okA (P : List Pk) : Prop := ∀ j, j < P.length → -1 ≤ (pkAt P j).f0 ∧ (pkAt P j).f0 < (j : Int) ∧ deltaB (pkAt P j).f1 = true
theorem getAny_ev {P : List Pk} (hP : P.length ≤ 1000000) (ha : okA P) : ∀ (n j : Nat), j < n → j < P.length → ∃ (t : Tx) (ok : Bool) (m : Int), Ev (fun k => spec_l13Get.f k P (j : Int)) (t, ok) ∧ (ok = true → textB t = true) ∧ 1 ≤ m ∧ m ≤ (j : Int) + 1 ∧
    ∀ c : Int, 1 ≤ c → c + m ≤ 10000000 → Ev (fun k => spec_l13Deep.l0 k P (j : Int) c) (c + m - 1)
  | 0, j, h, hj => absurd h (by omega)
  | n + 1, j, h, hj => by
    obtain ⟨a1, a2, a3⟩ := ha j hj
    by_cases c0 : (pkAt P j).f0 ≥ 0
    · obtain ⟨b, hb⟩ := toNat_of c0
      obtain ⟨t, ok, m, h1, h2, h3, h4, h5⟩ := getAny_ev hP ha n b (by omega) (by omega)
      have hd : ∀ c : Int, 1 ≤ c → c + (m + 1) ≤ 10000000 → Ev (fun k => spec_l13Deep.l0 k P (j : Int) c) (c + (m + 1) - 1) := fun c hc1 hc2 => by
        refine Ev.step' ?_
        simp only [spec_l13Deep.l0, rd_pk, hb, w64 (x := c + 1) (by omega) (by omega)]
        exact Ev.posf (by omega) (Ev.posf (by omega) (Ev.posf (by omega) (EvT (h5 (c + 1) (by omega) (by omega)) (by omega))))
      cases ok with
      | false =>
        refine ⟨[], false, m + 1, Ev.step' ?_, (fun h => by cases h), by omega, by omega, hd⟩
        simp only [spec_l13Get.f, rd_pk, hb]
        exact Ev.posf (by omega) (Ev.posf (by omega) (Ev.posf (by omega) (Ev.bind h1 (Ev.negf (by simp) (Ev.now _)))))
      | true =>
        refine ⟨(doB t (pkAt P j).f1).1, (doB t (pkAt P j).f1).2, m + 1, Ev.step' ?_, (fun h => (doB_true h).2.2.2), by omega, by omega, hd⟩
        simp only [spec_l13Get.f, rd_pk, hb]
        exact Ev.posf (by omega) (Ev.posf (by omega) (Ev.posf (by omega) (Ev.bind h1 (Ev.posf rfl (Ev.bind (l13Do_ev (h2 rfl) a3) (Ev.now _))))))
    · refine ⟨(doB [] (pkAt P j).f1).1, (doB [] (pkAt P j).f1).2, 1, Ev.step' ?_, (fun h => (doB_true h).2.2.2), by omega, by omega, fun c hc1 hc2 => Ev.step' ?_⟩
      · simp only [spec_l13Get.f, rd_pk]
        exact Ev.posf (by omega) (Ev.posf (by omega) (Ev.negf c0 (Ev.bind (l13Do_ev rfl a3) (Ev.now _))))
      · simp only [spec_l13Deep.l0, rd_pk]
        exact Ev.posf (by omega) (Ev.posf (by omega) (Ev.negf c0 (EvT (Ev.now _) (by omega))))
theorem getGU_ev {P : List Pk} {q : Un} {i : Nat} (ha : okA P) (g : GU P q i) (hi : i ≤ P.length) : ∀ (n j : Nat), j < n → j < i → Ev (fun k => spec_l13Get.f k P (j : Int)) (txAt q.1 j, true) ∧
    ∀ c : Int, 1 ≤ c → c + dpAt q.2 j ≤ 1000 → Ev (fun k => spec_l13Deep.l0 k P (j : Int) c) (c + dpAt q.2 j - 1)
  | 0, j, h, hj => absurd h (by omega)
  | n + 1, j, h, hj => by
    obtain ⟨a1, a2, a3⟩ := ha j (by omega)
    obtain ⟨_, l1, l2, gg⟩ := g
    obtain ⟨g1, g2, g3, g4, g5, g6, g7⟩ := gg j hj
    by_cases c0 : (pkAt P j).f0 ≥ 0
    · obtain ⟨b, hb⟩ := toNat_of c0
      obtain ⟨h1, h2⟩ := getGU_ev ha ⟨by assumption, l1, l2, gg⟩ hi n b (by omega) (by omega)
      have gb := gg b (by omega)
      have ed : dpAt q.2 j = dpAt q.2 b + 1 := by rw [g7, dep, if_pos (by omega), hb]; rfl
      have eb : bs q (pkAt P j) = txAt q.1 b := by rw [bs, if_pos (by omega), hb]; rfl
      rw [eb] at g6
      refine ⟨Ev.step' ?_, fun c hc1 hc2 => Ev.step' ?_⟩
      · simp only [spec_l13Get.f, rd_pk, hb]
        exact Ev.posf (by omega) (Ev.posf (by omega) (Ev.posf (by omega) (Ev.bind h1 (Ev.posf rfl (Ev.bind (l13Do_ev gb.1 a3) (EvT (Ev.now _) g6))))))
      · simp only [spec_l13Deep.l0, rd_pk, hb, w64 (x := c + 1) (by omega) (by omega)]
        exact Ev.posf (by omega) (Ev.posf (by omega) (Ev.posf (by omega) (EvT (h2 (c + 1) (by omega) (by omega)) (by omega))))
    · have ed : dpAt q.2 j = 1 := by rw [g7, dep, if_neg (by omega)]
      have eb : bs q (pkAt P j) = [] := by rw [bs, if_neg (by omega)]
      rw [eb] at g6
      refine ⟨Ev.step' ?_, fun c hc1 hc2 => Ev.step' ?_⟩
      · simp only [spec_l13Get.f, rd_pk]
        exact Ev.posf (by omega) (Ev.posf (by omega) (Ev.negf c0 (Ev.bind (l13Do_ev rfl a3) (EvT (Ev.now _) g6))))
      · simp only [spec_l13Deep.l0, rd_pk]
        exact Ev.posf (by omega) (Ev.posf (by omega) (Ev.negf c0 (EvT (Ev.now _) (by omega))))
theorem loopLong_ev {P : List Pk} (hP : P.length ≤ 1000000) (hl : 12 < P.length) (ha : okA P) : ∀ (d i : Nat), P.length - i = d → i ≤ P.length → Ev (fun k => spec_l13PackOk.l1 k P i) false
  | 0, i, hd, hi => by
    refine Ev.step' ?_
    simp only [spec_l13PackOk.l1]
    exact Ev.negf (by omega) (EvT (Ev.now _) (decide_eq_false (by omega)))
  | d + 1, i, hd, hi => by
    obtain ⟨t, ok, m, h1, h2, h3, h4, h5⟩ := getAny_ev hP ha (i + 1) i (by omega) (by omega)
    refine Ev.step' ?_
    simp only [spec_l13PackOk.l1, w64_succ i (by omega)]
    refine Ev.posf (by omega) (Ev.bind h1 ?_)
    cases ok with
    | false => exact Ev.negf (by simp) (Ev.now _)
    | true =>
      refine Ev.posf rfl (Ev.bind (a := m) ?_ (Ev.ite (fun _ => Ev.now _) (fun _ => loopLong_ev hP hl ha d (i + 1) (by omega) (by omega))))
      unfold spec_l13Deep.f
      exact EvT (h5 1 (by omega) (by omega)) (by omega)
theorem loopShort_ev {P : List Pk} (hl : P.length ≤ 12) (ha : okA P) : ∀ (d i : Nat) (q : Un), P.length - i = d → i ≤ P.length → unG P i = some q → Ev (fun k => spec_l13PackOk.l1 k P i) (resU (unG P P.length)).2.2
  | 0, i, q, hd, hi, hq => by
    obtain rfl : i = P.length := by omega
    refine Ev.step' ?_
    simp only [spec_l13PackOk.l1]
    exact Ev.negf (by omega) (EvT (Ev.now _) (by rw [hq]; exact decide_eq_true (by omega)))
  | d + 1, i, q, hd, hi, hq => by
    have hi' : i < P.length := by omega
    obtain ⟨a1, a2, a3⟩ := ha i hi'
    have g := unG_good i q hq
    have e1 : unG P (i + 1) = stepU P i q := by rw [unG, hq]; rfl
    have hno : unG P (i + 1) = none → (resU (unG P P.length)).2.2 = false := fun hn => by
      have := unG_none hn (P.length - (i + 1))
      rw [show i + 1 + (P.length - (i + 1)) = P.length by omega] at this
      rw [this]; rfl
    have hdp := dep_pos (D := q.2) (b := (pkAt P i).f0) (fun j hj => (g.2.2.2 j (by have := g.2.2.1; omega)).2.1) (by have := g.2.2.1; omega)
    have key : Ev (fun k => spec_l13Get.f k P (i : Int)) (doB (bs q (pkAt P i)) (pkAt P i).f1) ∧ (dep q.2 (pkAt P i).f0 ≤ 4 ∧ Ev (fun k => spec_l13Deep.l0 k P (i : Int) 1) (dep q.2 (pkAt P i).f0)) := by
      by_cases c0 : (pkAt P i).f0 ≥ 0
      · obtain ⟨b, hb⟩ := toNat_of c0
        obtain ⟨h1, h2⟩ := getGU_ev ha g (by omega) i b (by omega) (by omega)
        have gb := g.2.2.2 b (by omega)
        have ed : dep q.2 (pkAt P i).f0 = dpAt q.2 b + 1 := by rw [dep, if_pos (by omega), hb]; rfl
        have eb : bs q (pkAt P i) = txAt q.1 b := by rw [bs, if_pos (by omega), hb]; rfl
        rw [eb, ed]
        refine ⟨Ev.step' ?_, by omega, Ev.step' ?_⟩
        · simp only [spec_l13Get.f, rd_pk, hb]
          exact Ev.posf (by omega) (Ev.posf (by omega) (Ev.posf (by omega) (Ev.bind h1 (Ev.posf rfl (Ev.bind (l13Do_ev gb.1 a3) (Ev.now _))))))
        · simp only [spec_l13Deep.l0, rd_pk, hb, w64 (x := (1 : Int) + 1) (by omega) (by omega)]
          exact Ev.posf (by omega) (Ev.posf (by omega) (Ev.posf (by omega) (EvT (h2 (1 + 1) (by omega) (by omega)) (by omega))))
      · have ed : dep q.2 (pkAt P i).f0 = 1 := by rw [dep, if_neg (by omega)]
        have eb : bs q (pkAt P i) = [] := by rw [bs, if_neg (by omega)]
        rw [eb, ed]
        refine ⟨Ev.step' ?_, by omega, Ev.step' ?_⟩
        · simp only [spec_l13Get.f, rd_pk]
          exact Ev.posf (by omega) (Ev.posf (by omega) (Ev.negf c0 (Ev.bind (l13Do_ev rfl a3) (Ev.now _))))
        · simp only [spec_l13Deep.l0, rd_pk]
          exact Ev.posf (by omega) (Ev.posf (by omega) (Ev.negf c0 (Ev.now _)))
    refine Ev.step' ?_
    simp only [spec_l13PackOk.l1, w64_succ i (by omega)]
    refine Ev.posf (by omega) (Ev.bind key.1 (Ev.ite (fun cd => Ev.bind (a := dep q.2 (pkAt P i).f0) (by unfold spec_l13Deep.f; exact key.2.2) (Ev.ite (fun c3 => EvT (Ev.now _) (hno ?_).symm) (fun c3 => ?_))) (fun cd => EvT (Ev.now _) (hno ?_).symm)))
    · rw [e1, stepU, if_neg (fun h => by omega)]
    · exact loopShort_ev hl ha d (i + 1) _ (by omega) (by omega) (by rw [e1, stepU, if_pos ⟨by omega, a1, a2, cd, by omega⟩])
    · rw [e1, stepU, if_neg (fun h => cd h.2.2.2.1)]
theorem first_ev {P : List Pk} (hs : PkS P) {r : Bool} (h1 : okA P → Ev (fun k => spec_l13PackOk.l1 k P 0) r) (h2 : ¬ okA P → r = false) : ∀ (d i : Nat), P.length - i = d → i ≤ P.length → (∀ j, j < i → -1 ≤ (pkAt P j).f0 ∧ (pkAt P j).f0 < (j : Int) ∧ deltaB (pkAt P j).f1 = true) → Ev (fun k => spec_l13PackOk.l0 k P i) r
  | 0, i, hd, hi, hj => by
    refine Ev.step' ?_
    simp only [spec_l13PackOk.l0]
    exact Ev.negf (by omega) (h1 (fun j hlt => hj j (by omega)))
  | d + 1, i, hd, hi, hj => by
    have hP := hs.1
    refine Ev.step' ?_
    simp only [spec_l13PackOk.l0, rd_pk, w64_succ i (by omega), in_eq, w64 (x := (i : Int) - 1) (by omega) (by omega)]
    refine Ev.posf (by omega) (Ev.posf (by omega) (Ev.somef (Ev.ite (fun c => ?_) (fun c => EvT (Ev.now _) (h2 (fun ha => c ?_)).symm))))
    · simp only [Bool.and_eq_true, decide_eq_true_eq] at c
      refine Ev.bind (specOk_ev _ (hs.get (by omega))) (Ev.ite (fun c2 => first_ev hs h1 h2 d (i + 1) (by omega) (by omega) (fun j hlt => ?_)) (fun c2 => EvT (Ev.now _) (h2 (fun ha => c2 (ha i (by omega)).2.2)).symm))
      by_cases e : j = i
      · subst e; exact ⟨c.1, by omega, c2⟩
      · exact hj j (by omega)
    · obtain ⟨b1, b2, _⟩ := ha i (by omega)
      simp only [Bool.and_eq_true, decide_eq_true_eq]; omega
theorem unG_okA {P : List Pk} : ∀ (n : Nat) (q : Un), unG P n = some q → ∀ j, j < n → -1 ≤ (pkAt P j).f0 ∧ (pkAt P j).f0 < (j : Int) ∧ deltaB (pkAt P j).f1 = true := fun n q h j hj => by
  obtain ⟨_, _, _, g⟩ := unG_good n q h
  obtain ⟨_, _, _, g4, g5, g6, _⟩ := g j hj
  exact ⟨g4, g5, (doB_true (t := bs q (pkAt P j)) (by rw [g6])).2.1⟩
theorem packOkAny_ev {P : List Pk} (hs : PkS P) : Ev (fun k => spec_l13PackOk.f k P) (resU (unG P P.length)).2.2 := by
  unfold spec_l13PackOk.f
  refine first_ev hs (fun ha => ?_) (fun ha => ?_) _ 0 rfl (by omega) (fun j hj => absurd hj (by omega))
  · by_cases hl : 12 < P.length
    · refine EvT (loopLong_ev hs.1 hl ha _ 0 rfl (by omega)) ?_
      cases hu : unG P P.length with
      | none => rfl
      | some q => have := (unG_good _ q hu).1; omega
    · exact loopShort_ev (by omega) ha _ 0 ([], []) rfl (by omega) rfl
  · cases hu : unG P P.length with
    | none => rfl
    | some q => exact absurd (fun j hj => unG_okA _ q hu j hj) ha
end Go.Proofs.Ytfnhjaiioojbkaa.Q
end
section
namespace Go.Proofs.Ytfnhjaiioojbkaa.Q
open Go.RowKit Go.Proofs.YtfnhjaiioojbkaaW.PrintWords
set_option linter.unusedVariables false
set_option linter.unusedSimpArgs false
def getB (P : List Pk) (a : Int) : Tx × Bool := match unG P P.length with
  | some q => if 0 ≤ a ∧ a ≤ (P.length : Int) - 1 then (txAt q.1 a.toNat, true) else ([], false)
  | none => ([], false)
theorem implGetAny_ev {P : List Pk} (hs : PkS P) (a : Int) : Ev (fun k => impl_PackGet.f k P a) (getB P a) := by
  have hP := hs.1
  have hu := unpackAny_ev hs
  unfold impl_PackGet.f
  unfold getB
  cases h : unG P P.length with
  | none =>
    rw [h] at hu
    exact Ev.bind hu (Ev.negf (by simp [resU]) (Ev.now _))
  | some q =>
    rw [h] at hu
    have g := unG_good _ q h
    simp only [within_eq, w64 (x := (P.length : Int) - 1) (by omega) (by omega)]
    refine Ev.bind hu (Ev.posf rfl (Ev.somef (Ev.ite (fun c => ?_) (fun c => ?_))))
    · simp only [Bool.and_eq_true, decide_eq_true_eq] at c
      rw [if_pos c]
      obtain ⟨j, rfl⟩ := toNat_of c.1
      exact Ev.posf (by omega) (Ev.posf (by have := g.2.1; simp only [resU]; omega) (EvT (Ev.now _) (by rw [rd_tx]; rfl)))
    · rw [if_neg (by simpa [Bool.and_eq_true, decide_eq_true_eq] using c)]
      exact Ev.now _
theorem specGetAny_ev {P : List Pk} (hs : PkS P) (a : Int) : Ev (fun k => spec_PackGet.f k P a) (getB P a) := by
  have hP := hs.1
  have hu := packOkAny_ev hs
  unfold spec_PackGet.f
  unfold getB
  cases h : unG P P.length with
  | none =>
    rw [h] at hu
    exact Ev.bind hu (Ev.negf (by simp [resU]) (Ev.now _))
  | some q =>
    rw [h] at hu
    have g := unG_good _ q h
    simp only [in_eq, w64 (x := (P.length : Int) - 1) (by omega) (by omega)]
    refine Ev.bind hu (Ev.posf rfl (Ev.somef (Ev.ite (fun c => ?_) (fun c => ?_))))
    · simp only [Bool.and_eq_true, decide_eq_true_eq] at c
      rw [if_pos c]
      obtain ⟨j, rfl⟩ := toNat_of c.1
      exact Ev.bind (getGU_ev (fun j hj => unG_okA _ q h j hj) g (by omega) (j + 1) j (by omega) (by omega)).1 (Ev.now _)
    · rw [if_neg (by simpa [Bool.and_eq_true, decide_eq_true_eq] using c)]
      exact Ev.now _
end Go.Proofs.Ytfnhjaiioojbkaa.Q
end
section
namespace Go.Proofs.Ytfnhjaiioojbkaa.Q
open Go.RowKit Go.Proofs.YtfnhjaiioojbkaaW.PrintWords Go.Proofs.YtfnhjaiioojbkaaW.PrintLast Go.Proofs.YtfnhjaiioojbkaaW.PrintMore
attribute [local go_sem] max2_int min2_int max_two min_two max_three min_three max_four min_four   -- for this text's walks alone
set_option linter.unusedVariables false
set_option linter.unusedSimpArgs false
def laws_szPacked.f (k : Nat) (a0_0 : Int) (l0_1 : List (S72)) (a1 : Int) : Option (Int) := (laws_szDeltaS.f k l0_1 a1).bind fun t988 => (if t988 < 0 then (some (-1)) else (some t988))
set_option maxHeartbeats 8000000 in
set_option maxRecDepth 100000 in
theorem laws_szPacked.calls (k : Nat) (a0_0 : Int) (A0_1 : Option Addr) (c0_1 : Nat) (l0_1 : List (S72)) (a1 : Int) (r : Int) (w : World) (hr0_1 : Kd.C k72 w A0_1 l0_1.length l0_1) (hc0_1 : l0_1.length ≤ c0_1) (h : laws_szPacked.f k a0_0 l0_1 a1 = some r) :
 Calls Try.prog 95 #[.agg #[.int .i64 a0_0, .slice A0_1 l0_1.length c0_1], .int .i64 a1] w fun e w' => e = .returned (.int .i64 r) ∧ Below w.heap.size w w' := by
 have hu97 := Try.underlying97; have HR0_1 := Aside0.mk hr0_1; have HC0_1 := Aside0.mk hc0_1; clear hr0_1 hc0_1; have HB := Aside0.mk (Below.refl w.heap.size w); have H : ((laws_szDeltaS.f k l0_1 a1).bind fun t988 => (if t988 < 0 then (some (-1)) else (some t988))) = some r := h; clear h; replace H := Option.bind_eq_some_iff.mp H; obtain ⟨t988, A30, H⟩ := H; replace H : (if t988 < 0 then (some (-1)) else (some t988)) = some r := H; have A3 := Aside0.mk A30; clear A30; by_cases c4 : t988 < 0
 ·rw [if_pos c4] at H; have c4b0 : decide (t988 < 0) = true := decide_eq_true c4; clear c4; obtain rfl := Option.some.inj H; go_enter Try.func95, Try.ntmps95; go_wp2_with (first | ((with_reducible refine gate_dst (N := 2) rfl ?_); refine box_event ?hg (N := 2) ?hd (cs := #[.int .i64 a0_0, .slice A0_1 l0_1.length c0_1]) (t := 97) ?hr ?_; (case hd => rfl); (case hg => rfl); (case hr => first | (go_simp; done) | (go_simp; rfl)); intro gb987 hg w5 hbox hb; have n0_ := Aside0.mk (below_step (by repeat (first | (with_reducible first | exact HB.out | apply below_alloc | apply pw_below_drewN | apply below_drew1) | exact HB.out)) hb); have n1_ := Aside0.mk (hbox); have n2_ := Aside0.mk ((by rw [hg]; exact (below_size (by repeat (first | (with_reducible first | exact HB.out | apply below_alloc | apply pw_below_drewN | apply below_drew1) | exact HB.out))) : w.heap.size ≤ gb987)); have n3_ := Aside0.mk ((by rw [hg]; exact (below_size (by repeat (first | (with_reducible first | exact HB.out | apply below_alloc | apply pw_below_drewN | apply below_drew1) | exact HB.out))) : w.heap.size ≤ gb987)); clear HB; have HB := n0_; have BK987 := n1_; have GW987 := n2_; have GE987 := n3_; clear n0_ n1_ n2_ n3_; clear hb hbox hg; have hcz6_0 : w5.cell? ⟨gb987, 0, none⟩ = some (.int .i64 a0_0) := (blk_cell BK987.out 0).trans rfl; have hcz6_1 : w5.cell? ⟨gb987, 1, none⟩ = some (.slice A0_1 l0_1.length c0_1) := (blk_cell BK987.out 1).trans rfl; have hfz6_0 := blk_frozen BK987.out 0; have hfz6_1 := blk_frozen BK987.out 1) | ((with_reducible refine gate_callee (f := 15) rfl ?_); refine goesL_ (some 8) rfl rfl Try.func15 (by kernel_rfl) rfl #[.slice A0_1 l0_1.length c0_1, .int .i64 a1] rfl (by (try simp only [List.map_toArray, List.map_cons, List.map_nil]); first | done | rfl | (simp only [List.length_drop, List.length_take]; rfl)) ?_; (with_reducible refine (laws_szDeltaS.calls k _ _ l0_1 a1 t988 _ ?side1 ?side2 A3.out).mono ?_); (case side1 => repeat (first | exact (Kd.C_below HR0_1.out HB.out) | (with_reducible refine Kd.C_alloc ?_ _) | (with_reducible refine Kd.C_drewN ?_ _) | (with_reducible refine Kd.C_drew ?_))); (case side2 => exact HC0_1.out); rintro e w7 ⟨rfl, hb⟩; refine ⟨_, rfl, ?_⟩; have n0_ := Aside0.mk (blk_below (g := gb987) (o := .cells #[.int .i64 a0_0, .slice A0_1 l0_1.length c0_1] 97 (0, 0)) (by (with_reducible repeat (first | refine blk_drewN ?_ _ | refine blk_drew ?_ | refine blk_alloc ?_ _)); exact BK987.out) hb); have n1_ := Aside0.mk (below_step (by repeat (first | (with_reducible first | exact HB.out | apply below_alloc | apply pw_below_drewN | apply below_drew1 | refine below_set ?_ GE987.out) | exact HB.out)) hb); clear BK987; clear HB; have BK987 := n0_; have HB := n1_; clear n0_ n1_; (try clear hb); (try clear hb2); (try clear hk); (try clear hi))); go_ret; exact ⟨by first | rfl | (simp <;> rfl) | (simp [*] <;> rfl), by repeat (first | (with_reducible first | exact HB.out | apply below_alloc | apply pw_below_drewN | apply below_drew1 | refine below_set ?_ GE987.out) | exact HB.out)⟩
 ·rw [if_neg c4] at H; have c4b0 : decide (t988 < 0) = false := decide_eq_false c4; clear c4; obtain rfl := Option.some.inj H; go_enter Try.func95, Try.ntmps95; go_wp2_with (first | ((with_reducible refine gate_dst (N := 2) rfl ?_); refine box_event ?hg (N := 2) ?hd (cs := #[.int .i64 a0_0, .slice A0_1 l0_1.length c0_1]) (t := 97) ?hr ?_; (case hd => rfl); (case hg => rfl); (case hr => first | (go_simp; done) | (go_simp; rfl)); intro gb987 hg w8 hbox hb; have n0_ := Aside0.mk (below_step (by repeat (first | (with_reducible first | exact HB.out | apply below_alloc | apply pw_below_drewN | apply below_drew1) | exact HB.out)) hb); have n1_ := Aside0.mk (hbox); have n2_ := Aside0.mk ((by rw [hg]; exact (below_size (by repeat (first | (with_reducible first | exact HB.out | apply below_alloc | apply pw_below_drewN | apply below_drew1) | exact HB.out))) : w.heap.size ≤ gb987)); have n3_ := Aside0.mk ((by rw [hg]; exact (below_size (by repeat (first | (with_reducible first | exact HB.out | apply below_alloc | apply pw_below_drewN | apply below_drew1) | exact HB.out))) : w.heap.size ≤ gb987)); clear HB; have HB := n0_; have BK987 := n1_; have GW987 := n2_; have GE987 := n3_; clear n0_ n1_ n2_ n3_; clear hb hbox hg; have hcz9_0 : w8.cell? ⟨gb987, 0, none⟩ = some (.int .i64 a0_0) := (blk_cell BK987.out 0).trans rfl; have hcz9_1 : w8.cell? ⟨gb987, 1, none⟩ = some (.slice A0_1 l0_1.length c0_1) := (blk_cell BK987.out 1).trans rfl; have hfz9_0 := blk_frozen BK987.out 0; have hfz9_1 := blk_frozen BK987.out 1) | ((with_reducible refine gate_callee (f := 15) rfl ?_); refine goesL_ (some 8) rfl rfl Try.func15 (by kernel_rfl) rfl #[.slice A0_1 l0_1.length c0_1, .int .i64 a1] rfl (by (try simp only [List.map_toArray, List.map_cons, List.map_nil]); first | done | rfl | (simp only [List.length_drop, List.length_take]; rfl)) ?_; (with_reducible refine (laws_szDeltaS.calls k _ _ l0_1 a1 t988 _ ?side1 ?side2 A3.out).mono ?_); (case side1 => repeat (first | exact (Kd.C_below HR0_1.out HB.out) | (with_reducible refine Kd.C_alloc ?_ _) | (with_reducible refine Kd.C_drewN ?_ _) | (with_reducible refine Kd.C_drew ?_))); (case side2 => exact HC0_1.out); rintro e w10 ⟨rfl, hb⟩; refine ⟨_, rfl, ?_⟩; have n0_ := Aside0.mk (blk_below (g := gb987) (o := .cells #[.int .i64 a0_0, .slice A0_1 l0_1.length c0_1] 97 (0, 0)) (by (with_reducible repeat (first | refine blk_drewN ?_ _ | refine blk_drew ?_ | refine blk_alloc ?_ _)); exact BK987.out) hb); have n1_ := Aside0.mk (below_step (by repeat (first | (with_reducible first | exact HB.out | apply below_alloc | apply pw_below_drewN | apply below_drew1 | refine below_set ?_ GE987.out) | exact HB.out)) hb); clear BK987; clear HB; have BK987 := n0_; have HB := n1_; clear n0_ n1_; (try clear hb); (try clear hb2); (try clear hk); (try clear hi))); go_ret; exact ⟨by first | rfl | (simp <;> rfl) | (simp [*] <;> rfl), by repeat (first | (with_reducible first | exact HB.out | apply below_alloc | apply pw_below_drewN | apply below_drew1 | refine below_set ?_ GE987.out) | exact HB.out)⟩
end Go.Proofs.Ytfnhjaiioojbkaa.Q
end
section
namespace Go.Proofs.Ytfnhjaiioojbkaa.Q
open Go.RowKit Go.Proofs.YtfnhjaiioojbkaaW.PrintWords Go.Proofs.YtfnhjaiioojbkaaW.PrintLast Go.Proofs.YtfnhjaiioojbkaaW.PrintMore
attribute [local go_sem] max2_int min2_int max_two min_two max_three min_three max_four min_four   -- for this text's walks alone
set_option linter.unusedVariables false
set_option linter.unusedSimpArgs false
def laws_szPackedS.l0 : Nat → List (S97) → Int → Int → Option (Int)
 | 0, _, _, _ => none
 | k + 1, x0, x1, x5 => if x5 < (x0.length : Int) then (if 0 ≤ x5 then ((laws_szPacked.f k ((rd_T97 x0 x5).f0) ((rd_T97 x0 x5).f1) x1).bind fun t990 => (if t990 < 0 then (some (-1)) else (laws_szPackedS.l0 k x0 t990 (wrap64 (x5 + 1))))) else (none)) else (some x1)
def laws_szPackedS.f (k : Nat) (l0 : List (S97)) (a1 : Int) : Option (Int) := if (wrap64 (a1 - (l0.length : Int))) < 0 then (some (-1)) else (laws_szPackedS.l0 k l0 (wrap64 (a1 - (l0.length : Int))) 0)
set_option maxHeartbeats 8000000 in
set_option maxRecDepth 100000 in
theorem laws_szPackedS.calls (k : Nat) (A0 : Option Addr) (c0 : Nat) (l0 : List (S97)) (a1 : Int) (r : Int) (w : World) (hr0 : Kd.C k97 w A0 l0.length l0) (hc0 : l0.length ≤ c0) (h : laws_szPackedS.f k l0 a1 = some r) :
 Calls Try.prog 50 #[.slice A0 l0.length c0, .int .i64 a1] w fun e w' => e = .returned (.int .i64 r) ∧ Below w.heap.size w w' := by
 have hu97 := Try.underlying97; have HR0 := Aside0.mk hr0; have HC0 := Aside0.mk hc0; clear hr0 hc0; have HB := Aside0.mk (Below.refl w.heap.size w); have H : (if (wrap64 (a1 - (l0.length : Int))) < 0 then (some (-1)) else (laws_szPackedS.l0 k l0 (wrap64 (a1 - (l0.length : Int))) 0)) = some r := h; clear h; by_cases c3 : (wrap64 (a1 - (l0.length : Int))) < 0
 ·rw [if_pos c3] at H; have c3b0 : decide ((wrap64 (a1 - (l0.length : Int))) < 0) = true := decide_eq_true c3; clear c3; obtain rfl := Option.some.inj H; go_enter Try.func50, Try.ntmps50; go_wp2; go_ret; exact ⟨by first | rfl | (simp <;> rfl) | (simp [*] <;> rfl), by repeat (first | (with_reducible first | exact HB.out | apply below_alloc | apply pw_below_drewN | apply below_drew1) | exact HB.out)⟩
 ·rw [if_neg c3] at H; have c3b0 : decide ((wrap64 (a1 - (l0.length : Int))) < 0) = false := decide_eq_false c3; clear c3; have H' := Aside0.mk H; clear H; go_enter Try.func50, Try.ntmps50; go_wp2; go_loopg [1, 5] k (fun kq v1 v5 w' => ∃ (x1_1 : Int) (x5_1 : Int), v1 = .int .i64 x1_1 ∧ v5 = .int .i64 x5_1 ∧ Aside0 (laws_szPackedS.l0 kq l0 x1_1 x5_1 = some r) ∧ Aside0 (kq ≤ k) ∧ Aside0 (Below w.heap.size w w'))
  case atStart => exact ⟨(wrap64 (a1 - (l0.length : Int))), (0), (by first | rfl | (simp; done) | (simp [*]; done)), (by first | rfl | (simp; done) | (simp [*]; done)), H', ⟨Nat.le_refl _⟩, ⟨by repeat (first | (with_reducible first | exact HB.out | apply below_alloc | apply pw_below_drewN | apply below_drew1) | exact HB.out)⟩⟩
  case round =>
   clear H'; (try clear p2); (try clear c3); (try clear c3b0); obtain ⟨x1_1, x5_1, rfl, rfl, HA, HK1, HB⟩ := hrel
   cases gk with
   | zero => exact absurd HA.out (by simp [laws_szPackedS.l0])
   | succ k1 =>
    have H := HA.out; clear HA; simp only [laws_szPackedS.l0] at H; by_cases c4 : x5_1 < (l0.length : Int)
    ·rw [if_pos c4] at H; have c4b0 : decide (x5_1 < (l0.length : Int)) = true := decide_eq_true c4; clear c4; by_cases c5 : 0 ≤ x5_1
     ·rw [if_pos c5] at H; have c5b0 : decide (0 ≤ x5_1) = true := decide_eq_true c5; clear c5; replace H := Option.bind_eq_some_iff.mp H; obtain ⟨t990, A60, H⟩ := H; replace H : (if t990 < 0 then (some (-1)) else (laws_szPackedS.l0 k1 l0 t990 (wrap64 (x5_1 + 1)))) = some r := H; have A6 := Aside0.mk A60; clear A60; by_cases c7 : t990 < 0
      ·rw [if_pos c7] at H; have c7b0 : decide (t990 < 0) = true := decide_eq_true c7; clear c7; obtain rfl := Option.some.inj H; have p989 : 0 ≤ (x5_1 : Int) := of_decide_eq_true (by assumption); have q989 : x5_1 < (l0.length : Int) := of_decide_eq_true (by assumption); obtain ⟨ad989, A989_1, c989_1, e989, hx989_0, hx989_1, hl989_1, hi989_1⟩ := at_T97 HR0.out x5_1 p989 q989; cases e989; replace hx989_0 := (HB.out.cell (World.block_lt_of_cell? w _ hx989_0)).trans hx989_0; replace hx989_1 := (HB.out.cell (World.block_lt_of_cell? w _ hx989_1)).trans hx989_1; have HR989_1 := Aside0.mk hi989_1; have HC989_1 := Aside0.mk hl989_1; clear hi989_1 hl989_1; replace p989 := eq_true p989; replace q989 := eq_true q989; go_wp2_with (first | ((with_reducible refine gate_callee (f := 95) rfl ?_); refine goesL_ (some 23) rfl rfl Try.func95 (by kernel_rfl) rfl #[.agg #[.int .i64 ((rd_T97 l0 x5_1).f0), .slice A989_1 ((rd_T97 l0 x5_1).f1).length c989_1], .int .i64 x1_1] rfl (by (try simp only [List.map_toArray, List.map_cons, List.map_nil]); first | done | rfl | (simp only [List.length_drop, List.length_take]; rfl)) ?_; (with_reducible refine (laws_szPacked.calls k1 ((rd_T97 l0 x5_1).f0) _ _ ((rd_T97 l0 x5_1).f1) x1_1 t990 _ ?side1 ?side2 A6.out).mono ?_); (case side1 => repeat (first | exact (Kd.C_below HR989_1.out HB.out) | (with_reducible refine Kd.C_alloc ?_ _) | (with_reducible refine Kd.C_drewN ?_ _) | (with_reducible refine Kd.C_drew ?_))); (case side2 => exact HC989_1.out); rintro e w8 ⟨rfl, hb⟩; refine ⟨_, rfl, ?_⟩; have n0_ := Aside0.mk (below_step (by repeat (first | (with_reducible first | exact HB.out | apply below_alloc | apply pw_below_drewN | apply below_drew1) | exact HB.out)) hb); clear HB; have HB := n0_; clear n0_; (try clear hb); (try clear hb2); (try clear hk); (try clear hi))); go_ret; exact ⟨by first | rfl | (simp <;> rfl) | (simp [*] <;> rfl), by repeat (first | (with_reducible first | exact HB.out | apply below_alloc | apply pw_below_drewN | apply below_drew1) | exact HB.out)⟩
      ·rw [if_neg c7] at H; have c7b0 : decide (t990 < 0) = false := decide_eq_false c7; clear c7; have H' := Aside0.mk H; clear H; have p989 : 0 ≤ (x5_1 : Int) := of_decide_eq_true (by assumption); have q989 : x5_1 < (l0.length : Int) := of_decide_eq_true (by assumption); obtain ⟨ad989, A989_1, c989_1, e989, hx989_0, hx989_1, hl989_1, hi989_1⟩ := at_T97 HR0.out x5_1 p989 q989; cases e989; replace hx989_0 := (HB.out.cell (World.block_lt_of_cell? w _ hx989_0)).trans hx989_0; replace hx989_1 := (HB.out.cell (World.block_lt_of_cell? w _ hx989_1)).trans hx989_1; have HR989_1 := Aside0.mk hi989_1; have HC989_1 := Aside0.mk hl989_1; clear hi989_1 hl989_1; replace p989 := eq_true p989; replace q989 := eq_true q989; go_wp2_with (first | ((with_reducible refine gate_callee (f := 95) rfl ?_); refine goesL_ (some 23) rfl rfl Try.func95 (by kernel_rfl) rfl #[.agg #[.int .i64 ((rd_T97 l0 x5_1).f0), .slice A989_1 ((rd_T97 l0 x5_1).f1).length c989_1], .int .i64 x1_1] rfl (by (try simp only [List.map_toArray, List.map_cons, List.map_nil]); first | done | rfl | (simp only [List.length_drop, List.length_take]; rfl)) ?_; (with_reducible refine (laws_szPacked.calls k1 ((rd_T97 l0 x5_1).f0) _ _ ((rd_T97 l0 x5_1).f1) x1_1 t990 _ ?side1 ?side2 A6.out).mono ?_); (case side1 => repeat (first | exact (Kd.C_below HR989_1.out HB.out) | (with_reducible refine Kd.C_alloc ?_ _) | (with_reducible refine Kd.C_drewN ?_ _) | (with_reducible refine Kd.C_drew ?_))); (case side2 => exact HC989_1.out); rintro e w9 ⟨rfl, hb⟩; refine ⟨_, rfl, ?_⟩; have n0_ := Aside0.mk (below_step (by repeat (first | (with_reducible first | exact HB.out | apply below_alloc | apply pw_below_drewN | apply below_drew1) | exact HB.out)) hb); clear HB; have HB := n0_; clear n0_; (try clear hb); (try clear hb2); (try clear hk); (try clear hi))); go_roundg k1
       case measure => have := HK1.out; omega
       case rel => exact ⟨(t990), (wrap64 (x5_1 + 1)), (by first | rfl | (simp; done) | (simp [*]; done)), (by first | rfl | (simp; done) | (simp [*]; done)), H', ⟨by have := HK1.out; omega⟩, ⟨by repeat (first | (with_reducible first | exact HB.out | apply below_alloc | apply pw_below_drewN | apply below_drew1) | exact HB.out)⟩⟩
     ·rw [if_neg c5] at H; exact absurd H (by simp)
    ·rw [if_neg c4] at H; have c4b0 : decide (x5_1 < (l0.length : Int)) = false := decide_eq_false c4; clear c4; obtain rfl := Option.some.inj H; go_wp2; go_ret; exact ⟨by first | rfl | (simp <;> rfl) | (simp [*] <;> rfl), by repeat (first | (with_reducible first | exact HB.out | apply below_alloc | apply pw_below_drewN | apply below_drew1) | exact HB.out)⟩
end Go.Proofs.Ytfnhjaiioojbkaa.Q
end
section
namespace Go.Proofs.Ytfnhjaiioojbkaa.Q
open Go.RowKit Go.Proofs.YtfnhjaiioojbkaaW.PrintWords
set_option linter.unusedVariables false
set_option linter.unusedSimpArgs false
abbrev Pq := S97
theorem rdPq {l : List Pq} {i : Nat} (h : i < l.length) : rd_T97 l (i : Int) = l[i] := by simp [rd_T97, List.getD_eq_getElem?_getD, h]
def BigP (l : List Pq) : Prop := l.length ≤ 9223372036854775807 ∧ ∀ x ∈ l, BigD x.f1
def SmP (l : List Pq) : Prop := l.length ≤ 1000000 ∧ ∀ x ∈ l, SmQ x.f1
theorem szP0_ev {l : List Pq} (h : BigP l) (hl : l.length ≤ 1000000) : ∀ (d i : Nat) (a : Int), l.length - i = d → i ≤ l.length → 0 ≤ a → a ≤ 1000000 →
    ∃ r, Ev (fun k => laws_szPackedS.l0 k l a i) r ∧ -1 ≤ r ∧ r ≤ 1000000 ∧ (0 ≤ r → ∀ j (hj : j < l.length), i ≤ j → SmQ l[j].f1)
  | 0, i, a, hd, hi, h0, h1 => by
    refine ⟨a, Ev.step' ?_, by omega, h1, fun _ j hj hij => absurd hj (by omega)⟩
    simp only [laws_szPackedS.l0]
    exact Ev.negf (by omega) (Ev.now _)
  | d + 1, i, a, hd, hi, h0, h1 => by
    have hi' : i < l.length := by omega
    obtain ⟨z, hz, z1, z2, z3⟩ := szD_ev (h.2 l[i] (List.getElem_mem hi')) h0 h1
    by_cases c : z < 0
    · refine ⟨-1, Ev.step' ?_, by omega, by omega, fun hr => absurd hr (by omega)⟩
      simp only [laws_szPackedS.l0, rdPq hi']
      refine Ev.posf (by omega) (Ev.posf (by omega) (Ev.bind (a := -1) ?_ (Ev.posf (by omega) (Ev.now _))))
      unfold laws_szPacked.f
      exact Ev.bind hz (Ev.posf c (Ev.now _))
    · obtain ⟨r, hr, r1, r2, r3⟩ := szP0_ev h hl d (i + 1) z (by omega) (by omega) (by omega) (by omega)
      refine ⟨r, Ev.step' ?_, r1, r2, fun h0r j hj hij => ?_⟩
      · simp only [laws_szPackedS.l0, rdPq hi', w64_succ i (by omega)]
        refine Ev.posf (by omega) (Ev.posf (by omega) (Ev.bind (a := z) ?_ (Ev.negf c hr)))
        unfold laws_szPacked.f
        exact Ev.bind hz (Ev.negf c (Ev.now _))
      · by_cases e : j = i
        · subst e; exact z3 (by omega)
        · exact r3 h0r j hj (by omega)
theorem szP_ev {l : List Pq} (h : BigP l) {a : Int} (h0 : 0 ≤ a) (h1 : a ≤ 1000000) : ∃ r, Ev (fun k => laws_szPackedS.f k l a) r ∧ -1 ≤ r ∧ r ≤ 1000000 ∧ (0 ≤ r → SmP l) := by
  have hb := h.1
  have hw : wrap64 (a - (l.length : Int)) = a - (l.length : Int) := w64 (by omega) (by omega)
  unfold laws_szPackedS.f
  by_cases c : a - (l.length : Int) < 0
  · exact ⟨-1, Ev.posf (by rw [hw]; exact c) (Ev.now _), by omega, by omega, fun hr => absurd hr (by omega)⟩
  · obtain ⟨r, hr, r1, r2, r3⟩ := szP0_ev h (by omega) _ 0 (a - (l.length : Int)) rfl (by omega) (by omega) (by omega)
    refine ⟨r, Ev.negf (by rw [hw]; exact c) (by rw [hw]; exact hr), r1, r2, fun h0r => ⟨by omega, fun x hx => ?_⟩⟩
    obtain ⟨j, hj, rfl⟩ := List.mem_iff_getElem.mp hx
    exact r3 h0r j hj (by omega)
theorem rdPk {l : List Pk} {i : Nat} (h : i < l.length) : rd_T53 l (i : Int) = l[i] := by simp [rd_T53, List.getD_eq_getElem?_getD, h]
theorem eqP0_refl (l : List Pk) (hl : l.length ≤ 100000000) (hx : ∀ x ∈ l, x.f1.length ≤ 100000000 ∧ ∀ y ∈ x.f1, y.f2.length ≤ 100000000) : ∀ (d i : Nat), l.length - i = d → i ≤ l.length → Ev (fun k => laws_eqPackedS.l0 k l l i) true
  | 0, i, hd, hi => by
    refine Ev.step' ?_
    simp only [laws_eqPackedS.l0]
    exact Ev.negf (by omega) (Ev.now _)
  | d + 1, i, hd, hi => by
    have hi' : i < l.length := by omega
    have h2 := hx _ (List.getElem_mem hi')
    refine Ev.step' ?_
    simp only [laws_eqPackedS.l0, w64_succ i (by omega), rdPk hi']
    refine Ev.posf (by omega) (Ev.posf (by omega) (Ev.posf (by omega) (Ev.bind (a := true) ?_ (Ev.posf rfl (eqP0_refl l hl hx d (i + 1) (by omega) (by omega))))))
    unfold laws_eqPacked.f
    exact Ev.posf rfl (Ev.bind (eqD_refl _ h2.1 h2.2) (Ev.posf rfl (Ev.now _)))
theorem eqP_refl (l : List Pk) (hl : l.length ≤ 100000000) (hx : ∀ x ∈ l, x.f1.length ≤ 100000000 ∧ ∀ y ∈ x.f1, y.f2.length ≤ 100000000) : Ev (fun k => laws_eqPackedS.f k l l) true := by
  unfold laws_eqPackedS.f
  exact Ev.posf rfl (eqP0_refl l hl hx _ 0 rfl (by omega))
section
variable {H : Type} {enc : TypeId × Value → H} {w : World} {base : Nat} {spare : Nat → Bool} {held : Bool}
set_option maxRecDepth 100000 in
theorem opens_P : Opens enc Try.prog w base spare held 97 k97 (fun x => BigD x.f1) := fun fuel cs x h => by
  obtain ⟨y0, y1, n, _, hl, h0, h1⟩ := Go.ChangeShapes.trod_struct2 Try.underlying97 h
  have hl3 : cs.length = 2 := hl.trans (by kernel_rfl)
  obtain ⟨c0, c1, rfl⟩ : ∃ c0 c1, cs = [c0, c1] := by match cs, hl3 with | [a, b], _ => exact ⟨a, b, rfl⟩
  obtain ⟨a0, k0, _⟩ := opens_int Try.underlying3 _ _ _ h0
  obtain ⟨a1, k1, g1⟩ := opens_DS _ _ _ h1
  exact ⟨⟨a0, a1⟩, ⟨[c0], [c1], rfl, k0, k1⟩, g1⟩
set_option maxRecDepth 100000 in
theorem opens_PS : Opens enc Try.prog w base spare held 61 (Kd.slice 97 k97) BigP :=
  opens_slice Try.underlying61 (by kernel_rfl) opens_P
end
def toPk (x : Pq) : Pk := ⟨x.f0, x.f1.map toP⟩
theorem fulPS_len (b : Bool) (l : List Pq) : (fulPS b l).2 = l.length := by
  unfold fulPS
  split
  case isTrue h => rw [h.2]; rfl
  case isFalse h => rfl
theorem fulPS_false (l : List Pq) : fulPS false l = (l.map (toPF false) ++ List.replicate (room l.length) fillPF, l.length) := by
  unfold fulPS
  rw [if_neg (fun h => by cases h.1)]
theorem fulPS_take (b : Bool) (l : List Pq) : ((fulPS b l).1.take (fulPS b l).2).map plP = l.map toPk := by
  have e : plP ∘ toPF b = toPk := by funext x; show (⟨x.f0, ((fulDS b x.f1).1.take (fulDS b x.f1).2).map plD⟩ : Pk) = ⟨x.f0, x.f1.map toP⟩; rw [fulDS_take]
  unfold fulPS
  split
  case isTrue h => rw [h.2]; rfl
  case isFalse h => simp [e]
theorem okP_eq (l : List Pq) (hq : SmP l) : PkS (l.map toPk) := ⟨by rw [List.length_map]; exact hq.1, fun x hx => by
  obtain ⟨y, hy, rfl⟩ := List.mem_map.mp hx
  exact okD_eq _ (hq.2 y hy)⟩
theorem fulD_false (l : List Dq) (hq : SmQ l) : FulN (fulDS false l).1.length (fulDS false l).2 ∧ FulD (fulDS false l).1 (fulDS false l).2 := by
  have e : (fulDS false l).2 = l.length := fulDS_len _ _
  rw [e]
  refine ⟨?_, fun i hi => rdDF_ful l hq i hi, spare_ev l hq⟩
  rw [fulDS_false]
  exact ⟨by simp, hq.1⟩
theorem rdPF_ful (l : List Pq) (hq : SmP l) (i : Nat) (hi : i < l.length) : FulN (rd_PF (fulPS false l).1 i).2.1.length (rd_PF (fulPS false l).1 i).2.2 ∧ FulD (rd_PF (fulPS false l).1 i).2.1 (rd_PF (fulPS false l).1 i).2.2 := by
  rw [fulPS_false]
  have e : rd_PF (l.map (toPF false) ++ List.replicate (room l.length) fillPF) (i : Int) = toPF false l[i] := by
    simp [rd_PF, List.getD_eq_getElem?_getD, List.getElem?_append_left, hi]
  rw [e]
  exact fulD_false _ (hq.2 _ (List.getElem_mem hi))
theorem spareP_ev (l : List Pq) (hq : SmP l) : ∃ K, laws_eqPackedS.f K (((fulPS false l).1.drop l.length).map plP) (((fulPS false l).1.drop l.length).map plP) = some true := by
  have e : (fulPS false l).1.drop l.length = List.replicate (room l.length) fillPF := by rw [fulPS_false]; simp
  rw [e]
  have := room_le l.length
  have h1 := hq.1
  obtain ⟨K, hK⟩ := eqP_refl ((List.replicate (room l.length) fillPF).map plP) (by simp; omega) (fun x hx => by
    obtain ⟨y, hy, rfl⟩ := List.mem_map.mp hx
    obtain rfl := List.eq_of_mem_replicate hy
    refine ⟨by decide, fun z hz => ?_⟩
    obtain rfl : z = plD fillDF := by simpa [plP, fillPF] using hz
    decide)
  exact ⟨K, hK K (Nat.le_refl _)⟩
end Go.Proofs.Ytfnhjaiioojbkaa.Q
end
section
namespace Go.Proofs.Ytfnhjaiioojbkaa.Q
open Go.RowKit Go.Proofs.YtfnhjaiioojbkaaW.PrintWords Go.Proofs.YtfnhjaiioojbkaaW.PrintLast Go.Proofs.YtfnhjaiioojbkaaW.PrintMore
attribute [local go_sem] max2_int min2_int max_two min_two max_three min_three max_four min_four
set_option linter.unusedVariables false
set_option linter.unusedSimpArgs false
/-- As a slice, its elements' rows apart. -/
def slS {α : Type} (e : Nat) (d : Kd α) : Kd (List α) where
  sz := 1
  E := e :: d.E
  K := fun w xs cs => ∃ A c, cs = [.slice A xs.length c] ∧ xs.length ≤ c ∧ d.C w A xs.length xs
  M := fun w base ok xs cs => ∃ v, cs = [v] ∧ Kd.S d e w base ok v xs
  K_len := by
    rintro w x cs ⟨A, c, rfl, _⟩
    rfl
  K_one := by
    rintro w x cs ⟨A, c, rfl, _⟩ u hu
    rw [List.mem_singleton.1 hu]
    rfl
  K_below := by
    rintro w w1 x cs hb ⟨A, c, rfl, hl, hr⟩
    exact ⟨A, c, rfl, hl, Kd.C_below hr hb⟩
  K_of_M := by
    rintro w base ok x cs ⟨v, rfl, h⟩
    obtain ⟨A, c, rfl, hl, hr⟩ := Kd.S_reads h
    exact ⟨A, c, rfl, hl, hr⟩
  M_mono := by
    rintro w base ok ok' x cs hok ⟨v, rfl, h⟩
    exact ⟨v, rfl, Kd.S_mono h hok⟩
  M_bound := by
    rintro w base ok x cs ⟨v, rfl, h⟩
    exact ⟨v, rfl, Kd.S_bound h⟩
  M_move := by
    rintro w w1 base ok x cs hm ⟨v, rfl, h⟩
    exact ⟨v, rfl, Kd.S_move h hm⟩
  M_lower := by
    rintro w base base' ok x cs hb ⟨v, rfl, h⟩
    exact ⟨v, rfl, Kd.S_lower h hb⟩
def kPQ : Kd Pk := Kd.iso (Kd.pair (Kd.int .i64) (slS 39 k39)) (fun x : Pk => (x.f0, x.f1))
theorem kPQ_openM {w : World} {base : Nat} {ok : Nat → Prop} {x : Pk} {cs : List Value} (h : kPQ.M w base ok x cs) : ∃ v, cs = [.int .i64 x.f0, v] ∧ Kd.S k39 39 w base ok v x.f1 := by
  obtain ⟨_, _, rfl, rfl, ⟨v, rfl, g⟩⟩ := h
  exact ⟨v, rfl, g⟩
theorem kPQ_mkM {w : World} {base : Nat} {ok : Nat → Prop} {x : Pk} {v : Value} (g : Kd.S k39 39 w base ok v x.f1) : kPQ.M w base ok x [.int .i64 x.f0, v] := ⟨[.int .i64 x.f0], [v], rfl, rfl, ⟨v, rfl, g⟩⟩
theorem plP_M {w : World} {base : Nat} {ok : Nat → Prop} {x : Int × (List (Int × Int × (List ByteArray × Nat)) × Nat)} {cs : List Value} (h : kPF.M w base ok x cs) : kPQ.M w base ok (plP x) cs := by
  obtain ⟨c0, c1, rfl, h0, ⟨A, c, rfl, hn, hr⟩⟩ := h
  exact ⟨c0, _, rfl, h0, ⟨_, rfl, S_map (d := kDF) (d' := k39) (f := plD) rfl (fun _ _ _ hM => plD_M hM) (Kd.S_take hr hn)⟩⟩
theorem C_PQ {w : World} {A : Option Addr} {n : Nat} {xs : List Pk} (h : Kd.C kPQ w A n xs) : Kd.C k53 w A n xs := by
  have := C_map (d := kPQ) (d' := k53) (f := id) rfl (fun w x cs h => h) h rfl
  simpa using this
theorem toPSm (A0 : Option Addr) (c0 : Nat) (l0 : List Pq) (b : Bool) (w : World) (hr0 : Kd.C k97 w A0 l0.length l0) (hq : SmP l0) (P : List Pk) (hP : l0.map toPk = P) :
    Calls Try.prog 51 #[.slice A0 l0.length c0, .bool b] w fun e w' => ∃ A c, e = .returned (.slice A P.length c) ∧ P.length ≤ c ∧ Kd.S kPQ 53 w' w.heap.size (fun _ => True) (.slice A P.length c) P ∧
      (b = false → Kd.C kPF w' A (fulPS false l0).1.length (fulPS false l0).1 ∧ (fulPS false l0).1.length ≤ c) ∧ Below w.heap.size w w' :=
  (toPS_calls A0 c0 l0 b w hr0 hq.1 hq.2).mono fun e w' ⟨A, c, he, hn, ho, hb⟩ => by
    subst hP
    obtain ⟨_, h1, h2⟩ := Kd.S_reads' ho
    have h3 := S_map (d := kPF) (d' := kPQ) (f := plP) rfl (fun _ _ _ hM => plP_M hM) (Kd.S_take ho hn)
    rw [fulPS_take] at h3
    have hl : (l0.map toPk).length = (fulPS b l0).2 := by rw [List.length_map, fulPS_len]
    refine ⟨A, c, by rw [hl]; exact he, by rw [hl]; omega, by rw [hl]; exact Kd.S_mono h3 (fun _ _ => trivial), fun hb0 => ?_, hb⟩
    subst hb0
    exact ⟨h2, h1⟩
def cnP : List Pk → Int
  | [] => 0
  | x :: t => 1 + cnD x.f1 + cnP t
def mkP (mt : Int → ByteArray) : List Pk → Int → List Pk
  | [], _ => []
  | x :: t, a => ⟨a, mkD mt x.f1 (a + 1)⟩ :: mkP mt t (a + (1 + cnD x.f1))
theorem cnP_nn : ∀ l, 0 ≤ cnP l
  | [] => by simp [cnP]
  | x :: t => by have := cnP_nn t; have := cnD_nn x.f1; simp only [cnP]; omega
theorem cnP_apps : ∀ (l m : List Pk), cnP (l ++ m) = cnP l + cnP m
  | [], m => by simp [cnP]
  | y :: t, m => by rw [List.cons_append, cnP, cnP_apps t m, cnP]; omega
theorem mkP_apps (mt : Int → ByteArray) : ∀ (l r : List Pk) (a : Int), mkP mt (l ++ r) a = mkP mt l a ++ mkP mt r (a + cnP l)
  | [], r, a => by simp [mkP, cnP]
  | x :: t, r, a => by rw [List.cons_append, mkP, mkP_apps mt t r, mkP, cnP, List.cons_append, show a + (1 + cnD x.f1) + cnP t = a + (1 + cnD x.f1 + cnP t) by omega]
theorem mkP_len (mt : Int → ByteArray) : ∀ (l : List Pk) (a : Int), (mkP mt l a).length = l.length
  | [], a => rfl
  | x :: t, a => by simp [mkP, mkP_len mt t]
theorem cnP_take {l : List Pk} {i : Nat} (h : i < l.length) : cnP (l.take (i + 1)) = cnP (l.take i) + (1 + cnD l[i].f1) := by
  rw [← List.take_append_getElem h, cnP_apps]; simp [cnP]
theorem cnP_le (l : List Pk) (i : Nat) : cnP (l.take i) ≤ cnP l := by
  have h : cnP l = cnP (l.take i) + cnP (l.drop i) := by rw [← cnP_apps, List.take_append_drop]
  have := cnP_nn (l.drop i)
  omega
theorem kPQ_g0 {W : World} {base : Nat} {a : Int} {x : Pk} {p q : List Pk} {i : Nat} (hp : i = p.length) (oki : Nat → Prop) (c : List Value) (hl : c.length = kPQ.sz) (h : kPQ.M W base oki ((p ++ x :: q).getD (i : Int).toNat z53) c) : kPQ.M W base oki ⟨a, x.f1⟩ (c.take 0 ++ [.int .i64 a] ++ c.drop (0 + 1)) := by
  rw [Int.toNat_natCast, get_mid _ _ _ _ _ hp] at h
  obtain ⟨v, rfl, g⟩ := kPQ_openM h
  exact kPQ_mkM (x := ⟨a, x.f1⟩) g
theorem lend_pieces {W : World} {base : Nat} {ok : Nat → Prop} {g n cap : Nat} {p q : List Pk} {x : Pk} {i : Nat} (hp : i = p.length) (h : Kd.S kPQ 53 W base ok (.slice (some ⟨g, 0, none⟩) n cap) (p ++ x :: q)) (hi : (i : Int) < (n : Int)) :
    ∃ (oki : Nat → Prop) (A : Option Addr) (c : Nat), Kd.S k39 39 W base oki (.slice A x.f1.length c) x.f1 ∧ W.cell? ⟨g, i * 2 + 1, none⟩ = some (.slice A x.f1.length c) ∧ (∀ k, oki k → ok k) ∧
      Kd.H kPQ 53 W base ok (.slice (some ⟨g, 0, none⟩) n cap) (p ++ x :: q) (i : Int) oki [.int .i64 x.f0, .slice A x.f1.length c] := by
  obtain ⟨oki, c, hcl, hM, hcc, hoki, hH⟩ := Kd.S_lend h z53 (i : Int) (by omega) hi
  rw [Int.toNat_natCast, get_mid _ _ _ _ _ hp] at hM
  obtain ⟨v, rfl, g2⟩ := kPQ_openM hM
  obtain ⟨A, c2, rfl⟩ := Kd.S_slice g2
  exact ⟨oki, A, c2, g2, hcc 1 _ rfl, fun k hk => (hoki k hk).1, hH⟩
theorem back_pieces {W w1 : World} {base : Nat} {ok oki : Nat → Prop} {g n cap c : Nat} {A : Option Addr} {p q : List Pk} {x : Pk} {i : Nat} {m : Nat} {l : List Dl} (hp : i = p.length) (hH : Kd.H kPQ 53 W base ok (.slice (some ⟨g, 0, none⟩) n cap) (p ++ x :: q) (i : Int) oki [.int .i64 x.f0, .slice A m c])
    (hr : Kd.S k39 39 w1 base (fun k => oki k ∨ W.heap.size ≤ k) (.slice A m c) l) (hk : Kept W w1 oki) (hok : ∀ k, W.heap.size ≤ k → ok k) :
    Kd.S kPQ 53 w1 base ok (.slice (some ⟨g, 0, none⟩) n cap) (p ++ ⟨x.f0, l⟩ :: q) := by
  have h2 := Kd.H_step (Kd.H_widen hH) (w1 := w1) (fun k _ hn hlt => hk.2 k hlt (fun h => hn (.inl h)))
  have h3 := Kd.H_back h2 (x' := ⟨x.f0, l⟩) (kPQ_mkM (x := ⟨x.f0, l⟩) hr) (fun k hk => hk.elim .inl (fun h => .inr ⟨hok k h, h⟩))
  rw [Int.toNat_natCast, set_mid _ _ _ _ _ hp] at h3
  exact h3
set_option maxHeartbeats 4000000 in
set_option maxRecDepth 100000 in
theorem markPS_calls {mt : Int → ByteArray} (hm : Mt mt) (P0 : Nat → Prop) (u : Value) (l : List Pk) (a : Int) (w0 w : World) (hB : Below w0.heap.size w0 w) (ho : Kd.S kPQ 53 w w0.heap.size P0 u l) (h0 : 0 ≤ a) (hl : l.length ≤ 1000000) (hx : ∀ x ∈ l, x.f1.length ≤ 1000000) (h1 : a + cnP l ≤ 4000000000000000000) :
    Calls Try.prog 58 #[u, .int .i64 a] w fun e w' => e = .returned (.int .i64 (a + cnP l)) ∧ Kd.S kPQ 53 w' w0.heap.size (fun k => P0 k ∨ w.heap.size ≤ k) u (mkP mt l a) ∧ Below w0.heap.size w0 w' ∧ Kept w w' P0 := by
  have hu53 := Try.underlying53
  obtain ⟨A, c, rfl⟩ := Kd.S_slice ho
  have HO := Aside0.mk (Kd.S_mono (ok' := fun k => P0 k ∨ w.heap.size ≤ k) ho (fun k hk => .inl hk))
  have HB := Aside0.mk hB
  have HK := Aside0.mk (Kept.refl w P0)
  have HM := Aside0.mk hm
  have H0 := Aside0.mk h0
  have H1 := Aside0.mk h1
  have HL := Aside0.mk hl
  have HX := Aside0.mk hx
  clear ho hB hm h0 h1 hl hx
  go_enter Try.func58, Try.ntmps58
  go_wp2
  go_loopg [1, 5] l.length (fun gg v1 v5 wr => ∃ i : Nat, v1 = .int .i64 (a + cnP (l.take i)) ∧ v5 = .int .i64 i ∧ i ≤ l.length ∧ l.length - i ≤ gg ∧ Aside0 (Kd.S kPQ 53 wr w0.heap.size (fun k => P0 k ∨ w.heap.size ≤ k) (.slice A l.length c) (mkP mt (l.take i) a ++ l.drop i)) ∧ Aside0 (Kept w wr P0) ∧ Aside0 (Below w0.heap.size w0 wr))
  case atStart => exact ⟨0, by simp [cnP], rfl, Nat.zero_le _, by omega, HO, HK, HB⟩
  case round =>
    clear HO HB HK
    obtain ⟨i, rfl, rfl, hi, hg, HO, HK, HB⟩ := hrel
    by_cases hlt : i < l.length
    · have HLT := Aside0.mk hlt
      have hltz : (i : Int) < (l.length : Int) := by omega
      have hzz : 0 ≤ (i : Int) := by omega
      have hib : i ≤ 1000000 := by have := HL.out; omega
      have hct := cnP_take hlt
      have hle := cnP_le l (i + 1)
      have hnn := cnP_nn (l.take i)
      have hnd := cnD_nn l[i].f1
      obtain ⟨kk, hkk⟩ : ∃ kk, a + cnP (l.take i) = kk := ⟨_, rfl⟩
      have HKK := Aside0.mk hkk
      rw [hkk]
      obtain ⟨nx, hnx⟩ : ∃ nx, kk + 1 + cnD l[i].f1 = nx := ⟨_, rfl⟩
      have HR := Aside0.mk (show 0 ≤ kk ∧ kk + 1 + cnD l[i].f1 ≤ 4000000000000000000 ∧ a + cnP (l.take (i + 1)) = nx ∧ 0 ≤ cnD l[i].f1 by have := H0.out; have := H1.out; omega)
      have HNX := Aside0.mk hnx
      have HLX := Aside0.mk (HX.out l[i] (List.getElem_mem hlt))
      have hpl : i = (mkP mt (l.take i) a).length := by rw [mkP_len, List.length_take]; omega
      have HPL := Aside0.mk hpl
      rw [List.drop_eq_getElem_cons hlt] at HO
      obtain ⟨go, co', eo, gb, gl, cl, HG⟩ := Kd.S_form HO.out (by simp; omega)
      injection eo with ea en ec
      subst ea
      subst ec
      have GB := Aside0.mk gb
      clear gb gl HG en hct hle hnn hkk hnd hnx
      have hgo : P0 go ∨ w.heap.size ≤ go := (Kd.S_R HO.out).1 go rfl
      have HGO := Aside0.mk hgo
      obtain ⟨⟨cc, hcl, hcc⟩, hfr, p1, p2⟩ := S_field HO.out z53 (i : Int) hzz hltz 0 (by decide) (.int .i64 kk) ⟨kk, l[i].f1⟩ (kPQ_g0 HPL.out)
      obtain ⟨u0, u1, rfl⟩ : ∃ u0 u1, cc = [u0, u1] := (by match cc, hcl with | [a, b], _ => exact ⟨a, b, rfl⟩)
      have hz0 := hcc 0 _ rfl
      have hf0 := hfr 0
      simp only [show kPQ.sz = 2 from rfl, Int.toNat_natCast, Nat.add_zero] at hz0 hf0 p1 p2
      rw [set_mid _ _ _ _ _ HPL.out] at p1
      have P1 := Aside0.mk p1
      have P2 := Aside0.mk p2
      clear hcc hfr p1 p2 hcl hpl hgo
      obtain ⟨XD, hXD⟩ : ∃ X, mkD mt l[i].f1 (kk + 1) = X := ⟨_, rfl⟩
      have HXD := Aside0.mk hXD
      clear hXD
      have hw1 : wrap64 (kk + 1) = kk + 1 := by have := HR.out; exact w64 (by omega) (by omega)
      have hw1b : (IntKind.i64.wrap (kk + 1)) = kk + 1 := (i64_w _).trans hw1
      go_wp2_with (first | ((with_reducible refine gate_store (t := 3) (p := 16) rfl ?_); refine store_event (t := 3) (p := 16) (v := ?vo1) (w1 := (wr.setCell ⟨go, i * 2, none⟩ (.int .i64 kk))) ?hg ?ho ?hn ?hr ?_; (case ho => rfl); (case hg => rfl); (case hn => rfl); (case hr => first | (go_simp; done) | (go_simp; rfl)); intro w4 hw; rw [← hw] at P1 P2; have nb_ := Aside0.mk ((by rw [hw]; exact below_set (HB.out) GB.out : Below w0.heap.size w0 w4)); have nk_ := Aside0.mk (Kept.of_grown P2.out HK.out (fun k hk => by injection hk with hk; subst hk; exact HGO.out)); clear HB HK HO P2 hw; have HB := nb_; have HK := nk_; clear nb_ nk_; obtain ⟨oki, A2, c2, g2, hz1, hok2, hH2⟩ := lend_pieces HPL.out P1.out hltz; have G2 := Aside0.mk g2; have OK2 := Aside0.mk hok2; have HH2 := Aside0.mk hH2; clear g2 hok2 hH2 P1) | ((with_reducible refine gate_callee (f := 32) rfl ?_); refine goesL_ (some 25) rfl rfl Try.func32 (by kernel_rfl) rfl #[.slice A2 l[i].f1.length c2, .int .i64 (kk + 1)] rfl (by (try simp only [List.map_toArray, List.map_cons, List.map_nil]); first | done | rfl) ?_; (refine (markDSp HM.out oki _ l[i].f1 (kk + 1) nx w0 _ (by exact HB.out) (by exact G2.out) (by have := HR.out; omega) HLX.out (by have := HR.out; omega) HNX.out XD HXD.out).mono ?_); rintro e w6 ⟨rfl, hr, hb, hk⟩; refine ⟨_, rfl, ?_⟩; have hS := back_pieces HPL.out HH2.out hr hk (fun k h => .inr (Nat.le_trans HK.out.1 h)); have nk_ := Aside0.mk (Kept.then_ HK.out hk (fun k h => OK2.out k h)); clear HK HB; have HK := nk_; have HB := Aside0.mk hb; have HO := Aside0.mk hS; clear nk_ hb hS hr hk))
      have hR := HR.out
      rw [show (⟨kk, XD⟩ : Pk) :: l.drop (i + 1) = [⟨kk, XD⟩] ++ l.drop (i + 1) from rfl, ← List.append_assoc] at HO
      have hmk : mkP mt (l.take i) a ++ [⟨kk, XD⟩] = mkP mt (l.take (i + 1)) a := by
        rw [← List.take_append_getElem HLT.out, mkP_apps, HKK.out, ← HXD.out]; rfl
      rw [hmk] at HO
      clear hmk hw1 hw1b
      go_roundg (l.length - (i + 1))
      case measure => have := HLT.out; omega
      case rel => exact ⟨i + 1, by rw [hR.2.2.1], by go_num, HLT.out, by omega, HO, HK, HB⟩
    · obtain rfl : i = l.length := by omega
      have hltz : ¬ (l.length : Int) < (l.length : Int) := by omega
      rw [List.take_length] at HO ⊢
      rw [List.drop_length, List.append_nil] at HO
      go_wp2
      go_ret
      exact ⟨rfl, HO.out, HB.out, HK.out⟩
theorem markPSp {mt : Int → ByteArray} (hm : Mt mt) (P0 : Nat → Prop) (u : Value) (l : List Pk) (a m : Int) (w0 w : World) (hB : Below w0.heap.size w0 w) (ho : Kd.S kPQ 53 w w0.heap.size P0 u l) (h0 : 0 ≤ a) (hl : l.length ≤ 1000000) (hx : ∀ x ∈ l, x.f1.length ≤ 1000000) (h1 : a + cnP l ≤ 4000000000000000000) (he : a + cnP l = m) (X : List Pk) (hX : mkP mt l a = X) :
    Calls Try.prog 58 #[u, .int .i64 a] w fun e w' => e = .returned (.int .i64 m) ∧ Kd.S kPQ 53 w' w0.heap.size (fun k => P0 k ∨ w.heap.size ≤ k) u X ∧ Below w0.heap.size w0 w' ∧ Kept w w' P0 := by
  subst he
  subst hX
  exact markPS_calls hm P0 u l a w0 w hB ho h0 hl hx h1
end Go.Proofs.Ytfnhjaiioojbkaa.Q
end
section
namespace Go.Proofs.Ytfnhjaiioojbkaa.Q
open Go.RowKit Go.Proofs.YtfnhjaiioojbkaaW.PrintWords Go.Proofs.YtfnhjaiioojbkaaW.PrintLast Go.Proofs.YtfnhjaiioojbkaaW.PrintMore
attribute [local go_sem] max2_int min2_int max_two min_two max_three min_three max_four min_four
set_option linter.unusedVariables false
set_option linter.unusedSimpArgs false
theorem cnD_big2 : ∀ (l : List Dl), (∀ x ∈ l, x.f2.length ≤ 1000000) → cnD l ≤ 1000002 * l.length
  | [], _ => by simp [cnD]
  | x :: t, h => by
    have h1 := h x List.mem_cons_self
    have h2 := cnD_big2 t (fun y hy => h y (List.mem_cons_of_mem _ hy))
    simp only [cnD, List.length_cons]; omega
theorem cnP_big : ∀ (l : List Pk), (∀ x ∈ l, x.f1.length ≤ 1000000 ∧ ∀ y ∈ x.f1, y.f2.length ≤ 1000000) → cnP l ≤ 1000002000001 * l.length
  | [], _ => by simp [cnP]
  | x :: t, h => by
    have h1 := h x List.mem_cons_self
    have h2 := cnP_big t (fun y hy => h y (List.mem_cons_of_mem _ hy))
    have h3 := cnD_big2 x.f1 h1.2
    have h4 := h1.1
    simp only [cnP, List.length_cons]; omega
theorem getB_len10 (P : List Pk) (a : Int) : (getB P a).1.length ≤ 10 := by
  unfold getB
  cases h : unG P P.length with
  | none => simp
  | some q =>
    simp only
    split
    case isTrue c => exact textB_len ((unG_good _ q h).2.2.2 a.toNat (by omega)).1
    case isFalse => simp
set_option maxHeartbeats 3000000 in
set_option maxRecDepth 100000 in
theorem fnExactPackGet_walk (A0 : Option Addr) (c0 : Nat) (l0 : List Pq) (a1 : Int) (w : World) (hr0 : Kd.C k97 w A0 l0.length l0) (hc0 : l0.length ≤ c0) (hb0 : BigP l0) (hw1 : (Lit.int .i64 a1).wf = true) :
    Calls Try.prog 14 #[.slice A0 l0.length c0, .int .i64 a1] w fun e w' => e = .returned (.bool true) ∧ Below w.heap.size w w' := by
  obtain ⟨z0, ⟨kz0, hz0⟩, za1, za2, za3⟩ := szP_ev hb0 (a := 1000000) (by omega) (by omega)
  have HZ0 := Aside0.mk (hz0 kz0 (Nat.le_refl _))
  have HR0 := Aside0.mk hr0
  have HC0 := Aside0.mk hc0
  have HB := Aside0.mk (Below.refl w.heap.size w)
  have HZ := Aside0.mk (Nat.le_refl w.heap.size)
  clear hz0 hr0 hc0 hb0 hw1
  by_cases cz0 : z0 < 0
  · have cb : decide (z0 < 0) = true := decide_eq_true cz0
    clear cz0 za1 za2 za3
    go_enter Try.func14, Try.ntmps14
    go_wp2_with (first | ((with_reducible refine gate_callee (f := 50) rfl ?_); (try (refine gate_guard (by rfl) ?_; dsimp only)); refine goesL_ (some 18) rfl rfl Try.func50 (by kernel_rfl) rfl #[.slice A0 l0.length c0, .int .i64 1000000] rfl (by (try simp only [List.map_toArray, List.map_cons, List.map_nil]); first | done | rfl) ?_; (refine (laws_szPackedS.calls kz0 _ _ l0 1000000 z0 _ (by exact Kd.C_below HR0.out (by repeat (first | (with_reducible first | exact HB.out | apply below_alloc | apply pw_below_drewN | apply below_drew1) | exact HB.out))) HC0.out HZ0.out).mono ?_); rintro e w1 ⟨rfl, hb⟩; refine ⟨_, rfl, ?_⟩; have nb_ := Aside0.mk (below_step (by repeat (first | (with_reducible first | exact HB.out | apply below_alloc | apply pw_below_drewN | apply below_drew1) | exact HB.out)) hb); have nz_ := Aside0.mk (Nat.le_trans (by exact HZ.out) (below_size hb)); clear HB HZ; have HB := nb_; have HZ := nz_; clear nb_ nz_ hb))
    go_ret
    exact ⟨rfl, HB.out⟩
  · have cb0 : decide (z0 < 0) = false := decide_eq_false cz0
    have Sm0 := Aside0.mk (za3 (by omega))
    clear cz0 za1 za2 za3
    obtain ⟨P0, hP⟩ : ∃ P, l0.map toPk = P := ⟨_, rfl⟩
    have HP0 := Aside0.mk hP
    have hS := okP_eq l0 Sm0.out
    rw [hP] at hS
    have hPl : P0.length = l0.length := by rw [← hP]; simp
    obtain ⟨R, rb, hR⟩ : ∃ R rb, getB P0 a1 = (R, rb) := ⟨_, _, rfl⟩
    have hRl : R.length ≤ 10 := by have := getB_len10 P0 a1; rw [hR] at this; exact this
    obtain ⟨k1, h1⟩ := specGetAny_ev hS a1
    obtain ⟨k2, h2⟩ := implGetAny_ev hS a1
    rw [hR] at h1 h2
    have H1 := Aside0.mk (h1 k1 (Nat.le_refl _))
    have H2 := Aside0.mk (h2 k2 (Nat.le_refl _))
    clear hR h1 h2
    obtain ⟨ke, he⟩ := eqS_refl R (by omega)
    have HE := Aside0.mk (he ke (Nat.le_refl _))
    obtain ⟨mt, hmt⟩ := exists_mt
    have HMt := Aside0.mk hmt
    have HN0 := Aside0.mk (show FulN (fulPS false l0).1.length P0.length by
      rw [fulPS_false, hPl]
      exact ⟨by simp, Sm0.out.1⟩)
    have HEl0 := Aside0.mk (show ∀ i : Nat, i < P0.length → FulN (rd_PF (fulPS false l0).1 i).2.1.length (rd_PF (fulPS false l0).1 i).2.2 ∧ FulD (rd_PF (fulPS false l0).1 i).2.1 (rd_PF (fulPS false l0).1 i).2.2 from fun i hi => rdPF_ful l0 Sm0.out i (by rw [← hPl]; exact hi))
    have HQl0 := Aside0.mk (show ∃ K, laws_eqPackedS.f K (((fulPS false l0).1.drop P0.length).map plP) (((fulPS false l0).1.drop P0.length).map plP) = some true by rw [hPl]; exact spareP_ev l0 Sm0.out)
    have hl0 := Sm0.out.1
    have hxl0 : ∀ x ∈ P0, x.f1.length ≤ 1000000 := fun x hx => (hS.2 x hx).1
    have hcn := cnP_big P0 (fun x hx => ⟨(hS.2 x hx).1, fun y hy => ((hS.2 x hx).2 y hy).1⟩)
    have nn := cnP_nn P0
    obtain ⟨k1_, hk1⟩ : ∃ k, 101 + cnP P0 = k := ⟨_, rfl⟩
    obtain ⟨XP_, hXP⟩ : ∃ X, mkP mt P0 101 = X := ⟨_, rfl⟩
    have HXPe := Aside0.mk hXP
    clear hXP
    have HMb := Aside0.mk (show P0.length ≤ 1000000 ∧ (∀ x ∈ P0, x.f1.length ≤ 1000000) ∧ 101 + cnP P0 ≤ 4000000000000000000 ∧ 101 + cnP P0 = k1_ from ⟨by omega, hxl0, by omega, hk1⟩)
    obtain ⟨kmg, hmg⟩ := markS_ev hmt R 101 (by decide) (by omega)
    obtain ⟨kh, hh⟩ := heldS_ev hmt R 101 (by decide) (by omega)
    have hxl := mkS_len mt R 101
    obtain ⟨XG_, hXG⟩ : ∃ X, mkS mt R 101 = X := ⟨_, rfl⟩
    rw [hXG] at hmg hh hxl
    have HXl := Aside0.mk hxl
    obtain ⟨m_, hm_⟩ : ∃ m, 101 + (R.length : Int) = m := ⟨_, rfl⟩
    rw [hm_] at hmg hh
    have HMg := Aside0.mk (hmg kmg (Nat.le_refl _))
    have HH := Aside0.mk (hh kh (Nat.le_refl _))
    have e1 : decide (k1_ < 0) = false := decide_eq_false (by omega)
    have e2 : decide (m_ < 0) = false := decide_eq_false (by omega)
    have e3 : (m_ != m_) = false := by simp
    have e4 : (rb != rb) = false := by simp
    clear hP hS hPl hk1 hXG he hRl hcn nn hm_ hh hmg hmt hl0 hxl hxl0
    go_enter Try.func14, Try.ntmps14
    go_wp2_with (first | ((with_reducible refine gate_callee (f := 50) rfl ?_); (try (refine gate_guard (by rfl) ?_; dsimp only)); refine goesL_ (some 18) rfl rfl Try.func50 (by kernel_rfl) rfl #[.slice A0 l0.length c0, .int .i64 1000000] rfl (by (try simp only [List.map_toArray, List.map_cons, List.map_nil]); first | done | rfl) ?_; (refine (laws_szPackedS.calls kz0 _ _ l0 1000000 z0 _ (by exact Kd.C_below HR0.out (by repeat (first | (with_reducible first | exact HB.out | apply below_alloc | apply pw_below_drewN | apply below_drew1) | exact HB.out))) HC0.out HZ0.out).mono ?_); rintro e w1 ⟨rfl, hb⟩; refine ⟨_, rfl, ?_⟩; have nb_ := Aside0.mk (below_step (by repeat (first | (with_reducible first | exact HB.out | apply below_alloc | apply pw_below_drewN | apply below_drew1) | exact HB.out)) hb); have nz_ := Aside0.mk (Nat.le_trans (by exact HZ.out) (below_size hb)); clear HB HZ; have HB := nb_; have HZ := nz_; clear nb_ nz_ hb) | ((with_reducible refine gate_callee (f := 51) rfl ?_); (try (refine gate_guard (by rfl) ?_; dsimp only)); refine goesL_ (some 23) rfl rfl Try.func51 (by kernel_rfl) rfl #[.slice A0 l0.length c0, .bool false] rfl (by (try simp only [List.map_toArray, List.map_cons, List.map_nil]); first | done | rfl) ?_; (refine (toPSm A0 c0 l0 false _ (by exact Kd.C_below HR0.out (by repeat (first | (with_reducible first | exact HB.out | apply below_alloc | apply pw_below_drewN | apply below_drew1) | exact HB.out))) Sm0.out P0 HP0.out).mono ?_); rintro e w1 ⟨A_s0, c_s0, rfl, hl_, hrow_, hf_, hb⟩; refine ⟨_, rfl, ?_⟩; have nb_ := Aside0.mk (below_step (by repeat (first | (with_reducible first | exact HB.out | apply below_alloc | apply pw_below_drewN | apply below_drew1) | exact HB.out)) hb); obtain ⟨lo_s0, hi_s0, ord_, hz_, row_⟩ := S_span hrow_ (by exact HZ.out) (below_size (by repeat (first | (with_reducible first | exact HB.out | apply below_alloc | apply pw_below_drewN | apply below_drew1) | exact HB.out))) (below_size hb); have O_s0 := Aside0.mk ord_; have nz_ := Aside0.mk hz_; have n_s0 := Aside0.mk row_; clear HB HZ; have r_s0 := n_s0; clear n_s0; have L_s0 := Aside0.mk hl_; have HB := nb_; have HZ := nz_; clear nb_ nz_ hb) | ((with_reducible refine gate_callee (f := 40) rfl ?_); (try (refine gate_guard (by rfl) ?_; dsimp only)); refine goesL_ (some 25) rfl rfl Try.func40 (by kernel_rfl) rfl #[.slice A_s0 P0.length c_s0, .int .i64 a1] rfl (by (try simp only [List.map_toArray, List.map_cons, List.map_nil]); first | done | rfl) ?_; (refine (spec_PackGet.calls k1 _ _ P0 a1 R rb _ (C_PQ ((Kd.S_reads' (by (with_reducible repeat (first | apply Kd.S_alloc | apply Kd.S_drewN | apply Kd.S_drew)); exact r_s0.out)).2.2)) L_s0.out H1.out).mono ?_); rintro e w1 ⟨v_w0, rfl, hrow_, hb⟩; refine ⟨_, rfl, ?_⟩; clear r_s0; have nb_ := Aside0.mk (below_step (by repeat (first | (with_reducible first | exact HB.out | apply below_alloc | apply pw_below_drewN | apply below_drew1) | exact HB.out)) hb); obtain ⟨lo_w0, hi_w0, ord_, hz_, row_⟩ := R_span hrow_ (by exact HZ.out) (below_size (by repeat (first | (with_reducible first | exact HB.out | apply below_alloc | apply pw_below_drewN | apply below_drew1) | exact HB.out))) (below_size hb); have O_w0 := Aside0.mk ord_; have nz_ := Aside0.mk hz_; have n_w0 := Aside0.mk row_; clear HB HZ; have r_w0 := n_w0; clear n_w0; have HB := nb_; have HZ := nz_; clear nb_ nz_ hb; obtain ⟨A_w0, c_w0, ev_⟩ := Kd.R_slice r_w0.out; subst ev_; have L_w0 := Aside0.mk (Kd.R_reads' r_w0.out).2.1) | ((with_reducible refine gate_callee (f := 51) rfl ?_); (try (refine gate_guard (by rfl) ?_; dsimp only)); refine goesL_ (some 29) rfl rfl Try.func51 (by kernel_rfl) rfl #[.slice A0 l0.length c0, .bool false] rfl (by (try simp only [List.map_toArray, List.map_cons, List.map_nil]); first | done | rfl) ?_; (refine (toPSm A0 c0 l0 false _ (by exact Kd.C_below HR0.out (by repeat (first | (with_reducible first | exact HB.out | apply below_alloc | apply pw_below_drewN | apply below_drew1) | exact HB.out))) Sm0.out P0 HP0.out).mono ?_); rintro e w1 ⟨A_x0, c_x0, rfl, hl_, hrow_, hf_, hb⟩; refine ⟨_, rfl, ?_⟩; have nb_ := Aside0.mk (below_step (by repeat (first | (with_reducible first | exact HB.out | apply below_alloc | apply pw_below_drewN | apply below_drew1) | exact HB.out)) hb); have n_w0 := Aside0.mk (Kd.R_below (by (with_reducible repeat (first | apply Kd.R_alloc | apply Kd.R_drewN | apply Kd.R_drew)); exact r_w0.out) hb); obtain ⟨lo_x0, hi_x0, ord_, hz_, row_⟩ := S_span hrow_ (by exact HZ.out) (below_size (by repeat (first | (with_reducible first | exact HB.out | apply below_alloc | apply pw_below_drewN | apply below_drew1) | exact HB.out))) (below_size hb); have O_x0 := Aside0.mk ord_; have nz_ := Aside0.mk hz_; have n_x0 := Aside0.mk row_; clear HB HZ; clear r_w0; have r_w0 := n_w0; clear n_w0; have r_x0 := n_x0; clear n_x0; have L_x0 := Aside0.mk hl_; have F_x0 := Aside0.mk (hf_ rfl).1; have G_x0 := Aside0.mk (hf_ rfl).2; have HB := nb_; have HZ := nz_; clear nb_ nz_ hb) | ((with_reducible refine gate_callee (f := 39) rfl ?_); (try (refine gate_guard (by rfl) ?_; dsimp only)); refine goesL_ (some 33) rfl rfl Try.func39 (by kernel_rfl) rfl #[.slice A_x0 P0.length c_x0, .int .i64 a1] rfl (by (try simp only [List.map_toArray, List.map_cons, List.map_nil]); first | done | rfl) ?_; (refine (impl_PackGet.calls k2 _ _ P0 a1 R rb _ (C_PQ ((Kd.S_reads' (by (with_reducible repeat (first | apply Kd.S_alloc | apply Kd.S_drewN | apply Kd.S_drew)); exact r_x0.out)).2.2)) L_x0.out H2.out).mono ?_); rintro e w1 ⟨v_g0, rfl, hrow_, hb⟩; refine ⟨_, rfl, ?_⟩; have nb_ := Aside0.mk (below_step (by repeat (first | (with_reducible first | exact HB.out | apply below_alloc | apply pw_below_drewN | apply below_drew1) | exact HB.out)) hb); have n_w0 := Aside0.mk (Kd.R_below (by (with_reducible repeat (first | apply Kd.R_alloc | apply Kd.R_drewN | apply Kd.R_drew)); exact r_w0.out) hb); have n_x0 := Aside0.mk (Kd.S_below (by (with_reducible repeat (first | apply Kd.S_alloc | apply Kd.S_drewN | apply Kd.S_drew)); exact r_x0.out) hb); have nF_x0 := Aside0.mk (Kd.C_below (by repeat (first | (with_reducible exact F_x0.out) | (with_reducible refine Kd.C_alloc ?_ _) | (with_reducible refine Kd.C_drewN ?_ _) | (with_reducible refine Kd.C_drew ?_) | exact F_x0.out)) hb); obtain ⟨lo_g0, hi_g0, ord_, hz_, row_⟩ := R_span hrow_ (by exact HZ.out) (below_size (by repeat (first | (with_reducible first | exact HB.out | apply below_alloc | apply pw_below_drewN | apply below_drew1) | exact HB.out))) (below_size hb); have O_g0 := Aside0.mk ord_; have nz_ := Aside0.mk hz_; have n_g0 := Aside0.mk row_; clear HB HZ; clear r_w0; have r_w0 := n_w0; clear n_w0; clear r_x0; have r_x0 := n_x0; clear n_x0; clear F_x0; have F_x0 := nF_x0; clear nF_x0; have r_g0 := n_g0; clear n_g0; have HB := nb_; have HZ := nz_; clear nb_ nz_ hb; obtain ⟨A_g0, c_g0, ev_⟩ := Kd.R_slice r_g0.out; subst ev_; have L_g0 := Aside0.mk (Kd.R_reads' r_g0.out).2.1) | ((with_reducible refine gate_callee (f := 36) rfl ?_); (try (refine gate_guard (by rfl) ?_; dsimp only)); refine goesL_ (some 38) rfl rfl Try.func36 (by kernel_rfl) rfl #[.slice A_g0 R.length c_g0, .slice A_w0 R.length c_w0] rfl (by (try simp only [List.map_toArray, List.map_cons, List.map_nil]); first | done | rfl) ?_; (refine ((laws_eqStringS.calls ke _ _ R _ _ R true _ ((Kd.R_reads' (by (with_reducible repeat (first | apply Kd.R_alloc | apply Kd.R_drewN | apply Kd.R_drew)); exact r_g0.out)).2.2) L_g0.out ((Kd.R_reads' (by (with_reducible repeat (first | apply Kd.R_alloc | apply Kd.R_drewN | apply Kd.R_drew)); exact r_w0.out)).2.2) L_w0.out HE.out).mono (fun e w' h => (⟨h.1, h.2.below⟩ : _ ∧ Below _ _ w'))).mono ?_); rintro e w1 ⟨rfl, hb⟩; refine ⟨_, rfl, ?_⟩; have nb_ := Aside0.mk (below_step (by repeat (first | (with_reducible first | exact HB.out | apply below_alloc | apply pw_below_drewN | apply below_drew1) | exact HB.out)) hb); have n_w0 := Aside0.mk (Kd.R_below (by (with_reducible repeat (first | apply Kd.R_alloc | apply Kd.R_drewN | apply Kd.R_drew)); exact r_w0.out) hb); have n_x0 := Aside0.mk (Kd.S_below (by (with_reducible repeat (first | apply Kd.S_alloc | apply Kd.S_drewN | apply Kd.S_drew)); exact r_x0.out) hb); have n_g0 := Aside0.mk (Kd.R_below (by (with_reducible repeat (first | apply Kd.R_alloc | apply Kd.R_drewN | apply Kd.R_drew)); exact r_g0.out) hb); have nF_x0 := Aside0.mk (Kd.C_below (by repeat (first | (with_reducible exact F_x0.out) | (with_reducible refine Kd.C_alloc ?_ _) | (with_reducible refine Kd.C_drewN ?_ _) | (with_reducible refine Kd.C_drew ?_) | exact F_x0.out)) hb); have nz_ := Aside0.mk (Nat.le_trans (by exact HZ.out) (below_size hb)); clear HB HZ; clear r_w0; have r_w0 := n_w0; clear n_w0; clear r_x0; have r_x0 := n_x0; clear n_x0; clear r_g0; have r_g0 := n_g0; clear n_g0; clear F_x0; have F_x0 := nF_x0; clear nF_x0; have HB := nb_; have HZ := nz_; clear nb_ nz_ hb) | ((with_reducible refine gate_callee (f := 51) rfl ?_); (try (refine gate_guard (by rfl) ?_; dsimp only)); refine goesL_ (some 47) rfl rfl Try.func51 (by kernel_rfl) rfl #[.slice A0 l0.length c0, .bool false] rfl (by (try simp only [List.map_toArray, List.map_cons, List.map_nil]); first | done | rfl) ?_; (refine (toPSm A0 c0 l0 false _ (by exact Kd.C_below HR0.out (by repeat (first | (with_reducible first | exact HB.out | apply below_alloc | apply pw_below_drewN | apply below_drew1) | exact HB.out))) Sm0.out P0 HP0.out).mono ?_); rintro e w1 ⟨A_y0, c_y0, rfl, hl_, hrow_, hf_, hb⟩; refine ⟨_, rfl, ?_⟩; have nb_ := Aside0.mk (below_step (by repeat (first | (with_reducible first | exact HB.out | apply below_alloc | apply pw_below_drewN | apply below_drew1) | exact HB.out)) hb); have n_w0 := Aside0.mk (Kd.R_below (by (with_reducible repeat (first | apply Kd.R_alloc | apply Kd.R_drewN | apply Kd.R_drew)); exact r_w0.out) hb); have n_x0 := Aside0.mk (Kd.S_below (by (with_reducible repeat (first | apply Kd.S_alloc | apply Kd.S_drewN | apply Kd.S_drew)); exact r_x0.out) hb); have n_g0 := Aside0.mk (Kd.R_below (by (with_reducible repeat (first | apply Kd.R_alloc | apply Kd.R_drewN | apply Kd.R_drew)); exact r_g0.out) hb); have nF_x0 := Aside0.mk (Kd.C_below (by repeat (first | (with_reducible exact F_x0.out) | (with_reducible refine Kd.C_alloc ?_ _) | (with_reducible refine Kd.C_drewN ?_ _) | (with_reducible refine Kd.C_drew ?_) | exact F_x0.out)) hb); obtain ⟨lo_y0, hi_y0, ord_, hz_, row_⟩ := S_span hrow_ (by exact HZ.out) (below_size (by repeat (first | (with_reducible first | exact HB.out | apply below_alloc | apply pw_below_drewN | apply below_drew1) | exact HB.out))) (below_size hb); have O_y0 := Aside0.mk ord_; have nz_ := Aside0.mk hz_; have n_y0 := Aside0.mk row_; clear HB HZ; clear r_w0; have r_w0 := n_w0; clear n_w0; clear r_x0; have r_x0 := n_x0; clear n_x0; clear r_g0; have r_g0 := n_g0; clear n_g0; clear F_x0; have F_x0 := nF_x0; clear nF_x0; have r_y0 := n_y0; clear n_y0; have L_y0 := Aside0.mk hl_; have F_y0 := Aside0.mk (hf_ rfl).1; have G_y0 := Aside0.mk (hf_ rfl).2; have HB := nb_; have HZ := nz_; clear nb_ nz_ hb) | ((with_reducible refine gate_callee (f := 52) rfl ?_); (try (refine gate_guard (by rfl) ?_; dsimp only)); refine goesL_ (some 48) rfl rfl Try.func52 (by kernel_rfl) rfl #[.slice A_x0 P0.length c_x0, .slice A_y0 P0.length c_y0] rfl (by (try simp only [List.map_toArray, List.map_cons, List.map_nil]); first | done | rfl) ?_; (refine (intPS_calls _ _ _ _ (fulPS false l0).1 P0.length _ (by repeat (first | (with_reducible exact F_x0.out) | (with_reducible refine Kd.C_alloc ?_ _) | (with_reducible refine Kd.C_drewN ?_ _) | (with_reducible refine Kd.C_drew ?_) | exact F_x0.out)) G_x0.out (by repeat (first | (with_reducible exact F_y0.out) | (with_reducible refine Kd.C_alloc ?_ _) | (with_reducible refine Kd.C_drewN ?_ _) | (with_reducible refine Kd.C_drew ?_) | exact F_y0.out)) G_y0.out HN0.out HEl0.out HQl0.out).mono ?_); rintro e w1 ⟨rfl, hb⟩; refine ⟨_, rfl, ?_⟩; clear r_y0; have nb_ := Aside0.mk (below_step (by repeat (first | (with_reducible first | exact HB.out | apply below_alloc | apply pw_below_drewN | apply below_drew1) | exact HB.out)) hb); have n_w0 := Aside0.mk (Kd.R_below (by (with_reducible repeat (first | apply Kd.R_alloc | apply Kd.R_drewN | apply Kd.R_drew)); exact r_w0.out) hb); have n_x0 := Aside0.mk (Kd.S_below (by (with_reducible repeat (first | apply Kd.S_alloc | apply Kd.S_drewN | apply Kd.S_drew)); exact r_x0.out) hb); have n_g0 := Aside0.mk (Kd.R_below (by (with_reducible repeat (first | apply Kd.R_alloc | apply Kd.R_drewN | apply Kd.R_drew)); exact r_g0.out) hb); have nF_x0 := Aside0.mk (Kd.C_below (by repeat (first | (with_reducible exact F_x0.out) | (with_reducible refine Kd.C_alloc ?_ _) | (with_reducible refine Kd.C_drewN ?_ _) | (with_reducible refine Kd.C_drew ?_) | exact F_x0.out)) hb); have nz_ := Aside0.mk (Nat.le_trans (by exact HZ.out) (below_size hb)); clear HB HZ; clear r_w0; have r_w0 := n_w0; clear n_w0; clear r_x0; have r_x0 := n_x0; clear n_x0; clear r_g0; have r_g0 := n_g0; clear n_g0; clear F_x0; have F_x0 := nF_x0; clear nF_x0; have HB := nb_; have HZ := nz_; clear nb_ nz_ hb) | ((with_reducible refine gate_callee (f := 58) rfl ?_); (try (refine gate_guard (by rfl) ?_; dsimp only)); refine goesL_ (some 52) rfl rfl Try.func58 (by kernel_rfl) rfl #[.slice A_x0 P0.length c_x0, .int .i64 101] rfl (by (try simp only [List.map_toArray, List.map_cons, List.map_nil]); first | done | rfl) ?_; (refine (markPSp HMt.out (fun k_ => lo_x0 ≤ k_ ∧ k_ < hi_x0) (.slice A_x0 P0.length c_x0) P0 101 k1_ w _ (by repeat (first | (with_reducible first | exact HB.out | apply below_alloc | apply pw_below_drewN | apply below_drew1) | exact HB.out)) (by (with_reducible repeat (first | apply Kd.S_alloc | apply Kd.S_drewN | apply Kd.S_drew)); exact r_x0.out) (by decide) HMb.out.1 HMb.out.2.1 HMb.out.2.2.1 HMb.out.2.2.2 XP_ HXPe.out).mono ?_); rintro e w1 ⟨rfl, hr, hb, hk⟩; refine ⟨_, rfl, ?_⟩; have nb_ := Aside0.mk hb; have nz_ := Aside0.mk (Nat.le_trans HZ.out hk.1); have n_w0 := Aside0.mk (Kd.R_kept (by (with_reducible repeat (first | apply Kd.R_alloc | apply Kd.R_drewN | apply Kd.R_drew)); exact r_w0.out) hk (fun k_ h_ s_ => by have := O_s0.out; have := O_w0.out; have := O_x0.out; have := O_g0.out; have := O_y0.out; omega)); have n_g0 := Aside0.mk (Kd.R_kept (by (with_reducible repeat (first | apply Kd.R_alloc | apply Kd.R_drewN | apply Kd.R_drew)); exact r_g0.out) hk (fun k_ h_ s_ => by have := O_s0.out; have := O_w0.out; have := O_x0.out; have := O_g0.out; have := O_y0.out; omega)); clear r_x0 hr; clear F_x0 G_x0; clear HB HZ; clear r_w0; have r_w0 := n_w0; clear n_w0; clear r_g0; have r_g0 := n_g0; clear n_g0; have HB := nb_; have HZ := nz_; clear nb_ nz_ hb hk) | ((with_reducible refine gate_callee (f := 36) rfl ?_); (try (refine gate_guard (by rfl) ?_; dsimp only)); refine goesL_ (some 58) rfl rfl Try.func36 (by kernel_rfl) rfl #[.slice A_g0 R.length c_g0, .slice A_w0 R.length c_w0] rfl (by (try simp only [List.map_toArray, List.map_cons, List.map_nil]); first | done | rfl) ?_; (refine ((laws_eqStringS.calls ke _ _ R _ _ R true _ ((Kd.R_reads' (by (with_reducible repeat (first | apply Kd.R_alloc | apply Kd.R_drewN | apply Kd.R_drew)); exact r_g0.out)).2.2) L_g0.out ((Kd.R_reads' (by (with_reducible repeat (first | apply Kd.R_alloc | apply Kd.R_drewN | apply Kd.R_drew)); exact r_w0.out)).2.2) L_w0.out HE.out).mono (fun e w' h => (⟨h.1, h.2.below⟩ : _ ∧ Below _ _ w'))).mono ?_); rintro e w1 ⟨rfl, hb⟩; refine ⟨_, rfl, ?_⟩; have nb_ := Aside0.mk (below_step (by repeat (first | (with_reducible first | exact HB.out | apply below_alloc | apply pw_below_drewN | apply below_drew1) | exact HB.out)) hb); have n_w0 := Aside0.mk (Kd.R_below (by (with_reducible repeat (first | apply Kd.R_alloc | apply Kd.R_drewN | apply Kd.R_drew)); exact r_w0.out) hb); have n_g0 := Aside0.mk (Kd.R_below (by (with_reducible repeat (first | apply Kd.R_alloc | apply Kd.R_drewN | apply Kd.R_drew)); exact r_g0.out) hb); have nz_ := Aside0.mk (Nat.le_trans (by exact HZ.out) (below_size hb)); clear HB HZ; clear r_w0; have r_w0 := n_w0; clear n_w0; clear r_g0; have r_g0 := n_g0; clear n_g0; have HB := nb_; have HZ := nz_; clear nb_ nz_ hb) | ((with_reducible refine gate_callee (f := 31) rfl ?_); (try (refine gate_guard (by rfl) ?_; dsimp only)); refine goesL_ (some 68) rfl rfl Try.func31 (by kernel_rfl) rfl #[.slice A_g0 R.length c_g0, .int .i64 101] rfl (by (try simp only [List.map_toArray, List.map_cons, List.map_nil]); first | done | rfl) ?_; (refine (laws_markStringS.calls kmg (fun k_ => lo_g0 ≤ k_ ∧ k_ < hi_g0) (.slice A_g0 R.length c_g0) R 101 m_ XG_ w _ (by repeat (first | (with_reducible first | exact HB.out | apply below_alloc | apply pw_below_drewN | apply below_drew1) | exact HB.out)) (by (with_reducible repeat (first | apply Kd.R_alloc | apply Kd.R_drewN | apply Kd.R_drew)); exact r_g0.out) HMg.out).mono ?_); rintro e w1 ⟨rfl, hr, hb, hk⟩; refine ⟨_, rfl, ?_⟩; have nb_ := Aside0.mk hb; have nz_ := Aside0.mk (Nat.le_trans HZ.out hk.1); have n_w0 := Aside0.mk (Kd.R_kept (by (with_reducible repeat (first | apply Kd.R_alloc | apply Kd.R_drewN | apply Kd.R_drew)); exact r_w0.out) hk (fun k_ h_ s_ => by have := O_s0.out; have := O_w0.out; have := O_x0.out; have := O_g0.out; have := O_y0.out; omega)); have n_g0 := Aside0.mk hr; clear HB HZ; clear r_w0; have r_w0 := n_w0; clear n_w0; clear r_g0; have r_g0 := n_g0; clear n_g0; have HB := nb_; have HZ := nz_; clear nb_ nz_ hb hk) | ((with_reducible refine gate_callee (f := 37) rfl ?_); (try (refine gate_guard (by rfl) ?_; dsimp only)); refine goesL_ (some 71) rfl rfl Try.func37 (by kernel_rfl) rfl #[.slice A_g0 R.length c_g0, .int .i64 101] rfl (by (try simp only [List.map_toArray, List.map_cons, List.map_nil]); first | done | rfl) ?_; (refine (heldSp kh A_g0 c_g0 XG_ R.length 101 m_ _ HXl.out ((Kd.R_reads' (by (with_reducible repeat (first | apply Kd.R_alloc | apply Kd.R_drewN | apply Kd.R_drew)); exact r_g0.out)).2.2) L_g0.out HH.out).mono ?_); rintro e w1 ⟨rfl, hb⟩; refine ⟨_, rfl, ?_⟩; have nb_ := Aside0.mk (below_step (by repeat (first | (with_reducible first | exact HB.out | apply below_alloc | apply pw_below_drewN | apply below_drew1) | exact HB.out)) hb); have n_w0 := Aside0.mk (Kd.R_below (by (with_reducible repeat (first | apply Kd.R_alloc | apply Kd.R_drewN | apply Kd.R_drew)); exact r_w0.out) hb); have n_g0 := Aside0.mk (Kd.R_below (by (with_reducible repeat (first | apply Kd.R_alloc | apply Kd.R_drewN | apply Kd.R_drew)); exact r_g0.out) hb); have nz_ := Aside0.mk (Nat.le_trans (by exact HZ.out) (below_size hb)); clear HB HZ; clear r_w0; have r_w0 := n_w0; clear n_w0; clear r_g0; have r_g0 := n_g0; clear n_g0; have HB := nb_; have HZ := nz_; clear nb_ nz_ hb) | ((with_reducible refine gate_callee (f := 51) rfl ?_); (try (refine gate_guard (by rfl) ?_; dsimp only)); refine goesL_ (some 79) rfl rfl Try.func51 (by kernel_rfl) rfl #[.slice A0 l0.length c0, .bool true] rfl (by (try simp only [List.map_toArray, List.map_cons, List.map_nil]); first | done | rfl) ?_; (refine (toPSm A0 c0 l0 true _ (by exact Kd.C_below HR0.out (by repeat (first | (with_reducible first | exact HB.out | apply below_alloc | apply pw_below_drewN | apply below_drew1) | exact HB.out))) Sm0.out P0 HP0.out).mono ?_); rintro e w1 ⟨A_t0, c_t0, rfl, hl_, hrow_, hf_, hb⟩; refine ⟨_, rfl, ?_⟩; have nb_ := Aside0.mk (below_step (by repeat (first | (with_reducible first | exact HB.out | apply below_alloc | apply pw_below_drewN | apply below_drew1) | exact HB.out)) hb); have n_w0 := Aside0.mk (Kd.R_below (by (with_reducible repeat (first | apply Kd.R_alloc | apply Kd.R_drewN | apply Kd.R_drew)); exact r_w0.out) hb); have n_g0 := Aside0.mk (Kd.R_below (by (with_reducible repeat (first | apply Kd.R_alloc | apply Kd.R_drewN | apply Kd.R_drew)); exact r_g0.out) hb); obtain ⟨lo_t0, hi_t0, ord_, hz_, row_⟩ := S_span hrow_ (by exact HZ.out) (below_size (by repeat (first | (with_reducible first | exact HB.out | apply below_alloc | apply pw_below_drewN | apply below_drew1) | exact HB.out))) (below_size hb); have O_t0 := Aside0.mk ord_; have nz_ := Aside0.mk hz_; have n_t0 := Aside0.mk row_; clear HB HZ; clear r_w0; have r_w0 := n_w0; clear n_w0; clear r_g0; have r_g0 := n_g0; clear n_g0; have r_t0 := n_t0; clear n_t0; have L_t0 := Aside0.mk hl_; have HB := nb_; have HZ := nz_; clear nb_ nz_ hb) | ((with_reducible refine gate_callee (f := 39) rfl ?_); (try (refine gate_guard (by rfl) ?_; dsimp only)); refine goesL_ (some 81) rfl rfl Try.func39 (by kernel_rfl) rfl #[.slice A_t0 P0.length c_t0, .int .i64 a1] rfl (by (try simp only [List.map_toArray, List.map_cons, List.map_nil]); first | done | rfl) ?_; (refine (impl_PackGet.calls k2 _ _ P0 a1 R rb _ (C_PQ ((Kd.S_reads' (by (with_reducible repeat (first | apply Kd.S_alloc | apply Kd.S_drewN | apply Kd.S_drew)); exact r_t0.out)).2.2)) L_t0.out H2.out).mono ?_); rintro e w1 ⟨v_h0, rfl, hrow_, hb⟩; refine ⟨_, rfl, ?_⟩; clear r_t0; have nb_ := Aside0.mk (below_step (by repeat (first | (with_reducible first | exact HB.out | apply below_alloc | apply pw_below_drewN | apply below_drew1) | exact HB.out)) hb); have n_w0 := Aside0.mk (Kd.R_below (by (with_reducible repeat (first | apply Kd.R_alloc | apply Kd.R_drewN | apply Kd.R_drew)); exact r_w0.out) hb); have n_g0 := Aside0.mk (Kd.R_below (by (with_reducible repeat (first | apply Kd.R_alloc | apply Kd.R_drewN | apply Kd.R_drew)); exact r_g0.out) hb); obtain ⟨lo_h0, hi_h0, ord_, hz_, row_⟩ := R_span hrow_ (by exact HZ.out) (below_size (by repeat (first | (with_reducible first | exact HB.out | apply below_alloc | apply pw_below_drewN | apply below_drew1) | exact HB.out))) (below_size hb); have O_h0 := Aside0.mk ord_; have nz_ := Aside0.mk hz_; have n_h0 := Aside0.mk row_; clear HB HZ; clear r_w0; have r_w0 := n_w0; clear n_w0; clear r_g0; have r_g0 := n_g0; clear n_g0; have r_h0 := n_h0; clear n_h0; have HB := nb_; have HZ := nz_; clear nb_ nz_ hb; obtain ⟨A_h0, c_h0, ev_⟩ := Kd.R_slice r_h0.out; subst ev_; have L_h0 := Aside0.mk (Kd.R_reads' r_h0.out).2.1) | ((with_reducible refine gate_callee (f := 36) rfl ?_); (try (refine gate_guard (by rfl) ?_; dsimp only)); refine goesL_ (some 86) rfl rfl Try.func36 (by kernel_rfl) rfl #[.slice A_h0 R.length c_h0, .slice A_w0 R.length c_w0] rfl (by (try simp only [List.map_toArray, List.map_cons, List.map_nil]); first | done | rfl) ?_; (refine ((laws_eqStringS.calls ke _ _ R _ _ R true _ ((Kd.R_reads' (by (with_reducible repeat (first | apply Kd.R_alloc | apply Kd.R_drewN | apply Kd.R_drew)); exact r_h0.out)).2.2) L_h0.out ((Kd.R_reads' (by (with_reducible repeat (first | apply Kd.R_alloc | apply Kd.R_drewN | apply Kd.R_drew)); exact r_w0.out)).2.2) L_w0.out HE.out).mono (fun e w' h => (⟨h.1, h.2.below⟩ : _ ∧ Below _ _ w'))).mono ?_); rintro e w1 ⟨rfl, hb⟩; refine ⟨_, rfl, ?_⟩; have nb_ := Aside0.mk (below_step (by repeat (first | (with_reducible first | exact HB.out | apply below_alloc | apply pw_below_drewN | apply below_drew1) | exact HB.out)) hb); have n_w0 := Aside0.mk (Kd.R_below (by (with_reducible repeat (first | apply Kd.R_alloc | apply Kd.R_drewN | apply Kd.R_drew)); exact r_w0.out) hb); have n_g0 := Aside0.mk (Kd.R_below (by (with_reducible repeat (first | apply Kd.R_alloc | apply Kd.R_drewN | apply Kd.R_drew)); exact r_g0.out) hb); have n_h0 := Aside0.mk (Kd.R_below (by (with_reducible repeat (first | apply Kd.R_alloc | apply Kd.R_drewN | apply Kd.R_drew)); exact r_h0.out) hb); have nz_ := Aside0.mk (Nat.le_trans (by exact HZ.out) (below_size hb)); clear HB HZ; clear r_w0; have r_w0 := n_w0; clear n_w0; clear r_g0; have r_g0 := n_g0; clear n_g0; clear r_h0; have r_h0 := n_h0; clear n_h0; have HB := nb_; have HZ := nz_; clear nb_ nz_ hb) | ((with_reducible refine gate_callee (f := 37) rfl ?_); (try (refine gate_guard (by rfl) ?_; dsimp only)); refine goesL_ (some 95) rfl rfl Try.func37 (by kernel_rfl) rfl #[.slice A_g0 R.length c_g0, .int .i64 101] rfl (by (try simp only [List.map_toArray, List.map_cons, List.map_nil]); first | done | rfl) ?_; (refine (heldSp kh A_g0 c_g0 XG_ R.length 101 m_ _ HXl.out ((Kd.R_reads' (by (with_reducible repeat (first | apply Kd.R_alloc | apply Kd.R_drewN | apply Kd.R_drew)); exact r_g0.out)).2.2) L_g0.out HH.out).mono ?_); rintro e w1 ⟨rfl, hb⟩; refine ⟨_, rfl, ?_⟩; have nb_ := Aside0.mk (below_step (by repeat (first | (with_reducible first | exact HB.out | apply below_alloc | apply pw_below_drewN | apply below_drew1) | exact HB.out)) hb); have n_w0 := Aside0.mk (Kd.R_below (by (with_reducible repeat (first | apply Kd.R_alloc | apply Kd.R_drewN | apply Kd.R_drew)); exact r_w0.out) hb); have n_g0 := Aside0.mk (Kd.R_below (by (with_reducible repeat (first | apply Kd.R_alloc | apply Kd.R_drewN | apply Kd.R_drew)); exact r_g0.out) hb); have n_h0 := Aside0.mk (Kd.R_below (by (with_reducible repeat (first | apply Kd.R_alloc | apply Kd.R_drewN | apply Kd.R_drew)); exact r_h0.out) hb); have nz_ := Aside0.mk (Nat.le_trans (by exact HZ.out) (below_size hb)); clear HB HZ; clear r_w0; have r_w0 := n_w0; clear n_w0; clear r_g0; have r_g0 := n_g0; clear n_g0; clear r_h0; have r_h0 := n_h0; clear n_h0; have HB := nb_; have HZ := nz_; clear nb_ nz_ hb))
    go_ret
    exact ⟨rfl, HB.out⟩
end Go.Proofs.Ytfnhjaiioojbkaa.Q
end
section
/- FnExactPackGet: for every argument the law returns true, and its arguments read behind the call as they read before. No conditions. -/
namespace Go.Proofs.Ytfnhjaiioojbkaa.fnExactPackGet
open Go.ChangeShapes Go.WideShapes Go.ChangeAt Go.RowKit
set_option linter.unusedVariables false
theorem own : ownKnob Try.prog.godebug = none := by kernel_rfl
theorem laidOut : laidOutB Try.prog = true := by kernel_rfl
set_option maxRecDepth 100000 in
theorem lifted (os : Os) (started : os.Started) (H : Type) (enc : TypeId × Value → H) :
    ReturnsInHanded {} Try.checked os 14 .any (Rows.fnExactPackGetSpec.pre6 enc Try.prog Try.f14 Rows.fnExactPackGetRow.domain false) (Rows.fnExactPackGetSpec.post enc Try.prog Try.f14 false true false false) := by
  refine returnsInHanded_of_change_sized (C := Try.checked) own started (by kernel_rfl) Try.func14
    (ChangeSpec.witness6 (enc := enc) (C := Try.checked) false ⟨#[], #[.slice none 0 0, .int .i64 0], []⟩ 14 (by kernel_rfl) (by kernel_rfl) (by kernel_rfl) (by kernel_rfl)) ?_
  intro W base args ds gs before hval0 hW hcnd hsz0 _
  have hval : ∀ (j : Nat) t v, Try.f14.params[j]? = some t → args[j]? = some v → Value.okWide Try.prog W .any base t v := hval0
  have hW' := hW
  obtain ⟨p, q, hA0, hV, rfl, hfz, hnd⟩ := hW
  have hA : DataW.TrodAll enc Try.prog W 0 (fun _ => true) true Try.f14.params.toList args.toList ds p := hA0
  rw [Try.params14] at hA hval
  obtain ⟨v0, vs0, d0, ds0, p0, q0, hargs, rfl, rfl, h0, r0⟩ := trodAll_cons hA
  obtain ⟨v1, vs1, d1, ds1, p1, q1, rfl, rfl, rfl, h1, r1⟩ := trodAll_cons r0
  obtain ⟨rfl, rfl, rfl⟩ := trodAll_nil r1
  obtain rfl : args = #[v0, v1] := by cases args; simp_all
  obtain ⟨rfl, rfl⟩ := trodVars_none hV
  obtain ⟨a0, len0, cap0, rfl⟩ := okWide_slice Try.underlying61 (hval 0 61 v0 rfl rfl)
  have k0 := h0
  have lt0 : ∀ x ∈ p0, x.block < W.heap.size := by obtain ⟨m, hm⟩ := k0; exact DataW.trod_lt m _ _ _ hm
  obtain ⟨l0, e0, hc0, hr0, hb0⟩ := Q.opened Q.opens_PS h0
  subst e0
  obtain ⟨z1, rfl⟩ := okWide_int Try.underlying3 (hval 1 3 v1 rfl rfl)
  have k1 := h1
  have lt1 : ∀ x ∈ p1, x.block < W.heap.size := by obtain ⟨m, hm⟩ := k1; exact DataW.trod_lt m _ _ _ hm
  have w1 : (Lit.int .i64 z1).wf = true := by
    obtain ⟨fuel, hf⟩ := h1
    obtain ⟨n, h1, _, h2⟩ := DataW.trod_int Try.underlying3 hf
    have h3 : [Value.int .i64 z1] = [.int .i64 n] := h1
    injection h3 with h4 _
    injection h4 with _ h5
    rw [h5]; exact h2
  clear hA0 hval0 hsz0
  refine (Q.fnExactPackGet_walk a0 cap0 l0 z1 W hr0 hc0 hb0 w1).mono fun e W' ⟨he, bel⟩ => ?_
  subst he
  exact ⟨_, rfl, _, _, _, [], _, [], hW', trodAll_mk1 (shut_bool Try.underlying4 _), (trodAll_cons_mk (Below.trod laidOut (by kernel_rfl) (of_decide_eq_true (by kernel_rfl)) k0 bel lt0) (trodAll_cons_mk (Below.trod laidOut (by kernel_rfl) (of_decide_eq_true (by kernel_rfl)) k1 bel lt1) trodAll_mk0)), rfl, bel.frame _, fun h => by cases h⟩
theorem over : Rows.fnExactPackGetRow.holds Try.pinned (OpenSpec.ofChange Rows.fnExactPackGetSpec) :=
  OpenClaim.holds_of_wide 14 Try.f14 rfl rfl rfl rfl rfl rfl rfl ⟨rfl, rfl, rfl, rfl, rfl⟩ rfl rfl rfl rfl rfl (by kernel_rfl) Try.func14 (by kernel_rfl)
    (of_decide_eq_true (by kernel_rfl)) (by unfold Func.isWrapper; first | (rw [if_pos (by decide +kernel)]; kernel_rfl) | (rw [if_neg (by decide +kernel)]; exact ⟨rfl, rfl⟩))
    (fun os started H enc _ => lifted os started H enc)
theorem proved : Rows.FnExactPackGetSaid := over
#print axioms proved
end Go.Proofs.Ytfnhjaiioojbkaa.fnExactPackGet
namespace Go.Proofs.Ytfnhjaiioojbkaa
/-- The row, under a short name, for the claim. -/
theorem fnExactPackGet_holds : Rows.FnExactPackGetSaid := fnExactPackGet.proved
end Go.Proofs.Ytfnhjaiioojbkaa
end
