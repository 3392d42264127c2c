/- FnExactDeltaOf: for every argument the law returns true, and its arguments read behind the call as they read before. No conditions. -/
import Derived.Shelf.Abstract
import Derived.Deep.Slices
import Derived.Deep.Strs
import Derived.ChangeArms
import Derived.Test.YtfnhjaiioojbkaaRows
import Derived.WalkKit
import Derived.ProofKit
import Derived.OpenShut
import Derived.ShutString
import Derived.ChangeOld
import Derived.Below
import Derived.SizedLaws
import Derived.Test.YtfnhjaiioojbkaaMExactDeltaOf0
import Derived.Test.YtfnhjaiioojbkaaMExactDeltaOf1
set_option linter.unusedVariables false
set_option linter.unusedSimpArgs false
section
namespace Go.Proofs.Ytfnhjaiioojbkaa.Q
open Go.RowKit Go.Proofs.YtfnhjaiioojbkaaW.PrintWords Go.Proofs.YtfnhjaiioojbkaaW.PrintLast Go.Proofs.YtfnhjaiioojbkaaW.PrintMore
attribute [local go_sem] max2_int min2_int max_two min_two max_three min_three max_four min_four   -- for this text's walks alone
set_option linter.unusedVariables false
set_option linter.unusedSimpArgs false
def laws_eqDeltaS.l0 : Nat → List (S39) → List (S39) → Int → Option (Bool)
 | 0, _, _, _ => none
 | k + 1, x0, x1, x5 => if x5 < (x0.length : Int) then (if 0 ≤ x5 then (if x5 < (x1.length : Int) then ((laws_eqDelta.f k ((rd_T39 x0 x5).f0) ((rd_T39 x0 x5).f1) ((rd_T39 x0 x5).f2) ((rd_T39 x1 x5).f0) ((rd_T39 x1 x5).f1) ((rd_T39 x1 x5).f2)).bind fun t163 => (if t163 = true then (laws_eqDeltaS.l0 k x0 x1 (wrap64 (x5 + 1))) else (some false))) else (none)) else (none)) else (some true)
def laws_eqDeltaS.f (k : Nat) (l0 : List (S39)) (l1 : List (S39)) : Option (Bool) := if (l0.length : Int) = (l1.length : Int) then (laws_eqDeltaS.l0 k l0 l1 0) else (some false)
def laws_eqDeltaS.T6 : Bool × List (List Nat × List Nat) := (true, [([], []), ([], []), ([0, 1], [0, 1]), ([2], [2]), ([], []), ([], []), ([4, 5], [4, 5]), ([6], [6]), ([3, 7], [3, 7]), ([8], [8])])
def laws_eqDeltaS.B6 : List Nat := [0, 0, 3, 7, 0, 0, 48, 112, 255, 511]
theorem laws_eqDeltaS.tab6 : rtab .any (opsOf Try.f29 6) = laws_eqDeltaS.T6 := by kernel_rfl
theorem laws_eqDeltaS.bits6 : waitsOk laws_eqDeltaS.T6.2 laws_eqDeltaS.B6 = true := by kernel_rfl
set_option maxHeartbeats 8000000 in
set_option maxRecDepth 100000 in
theorem laws_eqDeltaS.calls (k : Nat) (A0 : Option Addr) (c0 : Nat) (l0 : List (S39)) (A1 : Option Addr) (c1 : Nat) (l1 : List (S39)) (r : Bool) (w : World) (hr0 : Kd.C k39 w A0 l0.length l0) (hc0 : l0.length ≤ c0) (hr1 : Kd.C k39 w A1 l1.length l1) (hc1 : l1.length ≤ c1) (h : laws_eqDeltaS.f k l0 l1 = some r) :
 Calls Try.prog 29 #[.slice A0 l0.length c0, .slice A1 l1.length c1] w fun e w' => e = .returned (.bool r) ∧ Below w.heap.size w w' := by
 have hu39 := Try.underlying39; have HR0 := Aside0.mk hr0; have HC0 := Aside0.mk hc0; clear hr0 hc0; have HR1 := Aside0.mk hr1; have HC1 := Aside0.mk hc1; clear hr1 hc1; have HB := Aside0.mk (Below.refl w.heap.size w); have H : (if (l0.length : Int) = (l1.length : Int) then (laws_eqDeltaS.l0 k l0 l1 0) else (some false)) = some r := h; clear h; by_cases c3 : (l0.length : Int) = (l1.length : Int)
 ·rw [if_pos c3] at H; have c3b0 : ((l0.length : Int) == (l1.length : Int)) = true := beq_iff_eq.mpr c3; have c3b1 : ((l0.length : Int) != (l1.length : Int)) = false := bne_eq_false_iff_eq.mpr c3; (have c3b2 : (l0.length == l1.length) = true := by first | simpa using c3 | (simp at c3 ⊢; omega)); clear c3; have H' := Aside0.mk H; clear H; go_enter Try.func29, Try.ntmps29; go_wp2; go_loopg [5] k (fun kq v5 w' => ∃ (x5_1 : Int), v5 = .int .i64 x5_1 ∧ Aside0 (laws_eqDeltaS.l0 kq l0 l1 x5_1 = some r) ∧ Aside0 (kq ≤ k) ∧ Aside0 (Below w.heap.size w w'))
  case atStart => exact ⟨(0), (by first | rfl | (simp; done) | (simp [*]; done)), H', ⟨Nat.le_refl _⟩, ⟨by repeat (first | (with_reducible first | exact HB.out | apply below_alloc | apply pw_below_drewN | apply below_drew1) | exact HB.out)⟩⟩
  case round =>
   clear H'; (try clear c1); (try clear c2); (try clear p2); (try clear c3); (try clear c3b0); (try clear c3b1); (try clear c3b2); obtain ⟨x5_1, rfl, HA, HK1, HB⟩ := hrel
   cases gk with
   | zero => exact absurd HA.out (by simp [laws_eqDeltaS.l0])
   | succ k1 =>
    have H := HA.out; clear HA; simp only [laws_eqDeltaS.l0] at H; by_cases c4 : x5_1 < (l0.length : Int)
    ·rw [if_pos c4] at H; have c4b0 : decide (x5_1 < (l0.length : Int)) = true := decide_eq_true c4; clear c4; by_cases c5 : 0 ≤ x5_1
     ·rw [if_pos c5] at H; have c5b0 : decide (0 ≤ x5_1) = true := decide_eq_true c5; clear c5; by_cases c6 : x5_1 < (l1.length : Int)
      ·rw [if_pos c6] at H; have c6b0 : decide (x5_1 < (l1.length : Int)) = true := decide_eq_true c6; clear c6; replace H := Option.bind_eq_some_iff.mp H; obtain ⟨t163, A70, H⟩ := H; replace H : (if t163 = true then (laws_eqDeltaS.l0 k1 l0 l1 (wrap64 (x5_1 + 1))) else (some false)) = some r := H; have A7 := Aside0.mk A70; clear A70; by_cases c8 : t163 = true
       ·subst c8; (have H1 : (laws_eqDeltaS.l0 k1 l0 l1 (wrap64 (x5_1 + 1))) = some r := by rw [if_pos rfl] at H; exact H); clear H; have H := H1; clear H1; have H' := Aside0.mk H; clear H; (try go_wp2); have n0_ := Aside0.mk (below_drew1 HB.out); clear HB; have HB := n0_; clear n0_; have p161 : 0 ≤ (x5_1 : Int) := of_decide_eq_true (by assumption); have q161 : x5_1 < (l0.length : Int) := of_decide_eq_true (by assumption); obtain ⟨ad161, A161_2, c161_2, e161, hx161_0, hx161_1, hx161_2, hl161_2, hi161_2⟩ := at_T39 HR0.out x5_1 p161 q161; have hw161_2 := hx161_2; have hw161_1 := hx161_1; have hw161_0 := hx161_0; cases e161; replace hx161_0 := (HB.out.cell (World.block_lt_of_cell? w _ hx161_0)).trans hx161_0; replace hx161_1 := (HB.out.cell (World.block_lt_of_cell? w _ hx161_1)).trans hx161_1; replace hx161_2 := (HB.out.cell (World.block_lt_of_cell? w _ hx161_2)).trans hx161_2; have HR161_2 := Aside0.mk hi161_2; have HC161_2 := Aside0.mk hl161_2; clear hi161_2 hl161_2; replace p161 := eq_true p161; replace q161 := eq_true q161; have p162 : 0 ≤ (x5_1 : Int) := of_decide_eq_true (by assumption); have q162 : x5_1 < (l1.length : Int) := of_decide_eq_true (by assumption); obtain ⟨ad162, A162_2, c162_2, e162, hx162_0, hx162_1, hx162_2, hl162_2, hi162_2⟩ := at_T39 HR1.out x5_1 p162 q162; have hw162_2 := hx162_2; have hw162_1 := hx162_1; have hw162_0 := hx162_0; cases e162; replace hx162_0 := (HB.out.cell (World.block_lt_of_cell? w _ hx162_0)).trans hx162_0; replace hx162_1 := (HB.out.cell (World.block_lt_of_cell? w _ hx162_1)).trans hx162_1; replace hx162_2 := (HB.out.cell (World.block_lt_of_cell? w _ hx162_2)).trans hx162_2; have HR162_2 := Aside0.mk hi162_2; have HC162_2 := Aside0.mk hl162_2; clear hi162_2 hl162_2; replace p162 := eq_true p162; replace q162 := eq_true q162; refine start_ (n := 10) (S := fun w' => w'.cell? (ad161.add ((x5_1).toNat * 3)) = some (.int .i64 ((rd_T39 l0 x5_1).f0)) ∧ w'.cell? ⟨(ad161.add ((x5_1).toNat * 3)).block, (ad161.add ((x5_1).toNat * 3)).off + 1, none⟩ = some (.int .i64 ((rd_T39 l0 x5_1).f1)) ∧ w'.cell? ⟨(ad161.add ((x5_1).toNat * 3)).block, (ad161.add ((x5_1).toNat * 3)).off + 2, none⟩ = some (.slice A161_2 ((rd_T39 l0 x5_1).f2).length c161_2) ∧ w'.cell? (ad162.add ((x5_1).toNat * 3)) = some (.int .i64 ((rd_T39 l1 x5_1).f0)) ∧ w'.cell? ⟨(ad162.add ((x5_1).toNat * 3)).block, (ad162.add ((x5_1).toNat * 3)).off + 1, none⟩ = some (.int .i64 ((rd_T39 l1 x5_1).f1)) ∧ w'.cell? ⟨(ad162.add ((x5_1).toNat * 3)).block, (ad162.add ((x5_1).toNat * 3)).off + 2, none⟩ = some (.slice A162_2 ((rd_T39 l1 x5_1).f2).length c162_2)) (ds := []) #[f_, f_, f_, f_, f_, f_, f_, f_, f_, f_] (by kernel_rfl) rfl rfl ⟨((HB.out.cell (World.block_lt_of_cell? w _ hw161_0)).trans hw161_0), ((HB.out.cell (World.block_lt_of_cell? w _ hw161_1)).trans hw161_1), ((HB.out.cell (World.block_lt_of_cell? w _ hw161_2)).trans hw161_2), ((HB.out.cell (World.block_lt_of_cell? w _ hw162_0)).trans hw162_0), ((HB.out.cell (World.block_lt_of_cell? w _ hw162_1)).trans hw162_1), ((HB.out.cell (World.block_lt_of_cell? w _ hw162_2)).trans hw162_2)⟩ (fun hHeld => ?_); refine with_tabW laws_eqDeltaS.tab6 laws_eqDeltaS.bits6 (fun HT_ HW_ => ?_)
        generalize wr.drew = w9 at HB HR161_2 HR162_2 hx161_0 hx161_1 hx161_2 hx162_0 hx162_1 hx162_2 hHeld ⊢; refine pure_ (i := 0) (N := some 17) (v := ?_) (a' := ?_) #[t_, f_, f_, f_, f_, f_, f_, f_, f_, f_] rfl rfl (any_of HT_.out (by kernel_rfl)) (fun _ _ _ h => h) (Or.inl ⟨by rfl, ?_⟩) ?_ ?_
        rotate_left
        ·intro w'; go_simp
         with_reducible rfl
        rotate_left
        ·simp only [Act.put, List.setIfInBounds_toArray, List.set_cons_zero, List.set_cons_succ, i64_w, i32_w]
         rfl
        refine pure_ (i := 1) (N := some 18) (v := ?_) (a' := ?_) #[t_, t_, f_, f_, f_, f_, f_, f_, f_, f_] rfl rfl (any_of HT_.out (by kernel_rfl)) (fun _ _ _ h => h) (Or.inl ⟨by rfl, ?_⟩) ?_ ?_
        rotate_left
        ·intro w'; go_simp
         with_reducible rfl
        rotate_left
        ·simp only [Act.put, List.setIfInBounds_toArray, List.set_cons_zero, List.set_cons_succ, i64_w, i32_w]
         rfl
        refine pure_ (i := 2) (N := some 19) (v := ?_) (a' := ?_) #[t_, t_, t_, f_, f_, f_, f_, f_, f_, f_] rfl rfl (any_of HT_.out (by kernel_rfl)) (fun _ _ _ h => h) (Or.inl ⟨by rfl, ?_⟩) ?_ ?_
        rotate_left
        ·intro w'; go_simp
         with_reducible rfl
        rotate_left
        ·simp only [Act.put, List.setIfInBounds_toArray, List.set_cons_zero, List.set_cons_succ, i64_w, i32_w]
         rfl
        refine pure_ (i := 4) (N := some 21) (v := ?_) (a' := ?_) #[t_, t_, t_, f_, t_, f_, f_, f_, f_, f_] rfl rfl (any_of HT_.out (by kernel_rfl)) (fun _ _ _ h => h) (Or.inl ⟨by rfl, ?_⟩) ?_ ?_
        rotate_left
        ·intro w'; go_simp
         with_reducible rfl
        rotate_left
        ·simp only [Act.put, List.setIfInBounds_toArray, List.set_cons_zero, List.set_cons_succ, i64_w, i32_w]
         rfl
        refine pure_ (i := 5) (N := some 22) (v := ?_) (a' := ?_) #[t_, t_, t_, f_, t_, t_, f_, f_, f_, f_] rfl rfl (any_of HT_.out (by kernel_rfl)) (fun _ _ _ h => h) (Or.inl ⟨by rfl, ?_⟩) ?_ ?_
        rotate_left
        ·intro w'; go_simp
         with_reducible rfl
        rotate_left
        ·simp only [Act.put, List.setIfInBounds_toArray, List.set_cons_zero, List.set_cons_succ, i64_w, i32_w]
         rfl
        refine pure_ (i := 6) (N := some 23) (v := ?_) (a' := ?_) #[t_, t_, t_, f_, t_, t_, t_, f_, f_, f_] rfl rfl (any_of HT_.out (by kernel_rfl)) (fun _ _ _ h => h) (Or.inl ⟨by rfl, ?_⟩) ?_ ?_
        rotate_left
        ·intro w'; go_simp
         with_reducible rfl
        rotate_left
        ·simp only [Act.put, List.setIfInBounds_toArray, List.set_cons_zero, List.set_cons_succ, i64_w, i32_w]
         rfl
        refine take_ (i := 3) (N := some 20) (v := ?_) (a' := ?_) #[t_, t_, t_, t_, t_, t_, t_, f_, f_, f_] rfl rfl (take_ofW HT_.out HW_.out (by kernel_rfl)) (fun _ _ _ h => h) (Or.inl ⟨by rfl, ?_⟩) hHeld ?_ ?_
        rotate_left
        ·rintro w' ⟨s0, s1, s2, s3, s4, s5⟩; go_simp
         with_reducible rfl
        rotate_left
        ·simp only [Act.put, List.setIfInBounds_toArray, List.set_cons_zero, List.set_cons_succ, i64_w, i32_w]
         rfl
        refine take_ (i := 7) (N := some 24) (v := ?_) (a' := ?_) #[t_, t_, t_, t_, t_, t_, t_, t_, f_, f_] rfl rfl (take_ofW HT_.out HW_.out (by kernel_rfl)) (fun _ _ _ h => h) (Or.inl ⟨by rfl, ?_⟩) hHeld ?_ ?_
        rotate_left
        ·rintro w' ⟨s0, s1, s2, s3, s4, s5⟩; go_simp
         with_reducible rfl
        rotate_left
        ·simp only [Act.put, List.setIfInBounds_toArray, List.set_cons_zero, List.set_cons_succ, i64_w, i32_w]
         rfl
        refine one_ (i := 8) (N := some 25) #[t_, t_, t_, t_, t_, t_, t_, t_, t_, f_] rfl rfl (one_of HT_.out (by kernel_rfl)) (by decide) (fun K hK => ?_); refine goes_ Try.func76 (by kernel_rfl) rfl #[.agg #[.int .i64 ((rd_T39 l0 x5_1).f0), .int .i64 ((rd_T39 l0 x5_1).f1), .slice A161_2 ((rd_T39 l0 x5_1).f2).length c161_2], .agg #[.int .i64 ((rd_T39 l1 x5_1).f0), .int .i64 ((rd_T39 l1 x5_1).f1), .slice A162_2 ((rd_T39 l1 x5_1).f2).length c162_2]] (by rfl) rfl rfl (by (try simp only [List.map_toArray, List.map_cons, List.map_nil]); first | done | rfl | (simp only [List.length_drop, List.length_take]; rfl)) ?_
        with_reducible refine (laws_eqDelta.calls k1 ((rd_T39 l0 x5_1).f0) ((rd_T39 l0 x5_1).f1) _ _ ((rd_T39 l0 x5_1).f2) ((rd_T39 l1 x5_1).f0) ((rd_T39 l1 x5_1).f1) _ _ ((rd_T39 l1 x5_1).f2) true _ ?side1 ?side2 ?side3 ?side4 A7.out).mono ?_
        (case side1 => repeat (first | exact (Kd.C_below HR161_2.out HB.out) | (with_reducible refine Kd.C_alloc ?_ _) | (with_reducible refine Kd.C_drewN ?_ _) | (with_reducible refine Kd.C_drew ?_)))
        (case side2 => exact HC161_2.out)
        (case side3 => repeat (first | exact (Kd.C_below HR162_2.out HB.out) | (with_reducible refine Kd.C_alloc ?_ _) | (with_reducible refine Kd.C_drewN ?_ _) | (with_reducible refine Kd.C_drew ?_)))
        (case side4 => exact HC162_2.out)
        rintro e w10 ⟨rfl, hb⟩; refine ⟨_, rfl, ?_⟩; have n0_ := Aside0.mk (below_step (by repeat (first | (with_reducible first | exact HB.out | apply below_alloc | apply pw_below_drewN | apply below_drew1) | exact HB.out)) hb); clear HB; have HB := n0_; clear n0_
        (try clear hb)
        (try clear hb2)
        (try clear hk)
        (try clear hi)
        refine hK.out _ _ ⟨((HB.out.cell (World.block_lt_of_cell? w _ hw161_0)).trans hw161_0), ((HB.out.cell (World.block_lt_of_cell? w _ hw161_1)).trans hw161_1), ((HB.out.cell (World.block_lt_of_cell? w _ hw161_2)).trans hw161_2), ((HB.out.cell (World.block_lt_of_cell? w _ hw162_0)).trans hw162_0), ((HB.out.cell (World.block_lt_of_cell? w _ hw162_1)).trans hw162_1), ((HB.out.cell (World.block_lt_of_cell? w _ hw162_2)).trans hw162_2)⟩ (fun hHeld => ?_); clear hK K; refine norm_ (a' := ?_) ?_ ?_
        rotate_left
        ·show Act.put _ (some 25) _ = _
         simp only [Act.put, List.setIfInBounds_toArray, List.set_cons_zero, List.set_cons_succ, i64_w, i32_w]
         rfl
        refine pure_ (i := 9) (N := some 26) (v := ?_) (a' := ?_) #[t_, t_, t_, t_, t_, t_, t_, t_, t_, t_] rfl rfl (any_of HT_.out (by kernel_rfl)) (fun _ _ _ h => h) (Or.inl ⟨by rfl, ?_⟩) ?_ ?_
        rotate_left
        ·intro w'; go_simp
         with_reducible rfl
        rotate_left
        ·simp only [Act.put, List.setIfInBounds_toArray, List.set_cons_zero, List.set_cons_succ, i64_w, i32_w]
         rfl
        refine done_ (done_of HT_.out (by kernel_rfl)) ?_; (try go_wp2); go_roundg k1
        case measure => have := HK1.out; omega
        case rel => exact ⟨(wrap64 (x5_1 + 1)), (by first | rfl | (simp; done) | (simp [*]; done)), H', ⟨by have := HK1.out; omega⟩, ⟨by repeat (first | (with_reducible first | exact HB.out | apply below_alloc | apply pw_below_drewN | apply below_drew1) | exact HB.out)⟩⟩
       ·replace c8 := Bool.eq_false_iff.mpr c8; subst c8; (have H1 : (some false) = some r := by rw [if_neg (show ¬ (false = true) by decide)] at H; exact H); clear H; have H := H1; clear H1; obtain rfl := Option.some.inj H; (try go_wp2); have n0_ := Aside0.mk (below_drew1 HB.out); clear HB; have HB := n0_; clear n0_; have p161 : 0 ≤ (x5_1 : Int) := of_decide_eq_true (by assumption); have q161 : x5_1 < (l0.length : Int) := of_decide_eq_true (by assumption); obtain ⟨ad161, A161_2, c161_2, e161, hx161_0, hx161_1, hx161_2, hl161_2, hi161_2⟩ := at_T39 HR0.out x5_1 p161 q161; have hw161_2 := hx161_2; have hw161_1 := hx161_1; have hw161_0 := hx161_0; cases e161; replace hx161_0 := (HB.out.cell (World.block_lt_of_cell? w _ hx161_0)).trans hx161_0; replace hx161_1 := (HB.out.cell (World.block_lt_of_cell? w _ hx161_1)).trans hx161_1; replace hx161_2 := (HB.out.cell (World.block_lt_of_cell? w _ hx161_2)).trans hx161_2; have HR161_2 := Aside0.mk hi161_2; have HC161_2 := Aside0.mk hl161_2; clear hi161_2 hl161_2; replace p161 := eq_true p161; replace q161 := eq_true q161; have p162 : 0 ≤ (x5_1 : Int) := of_decide_eq_true (by assumption); have q162 : x5_1 < (l1.length : Int) := of_decide_eq_true (by assumption); obtain ⟨ad162, A162_2, c162_2, e162, hx162_0, hx162_1, hx162_2, hl162_2, hi162_2⟩ := at_T39 HR1.out x5_1 p162 q162; have hw162_2 := hx162_2; have hw162_1 := hx162_1; have hw162_0 := hx162_0; cases e162; replace hx162_0 := (HB.out.cell (World.block_lt_of_cell? w _ hx162_0)).trans hx162_0; replace hx162_1 := (HB.out.cell (World.block_lt_of_cell? w _ hx162_1)).trans hx162_1; replace hx162_2 := (HB.out.cell (World.block_lt_of_cell? w _ hx162_2)).trans hx162_2; have HR162_2 := Aside0.mk hi162_2; have HC162_2 := Aside0.mk hl162_2; clear hi162_2 hl162_2; replace p162 := eq_true p162; replace q162 := eq_true q162; refine start_ (n := 10) (S := fun w' => w'.cell? (ad161.add ((x5_1).toNat * 3)) = some (.int .i64 ((rd_T39 l0 x5_1).f0)) ∧ w'.cell? ⟨(ad161.add ((x5_1).toNat * 3)).block, (ad161.add ((x5_1).toNat * 3)).off + 1, none⟩ = some (.int .i64 ((rd_T39 l0 x5_1).f1)) ∧ w'.cell? ⟨(ad161.add ((x5_1).toNat * 3)).block, (ad161.add ((x5_1).toNat * 3)).off + 2, none⟩ = some (.slice A161_2 ((rd_T39 l0 x5_1).f2).length c161_2) ∧ w'.cell? (ad162.add ((x5_1).toNat * 3)) = some (.int .i64 ((rd_T39 l1 x5_1).f0)) ∧ w'.cell? ⟨(ad162.add ((x5_1).toNat * 3)).block, (ad162.add ((x5_1).toNat * 3)).off + 1, none⟩ = some (.int .i64 ((rd_T39 l1 x5_1).f1)) ∧ w'.cell? ⟨(ad162.add ((x5_1).toNat * 3)).block, (ad162.add ((x5_1).toNat * 3)).off + 2, none⟩ = some (.slice A162_2 ((rd_T39 l1 x5_1).f2).length c162_2)) (ds := []) #[f_, f_, f_, f_, f_, f_, f_, f_, f_, f_] (by kernel_rfl) rfl rfl ⟨((HB.out.cell (World.block_lt_of_cell? w _ hw161_0)).trans hw161_0), ((HB.out.cell (World.block_lt_of_cell? w _ hw161_1)).trans hw161_1), ((HB.out.cell (World.block_lt_of_cell? w _ hw161_2)).trans hw161_2), ((HB.out.cell (World.block_lt_of_cell? w _ hw162_0)).trans hw162_0), ((HB.out.cell (World.block_lt_of_cell? w _ hw162_1)).trans hw162_1), ((HB.out.cell (World.block_lt_of_cell? w _ hw162_2)).trans hw162_2)⟩ (fun hHeld => ?_); refine with_tabW laws_eqDeltaS.tab6 laws_eqDeltaS.bits6 (fun HT_ HW_ => ?_)
        generalize wr.drew = w11 at HB HR161_2 HR162_2 hx161_0 hx161_1 hx161_2 hx162_0 hx162_1 hx162_2 hHeld ⊢; refine pure_ (i := 0) (N := some 17) (v := ?_) (a' := ?_) #[t_, f_, f_, f_, f_, f_, f_, f_, f_, f_] rfl rfl (any_of HT_.out (by kernel_rfl)) (fun _ _ _ h => h) (Or.inl ⟨by rfl, ?_⟩) ?_ ?_
        rotate_left
        ·intro w'; go_simp
         with_reducible rfl
        rotate_left
        ·simp only [Act.put, List.setIfInBounds_toArray, List.set_cons_zero, List.set_cons_succ, i64_w, i32_w]
         rfl
        refine pure_ (i := 1) (N := some 18) (v := ?_) (a' := ?_) #[t_, t_, f_, f_, f_, f_, f_, f_, f_, f_] rfl rfl (any_of HT_.out (by kernel_rfl)) (fun _ _ _ h => h) (Or.inl ⟨by rfl, ?_⟩) ?_ ?_
        rotate_left
        ·intro w'; go_simp
         with_reducible rfl
        rotate_left
        ·simp only [Act.put, List.setIfInBounds_toArray, List.set_cons_zero, List.set_cons_succ, i64_w, i32_w]
         rfl
        refine pure_ (i := 2) (N := some 19) (v := ?_) (a' := ?_) #[t_, t_, t_, f_, f_, f_, f_, f_, f_, f_] rfl rfl (any_of HT_.out (by kernel_rfl)) (fun _ _ _ h => h) (Or.inl ⟨by rfl, ?_⟩) ?_ ?_
        rotate_left
        ·intro w'; go_simp
         with_reducible rfl
        rotate_left
        ·simp only [Act.put, List.setIfInBounds_toArray, List.set_cons_zero, List.set_cons_succ, i64_w, i32_w]
         rfl
        refine pure_ (i := 4) (N := some 21) (v := ?_) (a' := ?_) #[t_, t_, t_, f_, t_, f_, f_, f_, f_, f_] rfl rfl (any_of HT_.out (by kernel_rfl)) (fun _ _ _ h => h) (Or.inl ⟨by rfl, ?_⟩) ?_ ?_
        rotate_left
        ·intro w'; go_simp
         with_reducible rfl
        rotate_left
        ·simp only [Act.put, List.setIfInBounds_toArray, List.set_cons_zero, List.set_cons_succ, i64_w, i32_w]
         rfl
        refine pure_ (i := 5) (N := some 22) (v := ?_) (a' := ?_) #[t_, t_, t_, f_, t_, t_, f_, f_, f_, f_] rfl rfl (any_of HT_.out (by kernel_rfl)) (fun _ _ _ h => h) (Or.inl ⟨by rfl, ?_⟩) ?_ ?_
        rotate_left
        ·intro w'; go_simp
         with_reducible rfl
        rotate_left
        ·simp only [Act.put, List.setIfInBounds_toArray, List.set_cons_zero, List.set_cons_succ, i64_w, i32_w]
         rfl
        refine pure_ (i := 6) (N := some 23) (v := ?_) (a' := ?_) #[t_, t_, t_, f_, t_, t_, t_, f_, f_, f_] rfl rfl (any_of HT_.out (by kernel_rfl)) (fun _ _ _ h => h) (Or.inl ⟨by rfl, ?_⟩) ?_ ?_
        rotate_left
        ·intro w'; go_simp
         with_reducible rfl
        rotate_left
        ·simp only [Act.put, List.setIfInBounds_toArray, List.set_cons_zero, List.set_cons_succ, i64_w, i32_w]
         rfl
        refine take_ (i := 3) (N := some 20) (v := ?_) (a' := ?_) #[t_, t_, t_, t_, t_, t_, t_, f_, f_, f_] rfl rfl (take_ofW HT_.out HW_.out (by kernel_rfl)) (fun _ _ _ h => h) (Or.inl ⟨by rfl, ?_⟩) hHeld ?_ ?_
        rotate_left
        ·rintro w' ⟨s0, s1, s2, s3, s4, s5⟩; go_simp
         with_reducible rfl
        rotate_left
        ·simp only [Act.put, List.setIfInBounds_toArray, List.set_cons_zero, List.set_cons_succ, i64_w, i32_w]
         rfl
        refine take_ (i := 7) (N := some 24) (v := ?_) (a' := ?_) #[t_, t_, t_, t_, t_, t_, t_, t_, f_, f_] rfl rfl (take_ofW HT_.out HW_.out (by kernel_rfl)) (fun _ _ _ h => h) (Or.inl ⟨by rfl, ?_⟩) hHeld ?_ ?_
        rotate_left
        ·rintro w' ⟨s0, s1, s2, s3, s4, s5⟩; go_simp
         with_reducible rfl
        rotate_left
        ·simp only [Act.put, List.setIfInBounds_toArray, List.set_cons_zero, List.set_cons_succ, i64_w, i32_w]
         rfl
        refine one_ (i := 8) (N := some 25) #[t_, t_, t_, t_, t_, t_, t_, t_, t_, f_] rfl rfl (one_of HT_.out (by kernel_rfl)) (by decide) (fun K hK => ?_); refine goes_ Try.func76 (by kernel_rfl) rfl #[.agg #[.int .i64 ((rd_T39 l0 x5_1).f0), .int .i64 ((rd_T39 l0 x5_1).f1), .slice A161_2 ((rd_T39 l0 x5_1).f2).length c161_2], .agg #[.int .i64 ((rd_T39 l1 x5_1).f0), .int .i64 ((rd_T39 l1 x5_1).f1), .slice A162_2 ((rd_T39 l1 x5_1).f2).length c162_2]] (by rfl) rfl rfl (by (try simp only [List.map_toArray, List.map_cons, List.map_nil]); first | done | rfl | (simp only [List.length_drop, List.length_take]; rfl)) ?_
        with_reducible refine (laws_eqDelta.calls k1 ((rd_T39 l0 x5_1).f0) ((rd_T39 l0 x5_1).f1) _ _ ((rd_T39 l0 x5_1).f2) ((rd_T39 l1 x5_1).f0) ((rd_T39 l1 x5_1).f1) _ _ ((rd_T39 l1 x5_1).f2) false _ ?side1 ?side2 ?side3 ?side4 A7.out).mono ?_
        (case side1 => repeat (first | exact (Kd.C_below HR161_2.out HB.out) | (with_reducible refine Kd.C_alloc ?_ _) | (with_reducible refine Kd.C_drewN ?_ _) | (with_reducible refine Kd.C_drew ?_)))
        (case side2 => exact HC161_2.out)
        (case side3 => repeat (first | exact (Kd.C_below HR162_2.out HB.out) | (with_reducible refine Kd.C_alloc ?_ _) | (with_reducible refine Kd.C_drewN ?_ _) | (with_reducible refine Kd.C_drew ?_)))
        (case side4 => exact HC162_2.out)
        rintro e w12 ⟨rfl, hb⟩; refine ⟨_, rfl, ?_⟩; have n0_ := Aside0.mk (below_step (by repeat (first | (with_reducible first | exact HB.out | apply below_alloc | apply pw_below_drewN | apply below_drew1) | exact HB.out)) hb); clear HB; have HB := n0_; clear n0_
        (try clear hb)
        (try clear hb2)
        (try clear hk)
        (try clear hi)
        refine hK.out _ _ ⟨((HB.out.cell (World.block_lt_of_cell? w _ hw161_0)).trans hw161_0), ((HB.out.cell (World.block_lt_of_cell? w _ hw161_1)).trans hw161_1), ((HB.out.cell (World.block_lt_of_cell? w _ hw161_2)).trans hw161_2), ((HB.out.cell (World.block_lt_of_cell? w _ hw162_0)).trans hw162_0), ((HB.out.cell (World.block_lt_of_cell? w _ hw162_1)).trans hw162_1), ((HB.out.cell (World.block_lt_of_cell? w _ hw162_2)).trans hw162_2)⟩ (fun hHeld => ?_); clear hK K; refine norm_ (a' := ?_) ?_ ?_
        rotate_left
        ·show Act.put _ (some 25) _ = _
         simp only [Act.put, List.setIfInBounds_toArray, List.set_cons_zero, List.set_cons_succ, i64_w, i32_w]
         rfl
        refine pure_ (i := 9) (N := some 26) (v := ?_) (a' := ?_) #[t_, t_, t_, t_, t_, t_, t_, t_, t_, t_] rfl rfl (any_of HT_.out (by kernel_rfl)) (fun _ _ _ h => h) (Or.inl ⟨by rfl, ?_⟩) ?_ ?_
        rotate_left
        ·intro w'; go_simp
         with_reducible rfl
        rotate_left
        ·simp only [Act.put, List.setIfInBounds_toArray, List.set_cons_zero, List.set_cons_succ, i64_w, i32_w]
         rfl
        refine done_ (done_of HT_.out (by kernel_rfl)) ?_; (try go_wp2); go_ret; exact ⟨by first | rfl | (simp <;> rfl) | (simp [*] <;> rfl), by repeat (first | (with_reducible first | exact HB.out | apply below_alloc | apply pw_below_drewN | apply below_drew1) | exact HB.out)⟩
      ·rw [if_neg c6] at H; exact absurd H (by simp)
     ·rw [if_neg c5] at H; exact absurd H (by simp)
    ·rw [if_neg c4] at H; have c4b0 : decide (x5_1 < (l0.length : Int)) = false := decide_eq_false c4; clear c4; obtain rfl := Option.some.inj H; go_wp2; go_ret; exact ⟨by first | rfl | (simp <;> rfl) | (simp [*] <;> rfl), by repeat (first | (with_reducible first | exact HB.out | apply below_alloc | apply pw_below_drewN | apply below_drew1) | exact HB.out)⟩
 ·rw [if_neg c3] at H; have c3b0 : ((l0.length : Int) == (l1.length : Int)) = false := beq_eq_false_iff_ne.mpr c3; have c3b1 : ((l0.length : Int) != (l1.length : Int)) = true := bne_iff_ne.mpr c3; (have c3b2 : (l0.length == l1.length) = false := by first | simpa using c3 | (simp at c3 ⊢; omega)); obtain rfl := Option.some.inj H; go_enter Try.func29, Try.ntmps29; go_wp2; go_ret; exact ⟨by first | rfl | (simp <;> rfl) | (simp [*] <;> rfl), by repeat (first | (with_reducible first | exact HB.out | apply below_alloc | apply pw_below_drewN | apply below_drew1) | exact HB.out)⟩
end Go.Proofs.Ytfnhjaiioojbkaa.Q
end
section
namespace Go.Proofs.Ytfnhjaiioojbkaa.Q
open Go.RowKit Go.Proofs.YtfnhjaiioojbkaaW.PrintWords Go.Proofs.YtfnhjaiioojbkaaW.PrintLast Go.Proofs.YtfnhjaiioojbkaaW.PrintMore
attribute [local go_sem] max2_int min2_int max_two min_two max_three min_three max_four min_four   -- for this text's walks alone
set_option linter.unusedVariables false
set_option linter.unusedSimpArgs false
def laws_roomBehind.f (a0 : Int) : Option (Int) := if (Int.tmod a0 6) = 5 then (some 0) else (if (Int.tmod a0 3) = 0 then (some 1) else (some a0))
set_option maxHeartbeats 8000000 in
set_option maxRecDepth 100000 in
theorem laws_roomBehind.calls (a0 : Int) (r : Int) (w : World) (h : laws_roomBehind.f a0 = some r) :
 Calls Try.prog 62 #[.int .i64 a0] w fun e w' => e = .returned (.int .i64 r) ∧ Drawn0 w w' := by
 have H : (if (Int.tmod a0 6) = 5 then (some 0) else (if (Int.tmod a0 3) = 0 then (some 1) else (some a0))) = some r := h; clear h; by_cases c2 : (Int.tmod a0 6) = 5
 ·rw [if_pos c2] at H; have c2b0 : ((Int.tmod a0 6) == 5) = true := beq_iff_eq.mpr c2; have c2b1 : ((Int.tmod a0 6) != 5) = false := bne_eq_false_iff_eq.mpr c2; clear c2; obtain rfl := Option.some.inj H; go_enter Try.func62, Try.ntmps62; go_wp2; go_ret; exact ⟨by first | rfl | (simp; done) | (simp [*]; done), by repeat (first | exact Drawn0.refl _ | apply Drawn0.step)⟩
 ·rw [if_neg c2] at H; have c2b0 : ((Int.tmod a0 6) == 5) = false := beq_eq_false_iff_ne.mpr c2; have c2b1 : ((Int.tmod a0 6) != 5) = true := bne_iff_ne.mpr c2; by_cases c3 : (Int.tmod a0 3) = 0
  ·rw [if_pos c3] at H; have c3b0 : ((Int.tmod a0 3) == 0) = true := beq_iff_eq.mpr c3; have c3b1 : ((Int.tmod a0 3) != 0) = false := bne_eq_false_iff_eq.mpr c3; clear c3; obtain rfl := Option.some.inj H; go_enter Try.func62, Try.ntmps62; go_wp2; go_ret; exact ⟨by first | rfl | (simp; done) | (simp [*]; done), by repeat (first | exact Drawn0.refl _ | apply Drawn0.step)⟩
  ·rw [if_neg c3] at H; have c3b0 : ((Int.tmod a0 3) == 0) = false := beq_eq_false_iff_ne.mpr c3; have c3b1 : ((Int.tmod a0 3) != 0) = true := bne_iff_ne.mpr c3; obtain rfl := Option.some.inj H; go_enter Try.func62, Try.ntmps62; go_wp2; go_ret; exact ⟨by first | rfl | (simp; done) | (simp [*]; done), by repeat (first | exact Drawn0.refl _ | apply Drawn0.step)⟩
end Go.Proofs.Ytfnhjaiioojbkaa.Q
end
section
namespace Go.Proofs.Ytfnhjaiioojbkaa.Q
open Go.RowKit Go.Proofs.YtfnhjaiioojbkaaW.PrintWords
set_option linter.unusedVariables false
set_option linter.unusedSimpArgs false
/-- How much lies behind n elements. -/
def room (n : Nat) : Nat := if n % 6 = 5 then 0 else if n % 3 = 0 then 1 else n
theorem room_ev (n : Nat) : laws_roomBehind.f (n : Int) = some (room n : Int) := by
  unfold laws_roomBehind.f room
  rw [Int.tmod_eq_emod_of_nonneg (by omega), Int.tmod_eq_emod_of_nonneg (by omega)]
  by_cases h1 : n % 6 = 5
  · rw [if_pos (by omega), if_pos h1]; rfl
  · rw [if_neg (by omega), if_neg h1]
    by_cases h2 : n % 3 = 0
    · rw [if_pos (by omega), if_pos h2]; rfl
    · rw [if_neg (by omega), if_neg h2]
def spareS : ByteArray := ⟨#[126, 115, 112, 97, 114, 101, 126]⟩
def fulS (b : Bool) (l : List ByteArray) : List ByteArray × Nat := if b = true ∧ l = [] then ([], 0) else (l ++ List.replicate (room l.length) spareS, l.length)
end Go.Proofs.Ytfnhjaiioojbkaa.Q
end
section
namespace Go.Proofs.Ytfnhjaiioojbkaa.Q
open Go.RowKit Go.Proofs.YtfnhjaiioojbkaaW.PrintWords Go.Proofs.YtfnhjaiioojbkaaW.PrintLast Go.Proofs.YtfnhjaiioojbkaaW.PrintMore
attribute [local go_sem] max2_int min2_int max_two min_two max_three min_three max_four min_four
set_option linter.unusedVariables false
set_option linter.unusedSimpArgs false
theorem fill_set {α : Type} (p : List α) (m : Nat) (z a : α) (i : Nat) (hi : i = p.length) (hm : 0 < m) : (p ++ List.replicate m z).set i a = (p ++ [a]) ++ List.replicate (m - 1) z := by
  subst hi
  obtain ⟨m, rfl⟩ : ∃ n, m = n + 1 := ⟨m - 1, by omega⟩
  simp [List.replicate_succ]
set_option maxHeartbeats 4000000 in
theorem toS_calls (A0 : Option Addr) (c0 : Nat) (l0 : List ByteArray) (b : Bool) (w : World) (hr0 : Kd.C Kd.string w A0 l0.length l0) (hl : l0.length ≤ 1000000) :
    Calls Try.prog 28 #[.slice A0 l0.length c0, .bool b] w fun e w' => ∃ A c, e = .returned (.slice A (fulS b l0).2 c) ∧ (fulS b l0).2 ≤ (fulS b l0).1.length ∧
      Kd.R Kd.string 9 w' w.heap.size (fun k => w.heap.size ≤ k) (.slice A (fulS b l0).1.length c) (fulS b l0).1 ∧ Below w.heap.size w w' := by
  have HR0 := Aside0.mk hr0
  have HL := Aside0.mk hl
  have HB := Aside0.mk (Below.refl w.heap.size w)
  clear hr0 hl
  obtain ⟨F, hF⟩ : ∃ F, fulS b l0 = F := ⟨_, rfl⟩
  rw [hF]
  have HF := Aside0.mk hF
  clear hF
  go_enter Try.func28, Try.ntmps28
  go_upto_region 1 with (fail)
  go_cut [13] (fun v13 wc => v13 = .bool (b && ((l0.length : Int) == 0)) ∧ Aside0 (Below w.heap.size w wc))
  case first =>
    cases b
    · go_wp2
      go_meet
      case rel => exact ⟨rfl, ⟨by repeat (first | (with_reducible first | exact HB.out | apply below_alloc | apply pw_below_drewN | apply below_drew1) | exact HB.out)⟩⟩
    · go_wp2
      go_meet
      case rel => exact ⟨rfl, ⟨by repeat (first | (with_reducible first | exact HB.out | apply below_alloc | apply pw_below_drewN | apply below_drew1) | exact HB.out)⟩⟩
  case rest =>
    clear HB
    obtain ⟨rfl, HB⟩ := hcut
    by_cases hb : b = true ∧ l0 = []
    · have hf : fulS b l0 = ([], 0) := if_pos hb
      have hF := HF.out.symm.trans hf
      subst hF
      obtain ⟨rfl, rfl⟩ := hb
      go_wp2
      go_ret
      exact ⟨none, 0, rfl, Kd.R_nil _ _ _ _ _, HB.out⟩
    · have hf : fulS b l0 = (l0 ++ List.replicate (room l0.length) spareS, l0.length) := if_neg hb
      have HF2 := Aside0.mk (HF.out.symm.trans hf)
      have hc : (b && ((l0.length : Int) == 0)) = false := by
        cases b
        · rfl
        · simp only [Bool.true_and, beq_eq_false_iff_ne, ne_eq]
          intro h
          exact hb ⟨rfl, List.length_eq_zero_iff.mp (by omega)⟩
      rw [hc]
      clear hc hb hf HF
      have R9 := room_ev l0.length
      have hrl : room l0.length ≤ 1000000 := by
        have := HL.out
        unfold room
        repeat' split
        all_goals omega
      obtain ⟨N, hN⟩ : ∃ N, l0.length + room l0.length = N := ⟨_, rfl⟩
      have HN := Aside0.mk hN
      have HNb := Aside0.mk (show N ≤ 2000000 by have := HL.out; omega)
      have hw : wrap64 ((l0.length : Int) + (room l0.length : Int)) = (N : Int) := by
        have := HL.out
        unfold wrap64; omega
      have hw2 : (IntKind.i64.wrap ((l0.length : Int) + (room l0.length : Int))) = (N : Int) := (i64_w _).trans hw
      have hN2 : (N : Int).toNat ≤ 17592186044416 := by have := HL.out; omega
      have h0 : 0 ≤ (N : Int) := by omega
      have R9 := Aside0.mk R9
      clear hrl hN
      go_wp2_with (first | ((with_reducible refine gate_callee (f := 62) rfl ?_); refine goesL_ (some 18) rfl rfl Try.func62 (by kernel_rfl) rfl #[.int .i64 (l0.length : Int)] rfl (by (try simp only [List.map_toArray, List.map_cons, List.map_nil]); first | done | rfl) ?_; (with_reducible refine (laws_roomBehind.calls (l0.length : Int) _ _ R9.out).mono ?_); rintro e w' ⟨rfl, ⟨nd, rfl⟩⟩; refine ⟨_, rfl, ?_⟩) | ((with_reducible refine gate_dst (N := 20) rfl ?_); (try (refine gate_guard (by rfl) ?_; dsimp only)); refine Kd.R_make Kd.string _ 9 rfl (N := 20) rfl 30 _ _ rfl (N : Int) rfl rfl Try.underlying30 (.string ⟨#[]⟩) 16 info9 rfl (by decide) (by omega) (⟨#[]⟩ : ByteArray) (ok := fun _ => True) (okp := fun _ => True) rfl (fun _ hk => hk) trivial h0 (Nat.le_trans (Nat.mul_le_mul_right _ hN2) (by omega)) (Below.refl _ _) (Nat.le_refl _) ?_; intro v111 w10 ho11 hb hg_ hnew_; clear hg_ hnew_; have n0_ := Aside0.mk (Kd.R_lower ho11 (below_size (by repeat (first | (with_reducible first | exact HB.out | apply below_alloc | apply pw_below_drewN | apply below_drew1) | exact HB.out)))); have n1_ := Aside0.mk (below_step (by repeat (first | (with_reducible first | exact HB.out | apply below_alloc | apply pw_below_drewN | apply below_drew1) | exact HB.out)) hb); clear HB; have HO := n0_; have HB := n1_; clear n0_ n1_; clear hb ho11))
      clear hw hw2 hN2 h0 R9
      have hst : List.replicate (N : Int).toNat (⟨#[]⟩ : ByteArray) = l0.take 0 ++ List.replicate (N - 0) ⟨#[]⟩ := by simp
      rw [hst] at HO
      clear hst
      obtain ⟨Ao, co, eo⟩ := Kd.R_slice HO.out
      subst eo
      rw [show (l0.take 0 ++ List.replicate (N - 0) (⟨#[]⟩ : ByteArray)).length = N by simp] at HO ⊢
      go_loopg [6] l0.length (fun gg v6 wr => ∃ i : Nat, v6 = .int .i64 i ∧ i ≤ l0.length ∧ l0.length - i ≤ gg ∧ Aside0 (Kd.R Kd.string 9 wr w.heap.size (fun _ => True) (.slice Ao N co) (l0.take i ++ List.replicate (N - i) (⟨#[]⟩ : ByteArray))) ∧ Aside0 (Below w.heap.size w wr))
      case atStart => exact ⟨0, rfl, Nat.zero_le _, by omega, HO, HB⟩
      case round =>
        clear HO HB
        obtain ⟨i, rfl, hi, hg, HO, HB⟩ := hrel
        by_cases hlt : i < l0.length
        · have hlN : i < N := by have := HN.out; omega
          have HLT := Aside0.mk hlt
          have hib : i ≤ 1000000 := by have := HL.out; omega
          have hltz : (i : Int) < (l0.length : Int) := by omega
          have hlen : (l0.take i ++ List.replicate (N - i) (⟨#[]⟩ : ByteArray)).length = N := by simp; omega
          obtain ⟨ad, rfl, hx⟩ := Kd.at_string HR0.out (i : Int) (by omega) hltz
          have hx := (HB.out.cell (World.block_lt_of_cell? w _ hx)).trans hx
          obtain ⟨go, co', eo, gb, gl, cl, HG⟩ := Kd.R_form HO.out (by omega)
          injection eo with ea en ec
          subst ea
          subst ec
          have GB := Aside0.mk gb
          clear gb gl HG en
          have hNz : (i : Int) < (N : Int) := by omega
          have h0 : 0 ≤ (i : Int) := by omega
          obtain ⟨hx0, hf0⟩ := Kd.R_celln (⟨#[]⟩ : ByteArray) HO.out (i : Int) h0 hNz
          have HP := Kd.R_putg HO.out (i : Int) (rdOf ByteArray.empty l0 i)
          have hset : (l0.take i ++ List.replicate (N - i) (⟨#[]⟩ : ByteArray)).set i (rdOf ByteArray.empty l0 i) = l0.take (i + 1) ++ List.replicate (N - (i + 1)) ⟨#[]⟩ := by
            rw [fill_set _ _ _ _ _ (by simp; omega) (by omega), rdAt hlt, List.take_append_getElem hlt]
            rfl
          simp only [Int.toNat_natCast] at hx hx0 hf0 HP
          rw [hset] at HP
          clear hset hlen
          go_wp2_with (first | ((with_reducible refine gate_store (t := 9) (p := 33) rfl ?_); refine store_event (t := 9) (p := 33) (v := ?vo1) (w1 := (wr.setCell ⟨go, i, none⟩ (.string (rdOf ByteArray.empty l0 i)))) ?hg ?ho ?hn ?hr ?_; (case ho => rfl); (case hg => rfl); (case hn => rfl); (case hr => first | (go_simp; done) | (go_simp; rfl)); intro w17 hw; have n0_ := Aside0.mk (show Kd.R Kd.string 9 w17 w.heap.size (fun _ => True) (.slice (some ⟨go, 0, none⟩) N co) _ from (by rw [hw]; exact HP.1)); have n1_ := Aside0.mk ((by rw [hw]; exact below_set (HB.out) GB.out : Below w.heap.size w w17)); clear HP HO HB; have HO := n0_; have HB := n1_; clear n0_ n1_; clear hw))
          go_roundg (l0.length - (i + 1))
          case measure => have := HLT.out; omega
          case rel => exact ⟨i + 1, by go_num, HLT.out, by omega, HO, HB⟩
        · obtain rfl : i = l0.length := by omega
          have hltz : ¬ (l0.length : Int) < (l0.length : Int) := by omega
          rw [List.take_length] at HO
          have HO2 : Aside0 (Kd.R Kd.string 9 wr w.heap.size (fun _ => True) (.slice Ao N co) (l0 ++ List.replicate (l0.length - l0.length) spareS ++ List.replicate (N - l0.length) (⟨#[]⟩ : ByteArray))) := ⟨by rw [Nat.sub_self]; simpa using HO.out⟩
          clear HO
          go_wp2
          go_loopg [7] N (fun gg v7 wr => ∃ i : Nat, v7 = .int .i64 i ∧ l0.length ≤ i ∧ i ≤ N ∧ N - i ≤ gg ∧ Aside0 (Kd.R Kd.string 9 wr w.heap.size (fun _ => True) (.slice Ao N co) (l0 ++ List.replicate (i - l0.length) spareS ++ List.replicate (N - i) (⟨#[]⟩ : ByteArray))) ∧ Aside0 (Below w.heap.size w wr))
          case atStart => exact ⟨l0.length, rfl, Nat.le_refl _, by have := HN.out; omega, by omega, HO2, HB⟩
          case round =>
            clear HO2 HB hltz hg hi
            obtain ⟨i, rfl, hi, hiN, hg, HO, HB⟩ := hrel
            by_cases hlt : i < N
            · have HLT := Aside0.mk hlt
              have hib : i ≤ 2000000 := by have := HNb.out; omega
              have hlen : (l0 ++ List.replicate (i - l0.length) spareS ++ List.replicate (N - i) (⟨#[]⟩ : ByteArray)).length = N := by simp; omega
              obtain ⟨go, co', eo, gb, gl, cl, HG⟩ := Kd.R_form HO.out (by omega)
              injection eo with ea en ec
              subst ea
              subst ec
              have GB := Aside0.mk gb
              clear gb gl HG en
              have hNz : (i : Int) < (N : Int) := by omega
              have h0 : 0 ≤ (i : Int) := by omega
              obtain ⟨hx0, hf0⟩ := Kd.R_celln (⟨#[]⟩ : ByteArray) HO.out (i : Int) h0 hNz
              have HP := Kd.R_putg HO.out (i : Int) (⟨#[126, 115, 112, 97, 114, 101, 126]⟩ : ByteArray)
              have hset : (l0 ++ List.replicate (i - l0.length) spareS ++ List.replicate (N - i) (⟨#[]⟩ : ByteArray)).set i (⟨#[126, 115, 112, 97, 114, 101, 126]⟩ : ByteArray) = l0 ++ List.replicate (i + 1 - l0.length) spareS ++ List.replicate (N - (i + 1)) ⟨#[]⟩ := by
                rw [fill_set _ _ _ _ _ (by simp; omega) (by omega), List.append_assoc l0, show i + 1 - l0.length = i - l0.length + 1 by omega, List.replicate_succ']
                rfl
              simp only [Int.toNat_natCast] at hx0 hf0 HP
              rw [hset] at HP
              clear hset hlen
              go_wp2_with (first | ((with_reducible refine gate_store (t := 9) (p := 44) rfl ?_); refine store_event (t := 9) (p := 44) (v := ?vo2) (w1 := (wr.setCell ⟨go, i, none⟩ (.string (⟨#[126, 115, 112, 97, 114, 101, 126]⟩ : ByteArray)))) ?hg ?ho ?hn ?hr ?_; (case ho => rfl); (case hg => rfl); (case hn => rfl); (case hr => first | (go_simp; done) | (go_simp; rfl)); intro w17 hw; have n0_ := Aside0.mk (show Kd.R Kd.string 9 w17 w.heap.size (fun _ => True) (.slice (some ⟨go, 0, none⟩) N co) _ from (by rw [hw]; exact HP.1)); have n1_ := Aside0.mk ((by rw [hw]; exact below_set (HB.out) GB.out : Below w.heap.size w w17)); clear HP HO HB; have HO := n0_; have HB := n1_; clear n0_ n1_; clear hw))
              go_roundg (N - (i + 1))
              case measure => have := HLT.out; omega
              case rel => exact ⟨i + 1, by go_num, by omega, HLT.out, by omega, HO, HB⟩
            · obtain rfl : i = N := by omega
              have hltz : ¬ (i : Int) < (i : Int) := by omega
              have hnb : 0 ≤ (l0.length : Int) := by omega
              have hle : (l0.length : Int) ≤ (i : Int) := by omega
              obtain ⟨i0, hi0, _, hsz, _⟩ := info_parts info9
              have hcut := cut_to (P := Try.prog) 30 9 .i64 Try.underlying30 hi0 Ao i co (l0.length : Int) hnb hle (Kd.R_reads' HO.out).2.1
              simp only [Int.toNat_natCast] at hcut
              have hlen : (l0 ++ List.replicate (i - l0.length) spareS ++ List.replicate (i - i) (⟨#[]⟩ : ByteArray)) = l0 ++ List.replicate (room l0.length) spareS := by have := HN.out; rw [show i - l0.length = room l0.length by omega]; simp
              rw [hlen] at HO
              clear hlen hi0 hsz
              go_wp2
              go_ret
              have hF := HF2.out
              subst hF
              refine ⟨Ao, co, rfl, ?_⟩
              have h2 := HN.out
              simp only [List.length_append, List.length_replicate, h2]
              exact ⟨by omega, Kd.R_mono (Kd.R_bound HO.out) (fun k hk => hk.2.1), HB.out⟩
end Go.Proofs.Ytfnhjaiioojbkaa.Q
end
section
namespace Go.Proofs.Ytfnhjaiioojbkaa.Q
open Go.RowKit Go.Proofs.YtfnhjaiioojbkaaW.PrintWords Go.Proofs.YtfnhjaiioojbkaaW.PrintLast Go.Proofs.YtfnhjaiioojbkaaW.PrintMore
attribute [local go_sem] max2_int min2_int max_two min_two max_three min_three max_four min_four
set_option linter.unusedVariables false
set_option linter.unusedSimpArgs false
section
variable {P : Program}
theorem up_to (t e : TypeId) (kh : IntKind) {i : TypeInfo} (ht : P.underlying t = some (.slice e)) (hi : P.info? e = some i) (A : Option Addr) (n c : Nat) (j : Int) (h0 : 0 ≤ j) (hm : j ≤ c) :
    ∀ W : World, (Instr.slice t (.slice A n c) none (some (.int kh j)) none).run P W = .ok (.slice A j.toNat c) W := by
  intro W
  have hel : P.elem t = e := by simp [Program.elem, ht]
  have hu : P.underlying t = some (.slice (P.elem t)) := by rw [hel]; exact ht
  have ha : (A.map fun x => x.add 0) = A := by cases A <;> simp [Addr.add]
  rw [Go.run_slice_h W t A n c hu kh j h0 hm, hel]
  simp [Go.sizeOf, Go.typeInfo, hi, Go.sliced, Go.Result.andThen, ha]
end
theorem eqS0_refl (l : List ByteArray) (hl : l.length ≤ 100000000) : ∀ (d i : Nat), l.length - i = d → i ≤ l.length → Ev (fun k => laws_eqStringS.l0 k l l i) true
  | 0, i, hd, hi => by
    refine Ev.step' ?_
    simp only [laws_eqStringS.l0]
    exact Ev.negf (by omega) (Ev.now _)
  | d + 1, i, hd, hi => by
    refine Ev.step' ?_
    simp only [laws_eqStringS.l0, w64_succ i (by omega)]
    exact Ev.posf (by omega) (Ev.posf (by omega) (Ev.posf (by omega) (Ev.posf trivial (eqS0_refl l hl d (i + 1) (by omega) (by omega)))))
theorem eqS_refl (l : List ByteArray) (hl : l.length ≤ 100000000) : Ev (fun k => laws_eqStringS.f k l l) true := by
  unfold laws_eqStringS.f
  exact Ev.posf rfl (eqS0_refl l hl _ 0 rfl (by omega))
def FulN (full n : Nat) : Prop := n + room n = full ∧ n ≤ 1000000
theorem room_le (n : Nat) : room n ≤ n + 1 := by
  unfold room
  split
  · omega
  · split <;> omega
set_option maxHeartbeats 4000000 in
theorem intS_calls (A B : Option Addr) (c d : Nat) (F : List ByteArray) (n : Nat) (w : World) (hx : Kd.C Kd.string w A F.length F) (hc : F.length ≤ c) (hy : Kd.C Kd.string w B F.length F) (hd : F.length ≤ d) (hF : FulN F.length n) :
    Calls Try.prog 30 #[.slice A n c, .slice B n d] w fun e w' => e = .returned (.bool true) ∧ Drawn0 w w' := by
  obtain ⟨h1, h2⟩ := hF
  have h3 := room_le n
  obtain ⟨K, hK⟩ := eqS_refl F (by omega)
  have HE := Aside0.mk (hK K (Nat.le_refl _))
  have HX := Aside0.mk hx
  have HY := Aside0.mk hy
  have HC := Aside0.mk hc
  have HD := Aside0.mk hd
  have hw : wrap64 ((n : Int) + (room n : Int)) = (F.length : Int) := by unfold wrap64; omega
  have hw2 : (IntKind.i64.wrap ((n : Int) + (room n : Int))) = (F.length : Int) := (i64_w _).trans hw
  have R9 := Aside0.mk (room_ev n)
  obtain ⟨i0, hi0, _, hsz, _⟩ := info_parts info9
  have hcutA := up_to (P := Try.prog) 30 9 .i64 Try.underlying30 hi0 A n c (F.length : Int) (by omega) (by omega)
  have hcutB := up_to (P := Try.prog) 30 9 .i64 Try.underlying30 hi0 B n d (F.length : Int) (by omega) (by omega)
  simp only [Int.toNat_natCast] at hcutA hcutB
  have e1 : ((n : Int) == (n : Int)) = true := by simp
  clear hK hx hy hc hd hi0 hsz h1 h3
  go_enter Try.func30, Try.ntmps30
  go_wp2_with (first | (go_at_call 62; (with_reducible refine (laws_roomBehind.calls (n : Int) _ _ R9.out).mono ?_); rintro e w' ⟨rfl, ⟨nd, rfl⟩⟩))
  have HX2 := Aside0.mk (Kd.C_below HX.out (Drawn0.mk ⟨nd, rfl⟩ : Drawn0 w (w.drewN nd)).below)
  have HY2 := Aside0.mk (Kd.C_below HY.out (Drawn0.mk ⟨nd, rfl⟩ : Drawn0 w (w.drewN nd)).below)
  have HW := Aside0.mk (Drawn0.mk ⟨nd, rfl⟩ : Drawn0 w (w.drewN nd))
  generalize World.drewN w nd = w2 at HX2 HY2 HW ⊢
  go_quiet ((go_at_call 36; exact quietD (fun W hW => laws_eqStringS.calls K _ _ F _ _ F true W (Kd.C_below HX2.out hW.below) HC.out (Kd.C_below HY2.out hW.below) HD.out HE.out)))
  have HW2 := Aside0.mk (HW.out.step nq)
  go_wp2
  go_ret
  exact ⟨rfl, HW2.out⟩
end Go.Proofs.Ytfnhjaiioojbkaa.Q
end
section
namespace Go.Proofs.Ytfnhjaiioojbkaa.Q
open Go.RowKit Go.Proofs.YtfnhjaiioojbkaaW.PrintWords
set_option linter.unusedVariables false
set_option linter.unusedSimpArgs false
def Big (l : Tx) : Prop := l.length ≤ 9223372036854775807 ∧ ∀ s ∈ l, s.size ≤ 9223372036854775807
theorem szS0_ev {l : Tx} (h : Big l) (hl : l.length ≤ 1000000) : ∀ (d i : Nat) (a : Int), l.length - i = d → i ≤ l.length → 0 ≤ a → a ≤ 1000000 →
    ∃ r, Ev (fun k => laws_szStringS.l0 k l a i) r ∧ -1 ≤ r ∧ r ≤ 1000000 ∧ (0 ≤ r → ∀ j (hj : j < l.length), i ≤ j → l[j].size ≤ 1000000)
  | 0, i, a, hd, hi, h0, h1 => by
    refine ⟨a, Ev.step' ?_, by omega, h1, fun _ j hj hij => absurd hj (by omega)⟩
    simp only [laws_szStringS.l0]
    exact Ev.negf (by omega) (Ev.now _)
  | d + 1, i, a, hd, hi, h0, h1 => by
    have hi' : i < l.length := by omega
    have hs := h.2 l[i] (List.getElem_mem hi')
    have hw : wrap64 (a - (l[i].size : Int)) = a - (l[i].size : Int) := w64 (by omega) (by omega)
    by_cases c : a - (l[i].size : Int) < 0
    · refine ⟨-1, Ev.step' ?_, by omega, by omega, fun hr => absurd hr (by omega)⟩
      simp only [laws_szStringS.l0, rdAt hi', hw]
      exact Ev.posf (by omega) (Ev.posf (by omega) (Ev.posf c (Ev.now _)))
    · obtain ⟨r, hr, r1, r2, r3⟩ := szS0_ev h hl d (i + 1) (a - (l[i].size : Int)) (by omega) (by omega) (by omega) (by omega)
      refine ⟨r, Ev.step' ?_, r1, r2, fun h0r j hj hij => ?_⟩
      · simp only [laws_szStringS.l0, rdAt hi', hw, w64_succ i (by omega)]
        exact Ev.posf (by omega) (Ev.posf (by omega) (Ev.negf c hr))
      · by_cases e : j = i
        · subst e; omega
        · exact r3 h0r j hj (by omega)
theorem szS_ev {l : Tx} (h : Big l) {a : Int} (h0 : 0 ≤ a) (h1 : a ≤ 1000000) : ∃ r, Ev (fun k => laws_szStringS.f k l a) r ∧ -1 ≤ r ∧ r ≤ 1000000 ∧ (0 ≤ r → Sm l) := by
  have hb := h.1
  have hw : wrap64 (a - (l.length : Int)) = a - (l.length : Int) := w64 (by omega) (by omega)
  unfold laws_szStringS.f
  by_cases c : a - (l.length : Int) < 0
  · exact ⟨-1, Ev.posf (by rw [hw]; exact c) (Ev.now _), by omega, by omega, fun hr => absurd hr (by omega)⟩
  · obtain ⟨r, hr, r1, r2, r3⟩ := szS0_ev h (by omega) _ 0 (a - (l.length : Int)) rfl (by omega) (by omega) (by omega)
    refine ⟨r, Ev.negf (by rw [hw]; exact c) (by rw [hw]; exact hr), r1, r2, fun h0r => ⟨by omega, fun s hs => ?_⟩⟩
    obtain ⟨j, hj, rfl⟩ := List.mem_iff_getElem.mp hs
    exact r3 h0r j hj (by omega)
theorem eqD0_refl (l : List Dl) (hl : l.length ≤ 100000000) (hx : ∀ x ∈ l, x.f2.length ≤ 100000000) : ∀ (d i : Nat), l.length - i = d → i ≤ l.length → Ev (fun k => laws_eqDeltaS.l0 k l l i) true
  | 0, i, hd, hi => by
    refine Ev.step' ?_
    simp only [laws_eqDeltaS.l0]
    exact Ev.negf (by omega) (Ev.now _)
  | d + 1, i, hd, hi => by
    have hi' : i < l.length := by omega
    refine Ev.step' ?_
    simp only [laws_eqDeltaS.l0, w64_succ i (by omega), rdD hi']
    refine Ev.posf (by omega) (Ev.posf (by omega) (Ev.posf (by omega) (Ev.bind (a := true) ?_ (Ev.posf rfl (eqD0_refl l hl hx d (i + 1) (by omega) (by omega))))))
    unfold laws_eqDelta.f
    exact Ev.posf rfl (Ev.posf rfl (Ev.bind (eqS_refl _ (hx _ (List.getElem_mem hi'))) (Ev.posf rfl (Ev.now _))))
theorem eqD_refl (l : List Dl) (hl : l.length ≤ 100000000) (hx : ∀ x ∈ l, x.f2.length ≤ 100000000) : Ev (fun k => laws_eqDeltaS.f k l l) true := by
  unfold laws_eqDeltaS.f
  exact Ev.posf rfl (eqD0_refl l hl hx _ 0 rfl (by omega))
end Go.Proofs.Ytfnhjaiioojbkaa.Q
end
section
namespace Go.Proofs.Ytfnhjaiioojbkaa.Q
open Go.RowKit Go.Proofs.YtfnhjaiioojbkaaW.PrintWords
set_option linter.unusedVariables false
set_option linter.unusedSimpArgs false
theorem list_of {α : Type} {p : Nat → α → Prop} : ∀ n, (∀ i, i < n → ∃ y, p i y) → ∃ l : List α, l.length = n ∧ ∀ i (hi : i < l.length), p i l[i]
  | 0, _ => ⟨[], rfl, fun i hi => absurd hi (by simp)⟩
  | n + 1, h => by
    obtain ⟨l, hl, hi⟩ := list_of n (fun i hi => h i (by omega))
    obtain ⟨y, hy⟩ := h n (by omega)
    refine ⟨l ++ [y], by simp [hl], fun i hlt => ?_⟩
    by_cases e : i < l.length
    · rw [List.getElem_append_left e]; exact hi i e
    · have : i = l.length := by simp at hlt; omega
      subst this
      rw [List.getElem_concat_length rfl, hl]; exact hy
section
variable {H : Type} {enc : TypeId × Value → H} {P : Program} {w : World} {base : Nat} {spare : Nat → Bool} {held : Bool}
/-- What is read at type t is of kind d, and G. -/
def Opens {α : Type} (enc : TypeId × Value → H) (P : Program) (w : World) (base : Nat) (spare : Nat → Bool) (held : Bool) (t : TypeId) (d : Kd α) (G : α → Prop) : Prop :=
  ∀ fuel cs x, DataW.trod enc P w base spare held fuel t cs = some x → ∃ a, d.K w a cs ∧ G a
theorem opens_string {t : TypeId} (ht : P.underlying t = some .string) : Opens enc P w base spare held t Kd.string (fun s => s.size ≤ 9223372036854775807) := fun fuel cs x h => by
  obtain ⟨s, h1, _, h2⟩ := DataW.trod_string ht h
  exact ⟨s, h1, h2⟩
theorem opens_slice {α : Type} {d : Kd α} {G : α → Prop} {t e : TypeId} (ht : P.underlying t = some (.slice e)) (hsz : P.cellsOf e = d.sz) (he : Opens enc P w base spare held e d G) :
    Opens enc P w base spare held t (Kd.slice e d) (fun l => l.length ≤ 9223372036854775807 ∧ ∀ a ∈ l, G a) := fun fuel cs x h => by
  rcases Go.Deep.open_slice ht h with ⟨rfl, _⟩ | ⟨a, len, cap, m, n, D, Pl, rfl, _, hl, hm, hmm, _, hx⟩
  · exact ⟨[], ⟨none, 0, rfl, Nat.le_refl _, ⟨rfl, by simp, fun h => absurd h (by simp)⟩⟩, by simp, fun a ha => by cases ha⟩
  · have hlm : len ≤ m := by rw [hmm]; split <;> omega
    have hxx : ∀ i, i < len → ∃ y : α, (∃ c, c.length = d.sz ∧ d.K w y c ∧ ∀ j u, c[j]? = some u → w.cell? (a.add (i * d.sz + j)) = some u) ∧ G y := fun i hi => by
      obtain ⟨c, h1, h2⟩ := hx i (by omega)
      obtain ⟨y, hy, hg⟩ := he _ _ _ h2
      obtain ⟨_, hcl, hcell⟩ := World.cells?_some h1
      rw [hsz] at hcl hcell
      refine ⟨y, ⟨c, hcl, hy, fun j u hu => ?_⟩, hg⟩
      have hj : j < d.sz := by
        have := (List.getElem?_eq_some_iff.mp hu).1
        omega
      have := hcell j hj
      rw [hu, Go.Deep.add_add] at this
      exact this
    obtain ⟨l, hll, hli⟩ := list_of len hxx
    have hm2 : cap ≤ 9223372036854775807 := hm
    refine ⟨l, ⟨some a, cap, by rw [hll], by omega, ⟨rfl, by omega, fun _ => ⟨a, rfl, fun j p hj => ?_⟩⟩⟩, by omega, fun p hp => ?_⟩
    · obtain ⟨hjl, rfl⟩ := List.getElem?_eq_some_iff.mp hj
      exact (hli j hjl).1
    · obtain ⟨j, hj, rfl⟩ := List.mem_iff_getElem.mp hp
      exact (hli j hj).2
end
section
variable {H : Type} {enc : TypeId × Value → H} {w : World} {base : Nat} {spare : Nat → Bool} {held : Bool}
set_option maxRecDepth 100000 in
theorem opens_strs : Opens enc Try.prog w base spare held 30 (Kd.slice 9 Kd.string) Big :=
  opens_slice Try.underlying30 (by kernel_rfl) (opens_string Try.underlying9)
/-- Of an argument's own value. -/
theorem opened {α : Type} {d : Kd α} {G : List α → Prop} {t e : TypeId} {A : Option Addr} {n c : Nat} {x : DataW H} {ps : List MemPlace} (ho : Opens enc Try.prog w base spare held t (Kd.slice e d) G)
    (h : DataW.Trod enc Try.prog w base spare held t (.slice A n c) x ps) : ∃ l : List α, n = l.length ∧ l.length ≤ c ∧ Kd.C d w A l.length l ∧ G l := by
  obtain ⟨fuel, hf⟩ := h
  obtain ⟨l, ⟨A2, c2, e2, hl, hC⟩, hg⟩ := ho fuel _ _ hf
  have e3 : [Value.slice A n c] = [.slice A2 l.length c2] := e2
  injection e3 with e4 _
  injection e4 with e5 e6 e7
  subst e5
  subst e7
  exact ⟨l, e6, hl, hC, hg⟩
end
end Go.Proofs.Ytfnhjaiioojbkaa.Q
end
section
namespace Go.Proofs.Ytfnhjaiioojbkaa.Q
open Go.RowKit Go.Proofs.YtfnhjaiioojbkaaW.PrintWords Go.Proofs.YtfnhjaiioojbkaaW.PrintLast Go.Proofs.YtfnhjaiioojbkaaW.PrintMore
attribute [local go_sem] max2_int min2_int max_two min_two max_three min_three max_four min_four
set_option linter.unusedVariables false
set_option linter.unusedSimpArgs false
theorem fulS_take (b : Bool) (l : Tx) : (fulS b l).1.take (fulS b l).2 = l := by
  unfold fulS
  split
  case isTrue h => rw [h.2]; rfl
  case isFalse h => simp
theorem fulS_len (b : Bool) (l : Tx) : (fulS b l).2 = l.length := by
  unfold fulS
  split
  case isTrue h => rw [h.2]; rfl
  case isFalse h => rfl
theorem fulS_ful (l : Tx) (h : l.length ≤ 1000000) : FulN (fulS false l).1.length (fulS false l).2 := by
  unfold fulS
  rw [if_neg (fun h => by cases h.1)]
  exact ⟨by simp, h⟩
end Go.Proofs.Ytfnhjaiioojbkaa.Q
end
section
namespace Go.Proofs.Ytfnhjaiioojbkaa.Q
open Go.RowKit Go.Proofs.YtfnhjaiioojbkaaW.PrintWords Go.Proofs.YtfnhjaiioojbkaaW.PrintLast Go.Proofs.YtfnhjaiioojbkaaW.PrintMore
attribute [local go_sem] max2_int min2_int max_two min_two max_three min_three max_four min_four   -- for this text's walks alone
set_option linter.unusedVariables false
set_option linter.unusedSimpArgs false
def laws_markText.l0 : Nat → Int → ByteArray → Option (ByteArray)
 | 0, _, _ => none
 | k + 1, x0, x3 => if x0 > 0 then ((some (([(wrap64 (48 + (Int.tmod x0 10))) % 256] : List Int) : List Int)).bind fun y491 => (if (strOfNums y491).size + x3.size ≤ 9223372036854775807 then (laws_markText.l0 k (wrap64 (Int.tdiv x0 10)) ((strOfNums y491) ++ x3)) else (none))) else (if 1 + x3.size ≤ 9223372036854775807 then (some ((⟨#[109]⟩ : ByteArray) ++ x3)) else (none))
def laws_markText.f (k : Nat) (a0 : Int) : Option (ByteArray) := if a0 ≤ 0 then (some (⟨#[109, 48]⟩ : ByteArray)) else (laws_markText.l0 k a0 (⟨#[]⟩ : ByteArray))
set_option maxHeartbeats 8000000 in
set_option maxRecDepth 100000 in
theorem laws_markText.calls (k : Nat) (a0 : Int) (r : ByteArray) (w : World) (h : laws_markText.f k a0 = some r) :
 Calls Try.prog 77 #[.int .i64 a0] w fun e w' => e = .returned (.string r) ∧ Below w.heap.size w w' := by
 have HB := Aside0.mk (Below.refl w.heap.size w); have H : (if a0 ≤ 0 then (some (⟨#[109, 48]⟩ : ByteArray)) else (laws_markText.l0 k a0 (⟨#[]⟩ : ByteArray))) = some r := h; clear h; by_cases c2 : a0 ≤ 0
 ·rw [if_pos c2] at H; have c2b0 : decide (a0 ≤ 0) = true := decide_eq_true c2; clear c2; obtain rfl := Option.some.inj H; go_enter Try.func77, Try.ntmps77; go_wp2; go_ret; exact ⟨by first | rfl | (simp <;> rfl) | (simp [*] <;> rfl), by repeat (first | (with_reducible first | exact HB.out | apply below_alloc | apply pw_below_drewN | apply below_drew1) | exact HB.out)⟩
 ·rw [if_neg c2] at H; have c2b0 : decide (a0 ≤ 0) = false := decide_eq_false c2; clear c2; have H' := Aside0.mk H; clear H; go_enter Try.func77, Try.ntmps77; go_wp2; go_loopg [0, 3] k (fun kq v0 v3 w' => ∃ (x0_1 : Int) (x3_1 : ByteArray), v0 = .int .i64 x0_1 ∧ v3 = .string x3_1 ∧ Aside0 (laws_markText.l0 kq x0_1 x3_1 = some r) ∧ Aside0 (kq ≤ k) ∧ Aside0 (Below w.heap.size w w'))
  case atStart => exact ⟨(a0), ((⟨#[]⟩ : ByteArray)), (by first | rfl | (simp; done) | (simp [*]; done)), (by first | rfl | (simp; done) | (simp [*]; done)), H', ⟨Nat.le_refl _⟩, ⟨by repeat (first | (with_reducible first | exact HB.out | apply below_alloc | apply pw_below_drewN | apply below_drew1) | exact HB.out)⟩⟩
  case round =>
   clear H'; (try clear c2); (try clear c2b0); (try clear p2); obtain ⟨x0_1, x3_1, rfl, rfl, HA, HK1, HB⟩ := hrel
   cases gk with
   | zero => exact absurd HA.out (by simp [laws_markText.l0])
   | succ k1 =>
    have H := HA.out; clear HA; simp only [laws_markText.l0] at H; by_cases c3 : x0_1 > 0
    ·rw [if_pos c3] at H; have c3b0 : decide (0 < x0_1) = true := decide_eq_true c3; clear c3; obtain ⟨y491, hy491⟩ : ∃ y_ : List Int, y_ = (([(wrap64 (48 + (Int.tmod x0_1 10))) % 256] : List Int)) := ⟨_, rfl⟩; (replace H : (if (strOfNums y491).size + x3_1.size ≤ 9223372036854775807 then (laws_markText.l0 k1 (wrap64 (Int.tdiv x0_1 10)) ((strOfNums y491) ++ x3_1)) else (none)) = some r := by first | (rw [hy491]; with_reducible exact H) | (have H2_ := (Option.bind_some _ _).symm.trans H; rw [hy491]; with_reducible exact H2_) | (have H2_ := (Option.bind_some _ _).symm.trans H; with_reducible exact H2_) | with_reducible exact H | (rw [hy491]; exact H) | exact H); have Ny491 := Aside0.mk hy491; clear hy491; by_cases c4 : (strOfNums y491).size + x3_1.size ≤ 9223372036854775807
     ·rw [if_pos c4] at H; have c4b0 := eq_true c4; have c4b1 : decide ((strOfNums y491).size + x3_1.size ≤ 9223372036854775807) = true := decide_eq_true c4; (try have c4b2 : (9223372036854775807 < (strOfNums y491).size + x3_1.size) = False := eq_false (Nat.not_lt.2 c4)); have H' := Aside0.mk H; clear H; go_wp2_with (first | ((with_reducible refine gate_dst (N := 12) rfl ?_); refine Kd.R_lit (Kd.int .u8) _ 5 ?hg (N := 12) ?hd (xs := ([(wrap64 (48 + (Int.tmod x0_1 10))) % 256] : List Int)) (inner := [.int .u8 ((wrap64 (48 + (Int.tmod x0_1 10))) % 256)]) (ok := fun _ => True) (okp := fun _ => True) ?hr ?hp (fun _ hk => hk) trivial (Below.refl _ _) (Nat.le_refl _) (by simp) ?_; (case hd => rfl); (case hg => rfl); (case hr => first | (go_simp; done) | (go_simp; rfl)); (case hp => exact (Reps.one (show Kd.M (Kd.int .u8) _ _ _ ((wrap64 (48 + (Int.tmod x0_1 10))) % 256) [.int .u8 ((wrap64 (48 + (Int.tmod x0_1 10))) % 256)] from rfl) (Reps.none _ _))); intro v492 w5 ho6 hb hg_ hnew_; clear hg_ hnew_; (first | rw [← Ny491.out] at ho6 | (simp only [Int.reduceToNat] at ho6; rw [← Ny491.out] at ho6)); have n0_ := Aside0.mk (Kd.R_lower ho6 (below_size (by repeat (first | (with_reducible first | exact HB.out | apply below_alloc | apply pw_below_drewN | apply below_drew1) | exact HB.out)))); have n1_ := Aside0.mk (below_step (by repeat (first | (with_reducible first | exact HB.out | apply below_alloc | apply pw_below_drewN | apply below_drew1) | exact HB.out)) hb); clear HB; have HO493 := n0_; have HB := n1_; clear n0_ n1_; clear hb ho6; have hcv7 := own_string (P := Try.prog) Try.underlying29 Try.underlying5 Try.underlying9 (Kd.own_of_R HO493.out))); go_roundg k1
      case measure => have := HK1.out; omega
      case rel => exact ⟨(wrap64 (Int.tdiv x0_1 10)), ((strOfNums y491) ++ x3_1), (by first | rfl | (simp; done) | (simp [*]; done)), (by first | rfl | (simp; done) | (simp [*]; done)), H', ⟨by have := HK1.out; omega⟩, ⟨by repeat (first | (with_reducible first | exact HB.out | apply below_alloc | apply pw_below_drewN | apply below_drew1) | exact HB.out)⟩⟩
     ·rw [if_neg c4] at H; exact absurd H (by simp)
    ·rw [if_neg c3] at H; have c3b0 : decide (0 < x0_1) = false := decide_eq_false c3; clear c3; by_cases c8 : 1 + x3_1.size ≤ 9223372036854775807
     ·rw [if_pos c8] at H; have c8b0 := eq_true c8; have c8b1 : decide (1 + x3_1.size ≤ 9223372036854775807) = true := decide_eq_true c8; (try have c8b2 : (9223372036854775807 < 1 + x3_1.size) = False := eq_false (Nat.not_lt.2 c8)); obtain rfl := Option.some.inj H; go_wp2; go_ret; exact ⟨by first | rfl | (simp <;> rfl) | (simp [*] <;> rfl), by repeat (first | (with_reducible first | exact HB.out | apply below_alloc | apply pw_below_drewN | apply below_drew1) | exact HB.out)⟩
     ·rw [if_neg c8] at H; exact absurd H (by simp)
end Go.Proofs.Ytfnhjaiioojbkaa.Q
end
section
namespace Go.Proofs.Ytfnhjaiioojbkaa.Q
open Go.RowKit Go.Proofs.YtfnhjaiioojbkaaW.PrintWords Go.Proofs.YtfnhjaiioojbkaaW.PrintLast Go.Proofs.YtfnhjaiioojbkaaW.PrintMore
attribute [local go_sem] max2_int min2_int max_two min_two max_three min_three max_four min_four   -- for this text's walks alone
set_option linter.unusedVariables false
set_option linter.unusedSimpArgs false
def laws_markStringS.l0 : Nat → List ByteArray → Int → Int → Option (Int × List ByteArray)
 | 0, _, _, _ => none
 | k + 1, x0, x1, x5 => if x5 < (x0.length : Int) then ((laws_markText.f k x1).bind fun t494 => (if 0 ≤ x5 then (laws_markStringS.l0 k (x0.set (x5 : Int).toNat t494) (wrap64 (x1 + 1)) (wrap64 (x5 + 1))) else (none))) else (some (x1, x0))
def laws_markStringS.f (k : Nat) (l0 : List ByteArray) (a1 : Int) : Option (Int × List ByteArray) := laws_markStringS.l0 k l0 a1 0
set_option maxHeartbeats 8000000 in
set_option maxRecDepth 100000 in
theorem laws_markStringS.calls (k : Nat) (P0_ : Nat → Prop) (u9000_ : Value) (l0 : List ByteArray) (a1 : Int) (r1 : Int) (r2 : List ByteArray) (w0 w : World) (hB : Below w0.heap.size w0 w) (ho0 : Kd.R Kd.string 9 w w0.heap.size P0_ u9000_ l0) (h : laws_markStringS.f k l0 a1 = some (r1, r2)) :
 Calls Try.prog 31 #[u9000_, .int .i64 a1] w fun e w' => e = .returned (.int .i64 r1) ∧ Kd.R Kd.string 9 w' w0.heap.size (fun k_ => (P0_ k_ ∨ w.heap.size ≤ k_)) u9000_ r2 ∧ Below w0.heap.size w0 w' ∧ Kept w w' (fun k_ => P0_ k_) := by
 have HO0 := Aside0.mk (show Kd.R Kd.string 9 w w0.heap.size (fun k_ => (P0_ k_ ∨ w.heap.size ≤ k_)) u9000_ l0 from Kd.R_mono ho0 (fun k_ hk => (.inl hk))); have HK := Aside0.mk (Kept.refl w (fun k_ => P0_ k_)); have HW0 := Aside0.mk hB.size; have HB := Aside0.mk hB; clear hB; have H : (laws_markStringS.l0 k l0 a1 0) = some (r1, r2) := h; clear h; have H' := Aside0.mk H; clear H; go_enter Try.func31, Try.ntmps31; go_wp2; go_loopg [1, 5] k (fun kq v1 v5 w' => ∃ (x0_1 : List ByteArray) (x1_1 : Int) (x5_1 : Int), v1 = .int .i64 x1_1 ∧ v5 = .int .i64 x5_1 ∧ Aside0 (laws_markStringS.l0 kq x0_1 x1_1 x5_1 = some (r1, r2)) ∧ Aside0 (kq ≤ k) ∧ Aside0 (Kd.R Kd.string 9 w' w0.heap.size (fun k_ => (P0_ k_ ∨ w.heap.size ≤ k_)) u9000_ x0_1) ∧ Aside0 (Kept w w' (fun k_ => P0_ k_)) ∧ Aside0 (Below w0.heap.size w0 w'))
 case atStart => exact ⟨(l0), (a1), (0), (by first | rfl | (simp; done) | (simp [*]; done)), (by first | rfl | (simp; done) | (simp [*]; done)), H', ⟨Nat.le_refl _⟩, ⟨by (with_reducible repeat (first | apply Kd.R_alloc | apply Kd.R_drewN | apply Kd.R_drew)); exact HO0.out⟩, ⟨by repeat (first | (with_reducible first | exact HK.out | apply Kept.alloc | apply Kept.drewN | apply Kept.drew) | exact HK.out)⟩, ⟨by repeat (first | (with_reducible first | exact HB.out | apply below_alloc | apply pw_below_drewN | apply below_drew1) | exact HB.out)⟩⟩
 case round =>
  clear H'; (try clear p2); obtain ⟨x0_1, x1_1, x5_1, rfl, rfl, HA, HK1, HO_0, HK, HB⟩ := hrel
  cases gk with
  | zero => exact absurd HA.out (by simp [laws_markStringS.l0])
  | succ k1 =>
   have H := HA.out; clear HA; simp only [laws_markStringS.l0] at H; by_cases c3 : x5_1 < (x0_1.length : Int)
   ·rw [if_pos c3] at H; have c3b0 : decide (x5_1 < (x0_1.length : Int)) = true := decide_eq_true c3; clear c3; replace H := Option.bind_eq_some_iff.mp H; obtain ⟨t494, A40, H⟩ := H; replace H : (if 0 ≤ x5_1 then (laws_markStringS.l0 k1 (x0_1.set (x5_1 : Int).toNat t494) (wrap64 (x1_1 + 1)) (wrap64 (x5_1 + 1))) else (none)) = some (r1, r2) := H; have A4 := Aside0.mk A40; clear A40; by_cases c5 : 0 ≤ x5_1
    ·rw [if_pos c5] at H; have c5b0 : decide (0 ≤ x5_1) = true := decide_eq_true c5; clear c5; obtain ⟨y495, hy495⟩ : ∃ y_ : List ByteArray, y_ = (x0_1.set (x5_1 : Int).toNat t494) := ⟨_, rfl⟩; (replace H : (laws_markStringS.l0 k1 y495 (wrap64 (x1_1 + 1)) (wrap64 (x5_1 + 1))) = some (r1, r2) := by first | (rw [hy495]; with_reducible exact H) | (have H2_ := (Option.bind_some _ _).symm.trans H; rw [hy495]; with_reducible exact H2_) | (have H2_ := (Option.bind_some _ _).symm.trans H; with_reducible exact H2_) | with_reducible exact H | (rw [hy495]; exact H) | exact H); have Ny495 := Aside0.mk hy495; clear hy495; have H' := Aside0.mk H; clear H; obtain ⟨Ao7, co7, eo7⟩ := Kd.R_slice HO_0.out; subst eo7; go_wp2_with (first | ((with_reducible refine gate_callee (f := 77) rfl ?_); refine goesL_ (some 15) rfl rfl Try.func77 (by kernel_rfl) rfl #[.int .i64 x1_1] rfl (by (try simp only [List.map_toArray, List.map_cons, List.map_nil]); first | done | rfl | (simp only [List.length_drop, List.length_take]; rfl)) ?_; (with_reducible refine (laws_markText.calls k1 x1_1 t494 _ A4.out).mono ?_); rintro e w8 ⟨rfl, hb⟩; refine ⟨_, rfl, ?_⟩; have n0_ := Aside0.mk (Kd.R_below (by (with_reducible repeat (first | apply Kd.R_alloc | apply Kd.R_drewN | apply Kd.R_drew)); exact HO_0.out) hb); have n1_ := Aside0.mk (Kept.below (S := (fun k_ => P0_ k_)) (by repeat (first | (with_reducible first | exact HK.out | apply Kept.alloc | apply Kept.drewN | apply Kept.drew) | exact HK.out)) hb); have n2_ := Aside0.mk (below_step (by repeat (first | (with_reducible first | exact HB.out | apply below_alloc | apply pw_below_drewN | apply below_drew1) | exact HB.out)) hb); clear HO_0; clear HK; clear HB; have HO_0 := n0_; have HK := n1_; have HB := n2_; clear n0_ n1_ n2_; (try clear hb); (try clear hb2); (try clear hk); (try clear hi); have p6 : 0 ≤ (x5_1 : Int) := of_decide_eq_true (by assumption); have q6 : (x5_1 : Int) < ((x0_1.length : Int) : Int) := of_decide_eq_true (by assumption); obtain ⟨go6, co6, eo6, gb6, gl6, cl6, HG6⟩ := Kd.R_form HO_0.out (by omega); (first | cases eo6 | (injection eo6 with ea_ en_ ec_; (first | subst ea_ | (injection ea_ with ea_; subst ea_)); subst ec_; clear en_)); have GB6 := Aside0.mk gb6; have GG6 := Aside0.mk HG6; clear gb6 gl6 HG6; have HMgo6 := Aside0.mk (show (P0_ go6 ∨ w.heap.size ≤ go6) from (HO_0.out.1 _ rfl)); obtain ⟨hx6_0, hf6_0⟩ := Kd.R_celln (⟨#[]⟩ : ByteArray) HO_0.out (x5_1 : Int) p6 q6; replace p6 := eq_true p6; replace q6 := eq_true q6; obtain ⟨hy9_, hz9_⟩ := Kd.R_celln (⟨#[]⟩ : ByteArray) HO_0.out (x5_1 : Int) (of_decide_eq_true (by assumption)) (of_decide_eq_true (by assumption)); have HP9 := Kd.R_putg HO_0.out (x5_1 : Int) t494) | ((with_reducible refine gate_store (t := 9) (p := 16) rfl ?_); refine store_event (t := 9) (p := 16) (v := ?vo_w10) (w1 := (w8.setCell ⟨go6, (x5_1 : Int).toNat, none⟩ (.string t494))) ?hg ?ho ?hn ?hr ?_; (case ho => rfl); (case hg => rfl); (case hn => rfl); (case hr => first | (go_simp; done) | (go_simp; rfl)); intro w10 hw; have hg : w8.grownBy w10 (some go6) := (by rw [hw]; exact HP9.2); have hp_ : Kd.R Kd.string 9 w10 w0.heap.size (fun k_ => (P0_ k_ ∨ w.heap.size ≤ k_)) (.slice (some ⟨go6, 0, none⟩) x0_1.length co7) y495 := (by rw [hw, Ny495.out]; exact HP9.1); clear HP9; have n0_ := Aside0.mk (hp_); have n1_ := Aside0.mk ((by rw [hw]; exact below_set (HB.out) GB6.out : Below w0.heap.size w0 w10)); have n2_ := Aside0.mk (Kept.of_grown (S := (fun k_ => P0_ k_)) hg (by repeat (first | (with_reducible first | exact HK.out | apply Kept.alloc | apply Kept.drewN | apply Kept.drew) | exact HK.out)) (fun k_ e_ => (HO_0.out.1 k_ e_))); clear HO_0; clear HB; clear HK; have HO_0 := n0_; have HB := n1_; have HK := n2_; clear n0_ n1_ n2_; clear hg hw hp_))
     go_roundg k1
     case measure => have := HK1.out; omega
     case rel => exact ⟨(y495), (wrap64 (x1_1 + 1)), (wrap64 (x5_1 + 1)), (by first | rfl | (simp; done) | (simp [*]; done)), (by first | rfl | (simp; done) | (simp [*]; done)), H', ⟨by have := HK1.out; omega⟩, ⟨by (with_reducible repeat (first | apply Kd.R_alloc | apply Kd.R_drewN | apply Kd.R_drew)); exact HO_0.out⟩, ⟨by repeat (first | (with_reducible first | exact HK.out | apply Kept.alloc | apply Kept.drewN | apply Kept.drew) | exact HK.out)⟩, ⟨by repeat (first | (with_reducible first | exact HB.out | apply below_alloc | apply pw_below_drewN | apply below_drew1) | exact HB.out)⟩⟩
    ·rw [if_neg c5] at H; exact absurd H (by simp)
   ·rw [if_neg c3] at H; have c3b0 : decide (x5_1 < (x0_1.length : Int)) = false := decide_eq_false c3; clear c3; simp only [Option.some.injEq, Prod.mk.injEq] at H; obtain ⟨rfl, rfl⟩ := H; obtain ⟨Ao11, co11, eo11⟩ := Kd.R_slice HO_0.out; subst eo11; go_wp2; go_ret; exact ⟨by first | rfl | (simp <;> rfl) | (simp [*] <;> rfl), by (with_reducible repeat (first | apply Kd.R_alloc | apply Kd.R_drewN | apply Kd.R_drew)); exact HO_0.out, by repeat (first | (with_reducible first | exact HB.out | apply below_alloc | apply pw_below_drewN | apply below_drew1) | exact HB.out), by repeat (first | (with_reducible first | exact HK.out | apply Kept.alloc | apply Kept.drewN | apply Kept.drew) | exact HK.out)⟩
end Go.Proofs.Ytfnhjaiioojbkaa.Q
end
section
namespace Go.Proofs.Ytfnhjaiioojbkaa.Q
open Go.RowKit Go.Proofs.YtfnhjaiioojbkaaW.PrintWords Go.Proofs.YtfnhjaiioojbkaaW.PrintLast Go.Proofs.YtfnhjaiioojbkaaW.PrintMore
attribute [local go_sem] max2_int min2_int max_two min_two max_three min_three max_four min_four   -- for this text's walks alone
set_option linter.unusedVariables false
set_option linter.unusedSimpArgs false
def laws_heldStringS.l0 : Nat → List ByteArray → Int → Int → Option (Int)
 | 0, _, _, _ => none
 | k + 1, x0, x1, x5 => if x5 < (x0.length : Int) then (if 0 ≤ x5 then ((laws_markText.f k x1).bind fun t497 => (if (rdOf ByteArray.empty x0 x5).toList = t497.toList then (laws_heldStringS.l0 k x0 (wrap64 (x1 + 1)) (wrap64 (x5 + 1))) else (some (-1)))) else (none)) else (some x1)
def laws_heldStringS.f (k : Nat) (l0 : List ByteArray) (a1 : Int) : Option (Int) := laws_heldStringS.l0 k l0 a1 0
set_option maxHeartbeats 8000000 in
set_option maxRecDepth 100000 in
theorem laws_heldStringS.calls (k : Nat) (A0 : Option Addr) (c0 : Nat) (l0 : List ByteArray) (a1 : Int) (r : Int) (w : World) (hr0 : Kd.C Kd.string w A0 l0.length l0) (hc0 : l0.length ≤ c0) (h : laws_heldStringS.f k l0 a1 = some r) :
 Calls Try.prog 37 #[.slice A0 l0.length c0, .int .i64 a1] w fun e w' => e = .returned (.int .i64 r) ∧ Below w.heap.size w w' := by
 have HR0 := Aside0.mk hr0; have HC0 := Aside0.mk hc0; clear hr0 hc0; have HB := Aside0.mk (Below.refl w.heap.size w); have H : (laws_heldStringS.l0 k l0 a1 0) = some r := h; clear h; have H' := Aside0.mk H; clear H; go_enter Try.func37, Try.ntmps37; go_wp2; go_loopg [1, 5] k (fun kq v1 v5 w' => ∃ (x1_1 : Int) (x5_1 : Int), v1 = .int .i64 x1_1 ∧ v5 = .int .i64 x5_1 ∧ Aside0 (laws_heldStringS.l0 kq l0 x1_1 x5_1 = some r) ∧ Aside0 (kq ≤ k) ∧ Aside0 (Below w.heap.size w w'))
 case atStart => exact ⟨(a1), (0), (by first | rfl | (simp; done) | (simp [*]; done)), (by first | rfl | (simp; done) | (simp [*]; done)), H', ⟨Nat.le_refl _⟩, ⟨by repeat (first | (with_reducible first | exact HB.out | apply below_alloc | apply pw_below_drewN | apply below_drew1) | exact HB.out)⟩⟩
 case round =>
  clear H'; (try clear p2); obtain ⟨x1_1, x5_1, rfl, rfl, HA, HK1, HB⟩ := hrel
  cases gk with
  | zero => exact absurd HA.out (by simp [laws_heldStringS.l0])
  | succ k1 =>
   have H := HA.out; clear HA; simp only [laws_heldStringS.l0] at H; by_cases c3 : x5_1 < (l0.length : Int)
   ·rw [if_pos c3] at H; have c3b0 : decide (x5_1 < (l0.length : Int)) = true := decide_eq_true c3; clear c3; by_cases c4 : 0 ≤ x5_1
    ·rw [if_pos c4] at H; have c4b0 : decide (0 ≤ x5_1) = true := decide_eq_true c4; clear c4; replace H := Option.bind_eq_some_iff.mp H; obtain ⟨t497, A50, H⟩ := H; replace H : (if (rdOf ByteArray.empty l0 x5_1).toList = t497.toList then (laws_heldStringS.l0 k1 l0 (wrap64 (x1_1 + 1)) (wrap64 (x5_1 + 1))) else (some (-1))) = some r := H; have A5 := Aside0.mk A50; clear A50; by_cases c6 : (rdOf ByteArray.empty l0 x5_1).toList = t497.toList
     ·rw [if_pos c6] at H; have c6b0 : ((rdOf ByteArray.empty l0 x5_1).toList == t497.toList) = true := beq_iff_eq.mpr c6; have c6b1 : ((rdOf ByteArray.empty l0 x5_1).toList != t497.toList) = false := bne_eq_false_iff_eq.mpr c6; clear c6; have H' := Aside0.mk H; clear H; (try go_wp2); have n0_ := Aside0.mk (below_drew1 HB.out); clear HB; have HB := n0_; clear n0_; have p496 : 0 ≤ (x5_1 : Int) := of_decide_eq_true (by assumption); have q496 : x5_1 < (l0.length : Int) := of_decide_eq_true (by assumption); obtain ⟨ad496, e496, hx496_0⟩ := Kd.at_string HR0.out x5_1 p496 q496; have hw496_0 := hx496_0; cases e496; replace hx496_0 := (HB.out.cell (World.block_lt_of_cell? w _ hx496_0)).trans hx496_0; replace p496 := eq_true p496; replace q496 := eq_true q496; refine start_ (n := 7) (S := fun w' => w'.cell? (ad496.add (x5_1).toNat) = some (.string (rdOf ByteArray.empty l0 x5_1))) (ds := []) #[f_, f_, f_, f_, f_, f_, f_] (by kernel_rfl) rfl rfl (((HB.out.cell (World.block_lt_of_cell? w _ hw496_0)).trans hw496_0)) (fun hHeld => ?_); generalize wr.drew = w7 at HB hx496_0 hHeld ⊢; refine pure_ (i := 0) (N := some 12) (v := ?_) (a' := ?_) #[t_, f_, f_, f_, f_, f_, f_] rfl rfl (by kernel_rfl) (fun _ _ _ h => h) (Or.inl ⟨by rfl, ?_⟩) ?_ ?_
      rotate_left
      ·intro w'; go_simp
       with_reducible rfl
      rotate_left
      ·simp only [Act.put, List.setIfInBounds_toArray, List.set_cons_zero, List.set_cons_succ, i64_w, i32_w]
       rfl
      refine pure_ (i := 1) (N := some 13) (v := ?_) (a' := ?_) #[t_, t_, f_, f_, f_, f_, f_] rfl rfl (by kernel_rfl) (fun _ _ _ h => h) (Or.inl ⟨by rfl, ?_⟩) ?_ ?_
      rotate_left
      ·intro w'; go_simp
       with_reducible rfl
      rotate_left
      ·simp only [Act.put, List.setIfInBounds_toArray, List.set_cons_zero, List.set_cons_succ, i64_w, i32_w]
       rfl
      refine pure_ (i := 2) (N := some 14) (v := ?_) (a' := ?_) #[t_, t_, t_, f_, f_, f_, f_] rfl rfl (by kernel_rfl) (fun _ _ _ h => h) (Or.inl ⟨by rfl, ?_⟩) ?_ ?_
      rotate_left
      ·intro w'; go_simp
       with_reducible rfl
      rotate_left
      ·simp only [Act.put, List.setIfInBounds_toArray, List.set_cons_zero, List.set_cons_succ, i64_w, i32_w]
       rfl
      refine pure_ (i := 4) (N := some 16) (v := ?_) (a' := ?_) #[t_, t_, t_, f_, t_, f_, f_] rfl rfl (by kernel_rfl) (fun _ _ _ h => h) (Or.inl ⟨by rfl, ?_⟩) ?_ ?_
      rotate_left
      ·intro w'; go_simp
       with_reducible rfl
      rotate_left
      ·simp only [Act.put, List.setIfInBounds_toArray, List.set_cons_zero, List.set_cons_succ, i64_w, i32_w]
       rfl
      refine take_ (i := 3) (N := some 15) (v := ?_) (a' := ?_) #[t_, t_, t_, t_, t_, f_, f_] rfl rfl (by kernel_rfl) (fun _ _ _ h => h) (Or.inl ⟨by rfl, ?_⟩) hHeld ?_ ?_
      rotate_left
      ·intro w' s0; go_simp
       with_reducible rfl
      rotate_left
      ·simp only [Act.put, List.setIfInBounds_toArray, List.set_cons_zero, List.set_cons_succ, i64_w, i32_w]
       rfl
      refine one_ (i := 5) (N := some 17) #[t_, t_, t_, t_, t_, t_, f_] rfl rfl (by kernel_rfl) (by decide) (fun K hK => ?_); refine goes_ Try.func77 (by kernel_rfl) rfl #[.int .i64 x1_1] (by rfl) rfl rfl (by (try simp only [List.map_toArray, List.map_cons, List.map_nil]); first | done | rfl | (simp only [List.length_drop, List.length_take]; rfl)) ?_
      with_reducible refine (laws_markText.calls k1 x1_1 t497 _ A5.out).mono ?_
      rintro e w8 ⟨rfl, hb⟩; refine ⟨_, rfl, ?_⟩; have n0_ := Aside0.mk (below_step (by repeat (first | (with_reducible first | exact HB.out | apply below_alloc | apply pw_below_drewN | apply below_drew1) | exact HB.out)) hb); clear HB; have HB := n0_; clear n0_
      (try clear hb)
      (try clear hb2)
      (try clear hk)
      (try clear hi)
      refine hK.out _ _ (((HB.out.cell (World.block_lt_of_cell? w _ hw496_0)).trans hw496_0)) (fun hHeld => ?_); clear hK K; refine norm_ (a' := ?_) ?_ ?_
      rotate_left
      ·show Act.put _ (some 17) _ = _
       simp only [Act.put, List.setIfInBounds_toArray, List.set_cons_zero, List.set_cons_succ, i64_w, i32_w]
       rfl
      refine pure_ (i := 6) (N := some 18) (v := ?_) (a' := ?_) #[t_, t_, t_, t_, t_, t_, t_] rfl rfl (by kernel_rfl) (fun _ _ _ h => h) (Or.inl ⟨by rfl, ?_⟩) ?_ ?_
      rotate_left
      ·intro w'; go_simp
       with_reducible rfl
      rotate_left
      ·simp only [Act.put, List.setIfInBounds_toArray, List.set_cons_zero, List.set_cons_succ, i64_w, i32_w]
       rfl
      refine done_ (by kernel_rfl) ?_; (try go_wp2); go_roundg k1
      case measure => have := HK1.out; omega
      case rel => exact ⟨(wrap64 (x1_1 + 1)), (wrap64 (x5_1 + 1)), (by first | rfl | (simp; done) | (simp [*]; done)), (by first | rfl | (simp; done) | (simp [*]; done)), H', ⟨by have := HK1.out; omega⟩, ⟨by repeat (first | (with_reducible first | exact HB.out | apply below_alloc | apply pw_below_drewN | apply below_drew1) | exact HB.out)⟩⟩
     ·rw [if_neg c6] at H; have c6b0 : ((rdOf ByteArray.empty l0 x5_1).toList == t497.toList) = false := beq_eq_false_iff_ne.mpr c6; have c6b1 : ((rdOf ByteArray.empty l0 x5_1).toList != t497.toList) = true := bne_iff_ne.mpr c6; obtain rfl := Option.some.inj H; (try go_wp2); have n0_ := Aside0.mk (below_drew1 HB.out); clear HB; have HB := n0_; clear n0_; have p496 : 0 ≤ (x5_1 : Int) := of_decide_eq_true (by assumption); have q496 : x5_1 < (l0.length : Int) := of_decide_eq_true (by assumption); obtain ⟨ad496, e496, hx496_0⟩ := Kd.at_string HR0.out x5_1 p496 q496; have hw496_0 := hx496_0; cases e496; replace hx496_0 := (HB.out.cell (World.block_lt_of_cell? w _ hx496_0)).trans hx496_0; replace p496 := eq_true p496; replace q496 := eq_true q496; refine start_ (n := 7) (S := fun w' => w'.cell? (ad496.add (x5_1).toNat) = some (.string (rdOf ByteArray.empty l0 x5_1))) (ds := []) #[f_, f_, f_, f_, f_, f_, f_] (by kernel_rfl) rfl rfl (((HB.out.cell (World.block_lt_of_cell? w _ hw496_0)).trans hw496_0)) (fun hHeld => ?_); generalize wr.drew = w9 at HB hx496_0 hHeld ⊢; refine pure_ (i := 0) (N := some 12) (v := ?_) (a' := ?_) #[t_, f_, f_, f_, f_, f_, f_] rfl rfl (by kernel_rfl) (fun _ _ _ h => h) (Or.inl ⟨by rfl, ?_⟩) ?_ ?_
      rotate_left
      ·intro w'; go_simp
       with_reducible rfl
      rotate_left
      ·simp only [Act.put, List.setIfInBounds_toArray, List.set_cons_zero, List.set_cons_succ, i64_w, i32_w]
       rfl
      refine pure_ (i := 1) (N := some 13) (v := ?_) (a' := ?_) #[t_, t_, f_, f_, f_, f_, f_] rfl rfl (by kernel_rfl) (fun _ _ _ h => h) (Or.inl ⟨by rfl, ?_⟩) ?_ ?_
      rotate_left
      ·intro w'; go_simp
       with_reducible rfl
      rotate_left
      ·simp only [Act.put, List.setIfInBounds_toArray, List.set_cons_zero, List.set_cons_succ, i64_w, i32_w]
       rfl
      refine pure_ (i := 2) (N := some 14) (v := ?_) (a' := ?_) #[t_, t_, t_, f_, f_, f_, f_] rfl rfl (by kernel_rfl) (fun _ _ _ h => h) (Or.inl ⟨by rfl, ?_⟩) ?_ ?_
      rotate_left
      ·intro w'; go_simp
       with_reducible rfl
      rotate_left
      ·simp only [Act.put, List.setIfInBounds_toArray, List.set_cons_zero, List.set_cons_succ, i64_w, i32_w]
       rfl
      refine pure_ (i := 4) (N := some 16) (v := ?_) (a' := ?_) #[t_, t_, t_, f_, t_, f_, f_] rfl rfl (by kernel_rfl) (fun _ _ _ h => h) (Or.inl ⟨by rfl, ?_⟩) ?_ ?_
      rotate_left
      ·intro w'; go_simp
       with_reducible rfl
      rotate_left
      ·simp only [Act.put, List.setIfInBounds_toArray, List.set_cons_zero, List.set_cons_succ, i64_w, i32_w]
       rfl
      refine take_ (i := 3) (N := some 15) (v := ?_) (a' := ?_) #[t_, t_, t_, t_, t_, f_, f_] rfl rfl (by kernel_rfl) (fun _ _ _ h => h) (Or.inl ⟨by rfl, ?_⟩) hHeld ?_ ?_
      rotate_left
      ·intro w' s0; go_simp
       with_reducible rfl
      rotate_left
      ·simp only [Act.put, List.setIfInBounds_toArray, List.set_cons_zero, List.set_cons_succ, i64_w, i32_w]
       rfl
      refine one_ (i := 5) (N := some 17) #[t_, t_, t_, t_, t_, t_, f_] rfl rfl (by kernel_rfl) (by decide) (fun K hK => ?_); refine goes_ Try.func77 (by kernel_rfl) rfl #[.int .i64 x1_1] (by rfl) rfl rfl (by (try simp only [List.map_toArray, List.map_cons, List.map_nil]); first | done | rfl | (simp only [List.length_drop, List.length_take]; rfl)) ?_
      with_reducible refine (laws_markText.calls k1 x1_1 t497 _ A5.out).mono ?_
      rintro e w10 ⟨rfl, hb⟩; refine ⟨_, rfl, ?_⟩; have n0_ := Aside0.mk (below_step (by repeat (first | (with_reducible first | exact HB.out | apply below_alloc | apply pw_below_drewN | apply below_drew1) | exact HB.out)) hb); clear HB; have HB := n0_; clear n0_
      (try clear hb)
      (try clear hb2)
      (try clear hk)
      (try clear hi)
      refine hK.out _ _ (((HB.out.cell (World.block_lt_of_cell? w _ hw496_0)).trans hw496_0)) (fun hHeld => ?_); clear hK K; refine norm_ (a' := ?_) ?_ ?_
      rotate_left
      ·show Act.put _ (some 17) _ = _
       simp only [Act.put, List.setIfInBounds_toArray, List.set_cons_zero, List.set_cons_succ, i64_w, i32_w]
       rfl
      refine pure_ (i := 6) (N := some 18) (v := ?_) (a' := ?_) #[t_, t_, t_, t_, t_, t_, t_] rfl rfl (by kernel_rfl) (fun _ _ _ h => h) (Or.inl ⟨by rfl, ?_⟩) ?_ ?_
      rotate_left
      ·intro w'; go_simp
       with_reducible rfl
      rotate_left
      ·simp only [Act.put, List.setIfInBounds_toArray, List.set_cons_zero, List.set_cons_succ, i64_w, i32_w]
       rfl
      refine done_ (by kernel_rfl) ?_; (try go_wp2); go_ret; exact ⟨by first | rfl | (simp <;> rfl) | (simp [*] <;> rfl), by repeat (first | (with_reducible first | exact HB.out | apply below_alloc | apply pw_below_drewN | apply below_drew1) | exact HB.out)⟩
    ·rw [if_neg c4] at H; exact absurd H (by simp)
   ·rw [if_neg c3] at H; have c3b0 : decide (x5_1 < (l0.length : Int)) = false := decide_eq_false c3; clear c3; obtain rfl := Option.some.inj H; go_wp2; go_ret; exact ⟨by first | rfl | (simp <;> rfl) | (simp [*] <;> rfl), by repeat (first | (with_reducible first | exact HB.out | apply below_alloc | apply pw_below_drewN | apply below_drew1) | exact HB.out)⟩
end Go.Proofs.Ytfnhjaiioojbkaa.Q
end
section
namespace Go.Proofs.Ytfnhjaiioojbkaa.Q
open Go.RowKit Go.Proofs.YtfnhjaiioojbkaaW.PrintWords Go.Proofs.YtfnhjaiioojbkaaW.PrintLast Go.Proofs.YtfnhjaiioojbkaaW.PrintMore
attribute [local go_sem] max2_int min2_int max_two min_two max_three min_three max_four min_four   -- for this text's walks alone
set_option linter.unusedVariables false
set_option linter.unusedSimpArgs false
def laws_heldDeltaS.l0 : Nat → List (S39) → Int → Int → Option (Int)
 | 0, _, _, _ => none
 | k + 1, x0, x1, x5 => if x5 < (x0.length : Int) then (if 0 ≤ x5 then (if ((rd_T39 x0 x5).f0) = x1 then (if ((rd_T39 x0 x5).f1) = (wrap64 (x1 + 1)) then ((laws_heldStringS.f k ((rd_T39 x0 x5).f2) (wrap64 ((wrap64 (x1 + 1)) + 1))).bind fun t501 => (if t501 < 0 then (some (-1)) else (laws_heldDeltaS.l0 k x0 t501 (wrap64 (x5 + 1))))) else (some (-1))) else (some (-1))) else (none)) else (some x1)
def laws_heldDeltaS.f (k : Nat) (l0 : List (S39)) (a1 : Int) : Option (Int) := laws_heldDeltaS.l0 k l0 a1 0
set_option maxHeartbeats 8000000 in
set_option maxRecDepth 100000 in
theorem laws_heldDeltaS.calls (k : Nat) (A0 : Option Addr) (c0 : Nat) (l0 : List (S39)) (a1 : Int) (r : Int) (w : World) (hr0 : Kd.C k39 w A0 l0.length l0) (hc0 : l0.length ≤ c0) (h : laws_heldDeltaS.f k l0 a1 = some r) :
 Calls Try.prog 33 #[.slice A0 l0.length c0, .int .i64 a1] w fun e w' => e = .returned (.int .i64 r) ∧ Below w.heap.size w w' := by
 have HR0 := Aside0.mk hr0; have HC0 := Aside0.mk hc0; clear hr0 hc0; have HB := Aside0.mk (Below.refl w.heap.size w); have H : (laws_heldDeltaS.l0 k l0 a1 0) = some r := h; clear h; have H' := Aside0.mk H; clear H; go_enter Try.func33, Try.ntmps33; go_wp2; go_loopg [1, 5] k (fun kq v1 v5 w' => ∃ (x1_1 : Int) (x5_1 : Int), v1 = .int .i64 x1_1 ∧ v5 = .int .i64 x5_1 ∧ Aside0 (laws_heldDeltaS.l0 kq l0 x1_1 x5_1 = some r) ∧ Aside0 (kq ≤ k) ∧ Aside0 (Below w.heap.size w w'))
 case atStart => exact ⟨(a1), (0), (by first | rfl | (simp; done) | (simp [*]; done)), (by first | rfl | (simp; done) | (simp [*]; done)), H', ⟨Nat.le_refl _⟩, ⟨by repeat (first | (with_reducible first | exact HB.out | apply below_alloc | apply pw_below_drewN | apply below_drew1) | exact HB.out)⟩⟩
 case round =>
  clear H'; (try clear p2); obtain ⟨x1_1, x5_1, rfl, rfl, HA, HK1, HB⟩ := hrel
  cases gk with
  | zero => exact absurd HA.out (by simp [laws_heldDeltaS.l0])
  | succ k1 =>
   have H := HA.out; clear HA; simp only [laws_heldDeltaS.l0] at H; by_cases c3 : x5_1 < (l0.length : Int)
   ·rw [if_pos c3] at H; have c3b0 : decide (x5_1 < (l0.length : Int)) = true := decide_eq_true c3; clear c3; by_cases c4 : 0 ≤ x5_1
    ·rw [if_pos c4] at H; have c4b0 : decide (0 ≤ x5_1) = true := decide_eq_true c4; clear c4; by_cases c5 : ((rd_T39 l0 x5_1).f0) = x1_1
     ·rw [if_pos c5] at H; have c5b0 : (((rd_T39 l0 x5_1).f0) == x1_1) = true := beq_iff_eq.mpr c5; have c5b1 : (((rd_T39 l0 x5_1).f0) != x1_1) = false := bne_eq_false_iff_eq.mpr c5; clear c5; by_cases c6 : ((rd_T39 l0 x5_1).f1) = (wrap64 (x1_1 + 1))
      ·rw [if_pos c6] at H; have c6b0 : (((rd_T39 l0 x5_1).f1) == (wrap64 (x1_1 + 1))) = true := beq_iff_eq.mpr c6; have c6b1 : (((rd_T39 l0 x5_1).f1) != (wrap64 (x1_1 + 1))) = false := bne_eq_false_iff_eq.mpr c6; clear c6; replace H := Option.bind_eq_some_iff.mp H; obtain ⟨t501, A70, H⟩ := H; replace H : (if t501 < 0 then (some (-1)) else (laws_heldDeltaS.l0 k1 l0 t501 (wrap64 (x5_1 + 1)))) = some r := H; have A7 := Aside0.mk A70; clear A70; by_cases c8 : t501 < 0
       ·rw [if_pos c8] at H; have c8b0 : decide (t501 < 0) = true := decide_eq_true c8; clear c8; obtain rfl := Option.some.inj H; have p498 : 0 ≤ (x5_1 : Int) := of_decide_eq_true (by assumption); have q498 : x5_1 < (l0.length : Int) := of_decide_eq_true (by assumption); obtain ⟨ad498, A498_2, c498_2, e498, hx498_0, hx498_1, hx498_2, hl498_2, hi498_2⟩ := at_T39 HR0.out x5_1 p498 q498; cases e498; replace hx498_0 := (HB.out.cell (World.block_lt_of_cell? w _ hx498_0)).trans hx498_0; replace hx498_1 := (HB.out.cell (World.block_lt_of_cell? w _ hx498_1)).trans hx498_1; replace hx498_2 := (HB.out.cell (World.block_lt_of_cell? w _ hx498_2)).trans hx498_2; have HR498_2 := Aside0.mk hi498_2; have HC498_2 := Aside0.mk hl498_2; clear hi498_2 hl498_2; replace p498 := eq_true p498; replace q498 := eq_true q498; have p499 : 0 ≤ (x5_1 : Int) := of_decide_eq_true (by assumption); have q499 : x5_1 < (l0.length : Int) := of_decide_eq_true (by assumption); obtain ⟨ad499, A499_2, c499_2, e499, hx499_0, hx499_1, hx499_2, hl499_2, hi499_2⟩ := at_T39 HR0.out x5_1 p499 q499; obtain rfl : ad498 = ad499 := (by injection e499); replace hx499_0 := (HB.out.cell (World.block_lt_of_cell? w _ hx499_0)).trans hx499_0; replace hx499_1 := (HB.out.cell (World.block_lt_of_cell? w _ hx499_1)).trans hx499_1; replace hx499_2 := (HB.out.cell (World.block_lt_of_cell? w _ hx499_2)).trans hx499_2; have HR499_2 := Aside0.mk hi499_2; have HC499_2 := Aside0.mk hl499_2; clear hi499_2 hl499_2; replace p499 := eq_true p499; replace q499 := eq_true q499; have ea_ := Option.some.inj (hx498_2.symm.trans hx499_2); (injection ea_ with ea_ en_ ec_); subst ea_; subst ec_; clear en_; have p500 : 0 ≤ (x5_1 : Int) := of_decide_eq_true (by assumption); have q500 : x5_1 < (l0.length : Int) := of_decide_eq_true (by assumption); obtain ⟨ad500, A500_2, c500_2, e500, hx500_0, hx500_1, hx500_2, hl500_2, hi500_2⟩ := at_T39 HR0.out x5_1 p500 q500; obtain rfl : ad498 = ad500 := (by injection e500); replace hx500_0 := (HB.out.cell (World.block_lt_of_cell? w _ hx500_0)).trans hx500_0; replace hx500_1 := (HB.out.cell (World.block_lt_of_cell? w _ hx500_1)).trans hx500_1; replace hx500_2 := (HB.out.cell (World.block_lt_of_cell? w _ hx500_2)).trans hx500_2; have HR500_2 := Aside0.mk hi500_2; have HC500_2 := Aside0.mk hl500_2; clear hi500_2 hl500_2; replace p500 := eq_true p500; replace q500 := eq_true q500; have ea_ := Option.some.inj (hx498_2.symm.trans hx500_2); (injection ea_ with ea_ en_ ec_); subst ea_; subst ec_; clear en_; go_wp2_with (first | ((with_reducible refine gate_callee (f := 37) rfl ?_); refine goesL_ (some 36) rfl rfl Try.func37 (by kernel_rfl) rfl #[.slice A498_2 ((rd_T39 l0 x5_1).f2).length c498_2, .int .i64 (wrap64 ((wrap64 (x1_1 + 1)) + 1))] rfl (by (try simp only [List.map_toArray, List.map_cons, List.map_nil]); first | done | rfl | (simp only [List.length_drop, List.length_take]; rfl)) ?_; (with_reducible refine (laws_heldStringS.calls k1 _ _ ((rd_T39 l0 x5_1).f2) (wrap64 ((wrap64 (x1_1 + 1)) + 1)) t501 _ ?side1 ?side2 A7.out).mono ?_); (case side1 => repeat (first | exact (Kd.C_below HR500_2.out HB.out) | (with_reducible refine Kd.C_alloc ?_ _) | (with_reducible refine Kd.C_drewN ?_ _) | (with_reducible refine Kd.C_drew ?_))); (case side2 => exact HC500_2.out); rintro e w9 ⟨rfl, hb⟩; refine ⟨_, rfl, ?_⟩; have n0_ := Aside0.mk (below_step (by repeat (first | (with_reducible first | exact HB.out | apply below_alloc | apply pw_below_drewN | apply below_drew1) | exact HB.out)) hb); clear HB; have HB := n0_; clear n0_; (try clear hb); (try clear hb2); (try clear hk); (try clear hi)))
        go_ret; exact ⟨by first | rfl | (simp <;> rfl) | (simp [*] <;> rfl), by repeat (first | (with_reducible first | exact HB.out | apply below_alloc | apply pw_below_drewN | apply below_drew1) | exact HB.out)⟩
       ·rw [if_neg c8] at H; have c8b0 : decide (t501 < 0) = false := decide_eq_false c8; clear c8; have H' := Aside0.mk H; clear H; have p498 : 0 ≤ (x5_1 : Int) := of_decide_eq_true (by assumption); have q498 : x5_1 < (l0.length : Int) := of_decide_eq_true (by assumption); obtain ⟨ad498, A498_2, c498_2, e498, hx498_0, hx498_1, hx498_2, hl498_2, hi498_2⟩ := at_T39 HR0.out x5_1 p498 q498; cases e498; replace hx498_0 := (HB.out.cell (World.block_lt_of_cell? w _ hx498_0)).trans hx498_0; replace hx498_1 := (HB.out.cell (World.block_lt_of_cell? w _ hx498_1)).trans hx498_1; replace hx498_2 := (HB.out.cell (World.block_lt_of_cell? w _ hx498_2)).trans hx498_2; have HR498_2 := Aside0.mk hi498_2; have HC498_2 := Aside0.mk hl498_2; clear hi498_2 hl498_2; replace p498 := eq_true p498; replace q498 := eq_true q498; have p499 : 0 ≤ (x5_1 : Int) := of_decide_eq_true (by assumption); have q499 : x5_1 < (l0.length : Int) := of_decide_eq_true (by assumption); obtain ⟨ad499, A499_2, c499_2, e499, hx499_0, hx499_1, hx499_2, hl499_2, hi499_2⟩ := at_T39 HR0.out x5_1 p499 q499; obtain rfl : ad498 = ad499 := (by injection e499); replace hx499_0 := (HB.out.cell (World.block_lt_of_cell? w _ hx499_0)).trans hx499_0; replace hx499_1 := (HB.out.cell (World.block_lt_of_cell? w _ hx499_1)).trans hx499_1; replace hx499_2 := (HB.out.cell (World.block_lt_of_cell? w _ hx499_2)).trans hx499_2; have HR499_2 := Aside0.mk hi499_2; have HC499_2 := Aside0.mk hl499_2; clear hi499_2 hl499_2; replace p499 := eq_true p499; replace q499 := eq_true q499; have ea_ := Option.some.inj (hx498_2.symm.trans hx499_2); (injection ea_ with ea_ en_ ec_); subst ea_; subst ec_; clear en_; have p500 : 0 ≤ (x5_1 : Int) := of_decide_eq_true (by assumption); have q500 : x5_1 < (l0.length : Int) := of_decide_eq_true (by assumption); obtain ⟨ad500, A500_2, c500_2, e500, hx500_0, hx500_1, hx500_2, hl500_2, hi500_2⟩ := at_T39 HR0.out x5_1 p500 q500; obtain rfl : ad498 = ad500 := (by injection e500); replace hx500_0 := (HB.out.cell (World.block_lt_of_cell? w _ hx500_0)).trans hx500_0; replace hx500_1 := (HB.out.cell (World.block_lt_of_cell? w _ hx500_1)).trans hx500_1; replace hx500_2 := (HB.out.cell (World.block_lt_of_cell? w _ hx500_2)).trans hx500_2; have HR500_2 := Aside0.mk hi500_2; have HC500_2 := Aside0.mk hl500_2; clear hi500_2 hl500_2; replace p500 := eq_true p500; replace q500 := eq_true q500; have ea_ := Option.some.inj (hx498_2.symm.trans hx500_2); (injection ea_ with ea_ en_ ec_); subst ea_; subst ec_; clear en_; go_wp2_with (first | ((with_reducible refine gate_callee (f := 37) rfl ?_); refine goesL_ (some 36) rfl rfl Try.func37 (by kernel_rfl) rfl #[.slice A498_2 ((rd_T39 l0 x5_1).f2).length c498_2, .int .i64 (wrap64 ((wrap64 (x1_1 + 1)) + 1))] rfl (by (try simp only [List.map_toArray, List.map_cons, List.map_nil]); first | done | rfl | (simp only [List.length_drop, List.length_take]; rfl)) ?_; (with_reducible refine (laws_heldStringS.calls k1 _ _ ((rd_T39 l0 x5_1).f2) (wrap64 ((wrap64 (x1_1 + 1)) + 1)) t501 _ ?side1 ?side2 A7.out).mono ?_); (case side1 => repeat (first | exact (Kd.C_below HR500_2.out HB.out) | (with_reducible refine Kd.C_alloc ?_ _) | (with_reducible refine Kd.C_drewN ?_ _) | (with_reducible refine Kd.C_drew ?_))); (case side2 => exact HC500_2.out); rintro e w10 ⟨rfl, hb⟩; refine ⟨_, rfl, ?_⟩; have n0_ := Aside0.mk (below_step (by repeat (first | (with_reducible first | exact HB.out | apply below_alloc | apply pw_below_drewN | apply below_drew1) | exact HB.out)) hb); clear HB; have HB := n0_; clear n0_; (try clear hb); (try clear hb2); (try clear hk); (try clear hi)))
        go_roundg k1
        case measure => have := HK1.out; omega
        case rel => exact ⟨(t501), (wrap64 (x5_1 + 1)), (by first | rfl | (simp; done) | (simp [*]; done)), (by first | rfl | (simp; done) | (simp [*]; done)), H', ⟨by have := HK1.out; omega⟩, ⟨by repeat (first | (with_reducible first | exact HB.out | apply below_alloc | apply pw_below_drewN | apply below_drew1) | exact HB.out)⟩⟩
      ·rw [if_neg c6] at H; have c6b0 : (((rd_T39 l0 x5_1).f1) == (wrap64 (x1_1 + 1))) = false := beq_eq_false_iff_ne.mpr c6; have c6b1 : (((rd_T39 l0 x5_1).f1) != (wrap64 (x1_1 + 1))) = true := bne_iff_ne.mpr c6; obtain rfl := Option.some.inj H; have p498 : 0 ≤ (x5_1 : Int) := of_decide_eq_true (by assumption); have q498 : x5_1 < (l0.length : Int) := of_decide_eq_true (by assumption); obtain ⟨ad498, A498_2, c498_2, e498, hx498_0, hx498_1, hx498_2, hl498_2, hi498_2⟩ := at_T39 HR0.out x5_1 p498 q498; cases e498; replace hx498_0 := (HB.out.cell (World.block_lt_of_cell? w _ hx498_0)).trans hx498_0; replace hx498_1 := (HB.out.cell (World.block_lt_of_cell? w _ hx498_1)).trans hx498_1; replace hx498_2 := (HB.out.cell (World.block_lt_of_cell? w _ hx498_2)).trans hx498_2; have HR498_2 := Aside0.mk hi498_2; have HC498_2 := Aside0.mk hl498_2; clear hi498_2 hl498_2; replace p498 := eq_true p498; replace q498 := eq_true q498; have p499 : 0 ≤ (x5_1 : Int) := of_decide_eq_true (by assumption); have q499 : x5_1 < (l0.length : Int) := of_decide_eq_true (by assumption); obtain ⟨ad499, A499_2, c499_2, e499, hx499_0, hx499_1, hx499_2, hl499_2, hi499_2⟩ := at_T39 HR0.out x5_1 p499 q499; obtain rfl : ad498 = ad499 := (by injection e499); replace hx499_0 := (HB.out.cell (World.block_lt_of_cell? w _ hx499_0)).trans hx499_0; replace hx499_1 := (HB.out.cell (World.block_lt_of_cell? w _ hx499_1)).trans hx499_1; replace hx499_2 := (HB.out.cell (World.block_lt_of_cell? w _ hx499_2)).trans hx499_2; have HR499_2 := Aside0.mk hi499_2; have HC499_2 := Aside0.mk hl499_2; clear hi499_2 hl499_2; replace p499 := eq_true p499; replace q499 := eq_true q499; have ea_ := Option.some.inj (hx498_2.symm.trans hx499_2); (injection ea_ with ea_ en_ ec_); subst ea_; subst ec_; clear en_; go_wp2; go_ret; exact ⟨by first | rfl | (simp <;> rfl) | (simp [*] <;> rfl), by repeat (first | (with_reducible first | exact HB.out | apply below_alloc | apply pw_below_drewN | apply below_drew1) | exact HB.out)⟩
     ·rw [if_neg c5] at H; have c5b0 : (((rd_T39 l0 x5_1).f0) == x1_1) = false := beq_eq_false_iff_ne.mpr c5; have c5b1 : (((rd_T39 l0 x5_1).f0) != x1_1) = true := bne_iff_ne.mpr c5; obtain rfl := Option.some.inj H; have p498 : 0 ≤ (x5_1 : Int) := of_decide_eq_true (by assumption); have q498 : x5_1 < (l0.length : Int) := of_decide_eq_true (by assumption); obtain ⟨ad498, A498_2, c498_2, e498, hx498_0, hx498_1, hx498_2, hl498_2, hi498_2⟩ := at_T39 HR0.out x5_1 p498 q498; cases e498; replace hx498_0 := (HB.out.cell (World.block_lt_of_cell? w _ hx498_0)).trans hx498_0; replace hx498_1 := (HB.out.cell (World.block_lt_of_cell? w _ hx498_1)).trans hx498_1; replace hx498_2 := (HB.out.cell (World.block_lt_of_cell? w _ hx498_2)).trans hx498_2; have HR498_2 := Aside0.mk hi498_2; have HC498_2 := Aside0.mk hl498_2; clear hi498_2 hl498_2; replace p498 := eq_true p498; replace q498 := eq_true q498; go_wp2; go_ret; exact ⟨by first | rfl | (simp <;> rfl) | (simp [*] <;> rfl), by repeat (first | (with_reducible first | exact HB.out | apply below_alloc | apply pw_below_drewN | apply below_drew1) | exact HB.out)⟩
    ·rw [if_neg c4] at H; exact absurd H (by simp)
   ·rw [if_neg c3] at H; have c3b0 : decide (x5_1 < (l0.length : Int)) = false := decide_eq_false c3; clear c3; obtain rfl := Option.some.inj H; go_wp2; go_ret; exact ⟨by first | rfl | (simp <;> rfl) | (simp [*] <;> rfl), by repeat (first | (with_reducible first | exact HB.out | apply below_alloc | apply pw_below_drewN | apply below_drew1) | exact HB.out)⟩
end Go.Proofs.Ytfnhjaiioojbkaa.Q
end
section
namespace Go.Proofs.Ytfnhjaiioojbkaa.Q
open Go.RowKit Go.Proofs.YtfnhjaiioojbkaaW.PrintWords
set_option linter.unusedVariables false
set_option linter.unusedSimpArgs false
theorem markText0_ev : ∀ (n : Nat) (a : Int) (s : ByteArray), a.toNat ≤ n → 0 ≤ a → a ≤ 4611686018427387904 → s.size + n ≤ 9223372036854775000 → ∃ r, Ev (fun k => laws_markText.l0 k a s) r
  | n, a, s, hn, h0, h1, hs => by
    by_cases c : a > 0
    · have hd : Int.tdiv a 10 = a / 10 := Int.tdiv_eq_ediv_of_nonneg h0
      have hw : wrap64 (a / 10) = a / 10 := w64 (by omega) (by omega)
      have hz : (strOfNums [wrap64 (48 + Int.tmod a 10) % 256]).size = 1 := by simp [strOfNums]; rfl
      obtain ⟨m, rfl⟩ : ∃ m, n = m + 1 := ⟨n - 1, by omega⟩
      obtain ⟨r, hr⟩ := markText0_ev m (a / 10) (strOfNums [wrap64 (48 + Int.tmod a 10) % 256] ++ s) (by omega) (by omega) (by omega) (by rw [ByteArray.size_append, hz]; omega)
      refine ⟨r, Ev.step' ?_⟩
      simp only [laws_markText.l0, hd, hw]
      exact Ev.posf c (Ev.somef (Ev.posf (by rw [hz]; omega) hr))
    · refine ⟨(⟨#[109]⟩ : ByteArray) ++ s, Ev.step' ?_⟩
      simp only [laws_markText.l0]
      exact Ev.negf c (Ev.posf (by omega) (Ev.now _))
theorem markText_ev (a : Int) (h0 : 0 ≤ a) (h1 : a ≤ 4611686018427387904) : ∃ r, Ev (fun k => laws_markText.f k a) r := by
  unfold laws_markText.f
  by_cases c : a ≤ 0
  · exact ⟨_, Ev.posf c (Ev.now _)⟩
  · obtain ⟨r, hr⟩ := markText0_ev a.toNat a (⟨#[]⟩ : ByteArray) (Nat.le_refl _) h0 h1 (by show 0 + _ ≤ _; omega)
    exact ⟨r, Ev.negf c hr⟩
def Mt (mt : Int → ByteArray) : Prop := ∀ a : Int, 0 ≤ a → a ≤ 4611686018427387904 → Ev (fun k => laws_markText.f k a) (mt a)
theorem exists_mt : ∃ mt, Mt mt := by
  classical
  refine ⟨fun a => if h : 0 ≤ a ∧ a ≤ 4611686018427387904 then Classical.choose (markText_ev a h.1 h.2) else ByteArray.empty, fun a h0 h1 => ?_⟩
  show Ev _ (dite _ _ _)
  rw [dif_pos ⟨h0, h1⟩]
  exact Classical.choose_spec (markText_ev a h0 h1)
def mkS (mt : Int → ByteArray) (l : Tx) (a : Int) : Tx := (List.range l.length).map (fun j : Nat => mt (a + j))
theorem mkS_len (mt : Int → ByteArray) (l : Tx) (a : Int) : (mkS mt l a).length = l.length := by simp [mkS]
theorem markS0_ev {mt : Int → ByteArray} (hm : Mt mt) (l : Tx) (a : Int) (h0 : 0 ≤ a) (h1 : a + l.length ≤ 4000000000000000000) : ∀ (d i : Nat), l.length - i = d → i ≤ l.length →
    Ev (fun k => laws_markStringS.l0 k ((List.range i).map (fun j : Nat => mt (a + j)) ++ l.drop i) (a + i) i) (a + l.length, mkS mt l a)
  | 0, i, hd, hi => by
    obtain rfl : i = l.length := by omega
    refine Ev.step' ?_
    simp only [laws_markStringS.l0]
    exact Ev.negf (by simp) (EvT (Ev.now _) (by simp [mkS]))
  | d + 1, i, hd, hi => by
    have hi' : i < l.length := by omega
    have hs : (((List.range i).map (fun j : Nat => mt (a + j)) ++ l.drop i).set i (mt (a + i))) = (List.range (i + 1)).map (fun j : Nat => mt (a + j)) ++ l.drop (i + 1) := by
      rw [List.set_append_right _ _ (by simp)]
      simp [List.range_succ]
      rw [List.drop_eq_getElem_cons hi']
      rfl
    refine Ev.step' ?_
    have hw : wrap64 (a + (i : Int) + 1) = a + ((i + 1 : Nat) : Int) := by rw [w64 (by omega) (by omega)]; omega
    have hw2 : wrap64 ((i : Int) + 1) = ((i + 1 : Nat) : Int) := by rw [w64 (by omega) (by omega)]; omega
    simp only [laws_markStringS.l0, hw, hw2, Int.toNat_natCast]
    refine Ev.posf (by simp; omega) (Ev.bind (hm (a + i) (by omega) (by omega)) (Ev.posf (by omega) ?_))
    rw [hs]
    exact markS0_ev hm l a h0 h1 d (i + 1) (by omega) (by omega)
theorem markS_ev {mt : Int → ByteArray} (hm : Mt mt) (l : Tx) (a : Int) (h0 : 0 ≤ a) (h1 : a + l.length ≤ 4000000000000000000) : Ev (fun k => laws_markStringS.f k l a) (a + l.length, mkS mt l a) := by
  unfold laws_markStringS.f
  have := markS0_ev hm l a h0 h1 _ 0 rfl (by omega)
  simpa using this
theorem heldS0_ev {mt : Int → ByteArray} (hm : Mt mt) (l : Tx) (a : Int) (h0 : 0 ≤ a) (h1 : a + l.length ≤ 4000000000000000000) : ∀ (d i : Nat), l.length - i = d → i ≤ l.length →
    Ev (fun k => laws_heldStringS.l0 k (mkS mt l a) (a + i) i) (a + l.length)
  | 0, i, hd, hi => by
    obtain rfl : i = l.length := by omega
    refine Ev.step' ?_
    simp only [laws_heldStringS.l0]
    exact Ev.negf (by rw [mkS_len]; omega) (Ev.now _)
  | d + 1, i, hd, hi => by
    have hi' : i < l.length := by omega
    have hl : i < (mkS mt l a).length := by rw [mkS_len]; exact hi'
    have hg : (mkS mt l a)[i] = mt (a + i) := by simp [mkS]
    refine Ev.step' ?_
    have hw : wrap64 (a + (i : Int) + 1) = a + ((i + 1 : Nat) : Int) := by rw [w64 (by omega) (by omega)]; omega
    have hw2 : wrap64 ((i : Int) + 1) = ((i + 1 : Nat) : Int) := by rw [w64 (by omega) (by omega)]; omega
    simp only [laws_heldStringS.l0, hw, hw2, rdAt hl, hg]
    exact Ev.posf (by omega) (Ev.posf (by omega) (Ev.bind (hm (a + i) (by omega) (by omega)) (Ev.posf rfl (heldS0_ev hm l a h0 h1 d (i + 1) (by omega) (by omega)))))
theorem heldS_ev {mt : Int → ByteArray} (hm : Mt mt) (l : Tx) (a : Int) (h0 : 0 ≤ a) (h1 : a + l.length ≤ 4000000000000000000) : Ev (fun k => laws_heldStringS.f k (mkS mt l a) a) (a + l.length) := by
  unfold laws_heldStringS.f
  have := heldS0_ev hm l a h0 h1 _ 0 rfl (by omega)
  simpa using this
def cnD : List Dl → Int
  | [] => 0
  | x :: t => 2 + x.f2.length + cnD t
def mkD (mt : Int → ByteArray) : List Dl → Int → List Dl
  | [], _ => []
  | x :: t, a => ⟨a, a + 1, mkS mt x.f2 (a + 2)⟩ :: mkD mt t (a + (2 + x.f2.length))
theorem cnD_nn : ∀ l, 0 ≤ cnD l
  | [] => by simp [cnD]
  | x :: t => by have := cnD_nn t; simp only [cnD]; omega
theorem cnD_app : ∀ (l : List Dl) (x : Dl), cnD (l ++ [x]) = cnD l + (2 + x.f2.length)
  | [], x => by simp [cnD]
  | y :: t, x => by rw [List.cons_append, cnD, cnD_app t x, cnD]; omega
theorem cnD_apps : ∀ (l m : List Dl), cnD (l ++ m) = cnD l + cnD m
  | [], m => by simp [cnD]
  | y :: t, m => by rw [List.cons_append, cnD, cnD_apps t m, cnD]; omega
theorem mkD_app (mt : Int → ByteArray) : ∀ (l : List Dl) (x : Dl) (a : Int), mkD mt (l ++ [x]) a = mkD mt l a ++ [⟨a + cnD l, a + cnD l + 1, mkS mt x.f2 (a + cnD l + 2)⟩]
  | [], x, a => by simp [mkD, cnD]
  | y :: t, x, a => by
    rw [List.cons_append, mkD, mkD_app mt t x, mkD, cnD, List.cons_append, show a + (2 + (y.f2.length : Int)) + cnD t = a + (2 + y.f2.length + cnD t) by omega]
theorem mkD_len (mt : Int → ByteArray) : ∀ (l : List Dl) (a : Int), (mkD mt l a).length = l.length
  | [], a => rfl
  | x :: t, a => by simp [mkD, mkD_len mt t]
theorem cnD_take {l : List Dl} {i : Nat} (h : i < l.length) : cnD (l.take (i + 1)) = cnD (l.take i) + (2 + l[i].f2.length) := by
  rw [← List.take_append_getElem h, cnD_app]
theorem cnD_le (l : List Dl) (i : Nat) : cnD (l.take i) ≤ cnD l := by
  have h : cnD l = cnD (l.take i) + cnD (l.drop i) := by rw [← cnD_apps, List.take_append_drop]
  have := cnD_nn (l.drop i)
  omega
theorem mkD_get (mt : Int → ByteArray) (l : List Dl) (a : Int) (i : Nat) (h : i < l.length) : (mkD mt l a)[i]'(by rw [mkD_len]; exact h) = ⟨a + cnD (l.take i), a + cnD (l.take i) + 1, mkS mt l[i].f2 (a + cnD (l.take i) + 2)⟩ := by
  have e : ∀ l : List Dl, ∀ r : List Dl, mkD mt (l ++ r) a = mkD mt l a ++ mkD mt r (a + cnD l) := by
    intro l
    induction l generalizing a with
    | nil => intro r; simp [mkD, cnD]
    | cons x t ih => intro r; rw [List.cons_append, mkD, ih, mkD, cnD, List.cons_append, show a + (2 + (x.f2.length : Int)) + cnD t = a + (2 + x.f2.length + cnD t) by omega]
  have h2 : l = l.take i ++ (l[i] :: l.drop (i + 1)) := by rw [← List.drop_eq_getElem_cons h, List.take_append_drop]
  have hl : (mkD mt (l.take i) a).length = i := by rw [mkD_len, List.length_take]; omega
  have e2 := e (l.take i) (l[i] :: l.drop (i + 1))
  rw [← h2] at e2
  simp only [e2, mkD]
  rw [List.getElem_append_right (by omega)]
  simp [hl]
theorem heldD0_ev {mt : Int → ByteArray} (hm : Mt mt) (l : List Dl) (a : Int) (h0 : 0 ≤ a) (hl : l.length ≤ 100000000) (h1 : a + cnD l ≤ 1000000000000000000) : ∀ (d i : Nat), l.length - i = d → i ≤ l.length →
    Ev (fun k => laws_heldDeltaS.l0 k (mkD mt l a) (a + cnD (l.take i)) i) (a + cnD l)
  | 0, i, hd, hi => by
    obtain rfl : i = l.length := by omega
    refine Ev.step' ?_
    simp only [laws_heldDeltaS.l0]
    exact Ev.negf (by rw [mkD_len]; omega) (EvT (Ev.now _) (by rw [List.take_length]))
  | d + 1, i, hd, hi => by
    have hi' : i < l.length := by omega
    have hlm : i < (mkD mt l a).length := by rw [mkD_len]; exact hi'
    have hg := mkD_get mt l a i hi'
    have hc := cnD_take hi'
    have hle := cnD_le l (i + 1)
    have hnn := cnD_nn (l.take i)
    have hw1 : wrap64 (a + cnD (l.take i) + 1) = a + cnD (l.take i) + 1 := w64 (by omega) (by omega)
    have hw2 : wrap64 (a + cnD (l.take i) + 1 + 1) = a + cnD (l.take i) + 2 := by rw [w64 (by omega) (by omega)]; omega
    refine Ev.step' ?_
    simp only [laws_heldDeltaS.l0, w64_succ i (by omega), rdD hlm, hg, hw1, hw2]
    refine Ev.posf (by omega) (Ev.posf (by omega) (Ev.posf trivial (Ev.posf trivial (Ev.bind (heldS_ev hm l[i].f2 (a + cnD (l.take i) + 2) (by omega) (by omega)) (Ev.negf (by omega) ?_)))))
    have ih := heldD0_ev hm l a h0 hl h1 d (i + 1) (by omega) (by omega)
    rw [hc] at ih
    rw [show a + cnD (l.take i) + 2 + (l[i].f2.length : Int) = a + (cnD (l.take i) + (2 + l[i].f2.length)) by omega]
    exact ih
theorem heldD_ev {mt : Int → ByteArray} (hm : Mt mt) (l : List Dl) (a : Int) (h0 : 0 ≤ a) (hl : l.length ≤ 100000000) (h1 : a + cnD l ≤ 1000000000000000000) : Ev (fun k => laws_heldDeltaS.f k (mkD mt l a) a) (a + cnD l) := by
  unfold laws_heldDeltaS.f
  have := heldD0_ev hm l a h0 hl h1 _ 0 rfl (by omega)
  simpa [cnD] using this
end Go.Proofs.Ytfnhjaiioojbkaa.Q
end
section
namespace Go.Proofs.Ytfnhjaiioojbkaa.Q
open Go.RowKit Go.Proofs.YtfnhjaiioojbkaaW.PrintWords Go.Proofs.YtfnhjaiioojbkaaW.PrintLast Go.Proofs.YtfnhjaiioojbkaaW.PrintMore
attribute [local go_sem] max2_int min2_int max_two min_two max_three min_three max_four min_four
set_option linter.unusedVariables false
set_option linter.unusedSimpArgs false
/-- One cell of an element is written. -/
theorem S_field {α : Type} {d : Kd α} {e g n cap : Nat} {W : World} {base : Nat} {ok : Nat → Prop} {xs : List α} (h : Kd.S d e W base ok (.slice (some ⟨g, 0, none⟩) n cap) xs) (z : α) (i : Int) (h0 : 0 ≤ i) (h1 : i < n)
    (j : Nat) (hj : j < d.sz) (u : Value) (x' : α) (hM : ∀ (oki : Nat → Prop) (c : List Value), c.length = d.sz → d.M W base oki (xs.getD i.toNat z) c → d.M W base oki x' (c.take j ++ [u] ++ c.drop (j + 1))) :
    (∃ c : List Value, c.length = d.sz ∧ ∀ j u, c[j]? = some u → W.cell? ⟨g, i.toNat * d.sz + j, none⟩ = some u) ∧ (∀ j, W.frozen? ⟨g, i.toNat * d.sz + j, none⟩ = false) ∧
      Kd.S d e (W.setCell ⟨g, i.toNat * d.sz + j, none⟩ u) base ok (.slice (some ⟨g, 0, none⟩) n cap) (xs.set i.toNat x') ∧ W.grownBy (W.setCell ⟨g, i.toNat * d.sz + j, none⟩ u) (some g) := by
  obtain ⟨oki, c, hcl, hMc, hcc, hfr, hoki, hH⟩ := Kd.S_elem (Kd.S_mono (ok' := fun k => ok k ∧ ¬ (fun _ => False) k) h (fun k hk => ⟨hk, fun hf => hf⟩)) z i h0 h1
  obtain ⟨p1, p2⟩ := Kd.S_seg (okp := oki) (okg := fun _ => False) hH h0 h1 (seg := [u]) (j := j) (show j + 1 ≤ d.sz from hj) (x' := x') (hM oki c hcl hMc) (fun k hk => .inl hk) (fun k hk => hk.elim)
  exact ⟨⟨c, hcl, hcc⟩, hfr, p1, p2⟩
theorem set_mid {α : Type} (p : List α) (x y : α) (q : List α) (i : Nat) (h : i = p.length) : (p ++ x :: q).set i y = p ++ y :: q := by
  subst h; simp
theorem get_mid {α : Type} (p : List α) (x z : α) (q : List α) (i : Nat) (h : i = p.length) : (p ++ x :: q).getD i z = x := by
  subst h; simp
theorem k39_f0 {W : World} {base : Nat} {a : Int} {x : Dl} (oki : Nat → Prop) (c : List Value) (hl : c.length = k39.sz) (h : k39.M W base oki x c) : k39.M W base oki ⟨a, x.f1, x.f2⟩ (c.take 0 ++ [.int .i64 a] ++ c.drop (0 + 1)) := by
  obtain ⟨v, rfl, g⟩ := k39_openM h
  exact k39_mkM _ _ _ ⟨a, x.f1, x.f2⟩ g
theorem k39_f1 {W : World} {base : Nat} {a : Int} {x : Dl} (oki : Nat → Prop) (c : List Value) (hl : c.length = k39.sz) (h : k39.M W base oki x c) : k39.M W base oki ⟨x.f0, a, x.f2⟩ (c.take 1 ++ [.int .i64 a] ++ c.drop (1 + 1)) := by
  obtain ⟨v, rfl, g⟩ := k39_openM h
  exact k39_mkM _ _ _ ⟨x.f0, a, x.f2⟩ g
theorem k39_g0 {W : World} {base : Nat} {a : Int} {x : Dl} {p q : List Dl} {i : Nat} (hp : i = p.length) (oki : Nat → Prop) (c : List Value) (hl : c.length = k39.sz) (h : k39.M W base oki ((p ++ x :: q).getD (i : Int).toNat z39) c) : k39.M W base oki ⟨a, x.f1, x.f2⟩ (c.take 0 ++ [.int .i64 a] ++ c.drop (0 + 1)) := by
  rw [Int.toNat_natCast, get_mid _ _ _ _ _ hp] at h
  exact k39_f0 oki c hl h
theorem k39_g1 {W : World} {base : Nat} {a : Int} {x : Dl} {p q : List Dl} {i : Nat} (hp : i = p.length) (oki : Nat → Prop) (c : List Value) (hl : c.length = k39.sz) (h : k39.M W base oki ((p ++ x :: q).getD (i : Int).toNat z39) c) : k39.M W base oki ⟨x.f0, a, x.f2⟩ (c.take 1 ++ [.int .i64 a] ++ c.drop (1 + 1)) := by
  rw [Int.toNat_natCast, get_mid _ _ _ _ _ hp] at h
  exact k39_f1 oki c hl h
/-- The lines of one element, lent: where they lie, and the row without them. -/
theorem lend_lines {W : World} {base : Nat} {ok : Nat → Prop} {g n cap : Nat} {p q : List Dl} {x : Dl} {i : Nat} (hp : i = p.length) (h : Kd.S k39 39 W base ok (.slice (some ⟨g, 0, none⟩) n cap) (p ++ x :: q)) (hi : (i : Int) < (n : Int)) :
    ∃ (oki : Nat → Prop) (A : Option Addr) (c : Nat), Kd.R Kd.string 9 W base oki (.slice A x.f2.length c) x.f2 ∧ W.cell? ⟨g, i * 3 + 2, none⟩ = some (.slice A x.f2.length c) ∧ (∀ k, oki k → ok k) ∧
      Kd.H k39 39 W base ok (.slice (some ⟨g, 0, none⟩) n cap) (p ++ x :: q) (i : Int) oki [.int .i64 x.f0, .int .i64 x.f1, .slice A x.f2.length c] := by
  obtain ⟨oki, c, hcl, hM, hcc, hoki, hH⟩ := Kd.S_lend h z39 (i : Int) (by omega) hi
  rw [Int.toNat_natCast, get_mid _ _ _ _ _ hp] at hM
  obtain ⟨v, rfl, g2⟩ := k39_openM hM
  obtain ⟨A, c2, rfl⟩ := Kd.R_slice g2
  exact ⟨oki, A, c2, g2, hcc 2 _ rfl, fun k hk => (hoki k hk).1, hH⟩
/-- .. and brought back, written. -/
theorem back_lines {W w1 : World} {base : Nat} {ok oki : Nat → Prop} {g n cap c : Nat} {A : Option Addr} {p q : List Dl} {x : Dl} {i : Nat} {m : Nat} {l : Tx} (hp : i = p.length) (hH : Kd.H k39 39 W base ok (.slice (some ⟨g, 0, none⟩) n cap) (p ++ x :: q) (i : Int) oki [.int .i64 x.f0, .int .i64 x.f1, .slice A m c])
    (hr : Kd.R Kd.string 9 w1 base (fun k => oki k ∨ W.heap.size ≤ k) (.slice A m c) l) (hk : Kept W w1 oki) (hok : ∀ k, W.heap.size ≤ k → ok k) :
    Kd.S k39 39 w1 base ok (.slice (some ⟨g, 0, none⟩) n cap) (p ++ ⟨x.f0, x.f1, l⟩ :: q) := by
  have h2 := Kd.H_step (Kd.H_widen hH) (w1 := w1) (fun k _ hn hlt => hk.2 k hlt (fun h => hn (.inl h)))
  have h3 := Kd.H_back h2 (x' := ⟨x.f0, x.f1, l⟩) (k39_mkM _ _ _ ⟨x.f0, x.f1, l⟩ hr) (fun k hk => hk.elim .inl (fun h => .inr ⟨hok k h, h⟩))
  rw [Int.toNat_natCast, set_mid _ _ _ _ _ hp] at h3
  exact h3
set_option maxHeartbeats 8000000 in
set_option maxRecDepth 100000 in
theorem markDS_calls {mt : Int → ByteArray} (hm : Mt mt) (P0 : Nat → Prop) (u : Value) (l : List Dl) (a : Int) (w0 w : World) (hB : Below w0.heap.size w0 w) (ho : Kd.S k39 39 w w0.heap.size P0 u l) (h0 : 0 ≤ a) (hl : l.length ≤ 1000000) (h1 : a + cnD l ≤ 1000000000000000000) :
    Calls Try.prog 32 #[u, .int .i64 a] w fun e w' => e = .returned (.int .i64 (a + cnD l)) ∧ Kd.S k39 39 w' w0.heap.size (fun k => P0 k ∨ w.heap.size ≤ k) u (mkD mt l a) ∧ Below w0.heap.size w0 w' ∧ Kept w w' P0 := by
  have hu39 := Try.underlying39
  obtain ⟨A, c, rfl⟩ := Kd.S_slice ho
  have HO := Aside0.mk (Kd.S_mono (ok' := fun k => P0 k ∨ w.heap.size ≤ k) ho (fun k hk => .inl hk))
  have HB := Aside0.mk hB
  have HK := Aside0.mk (Kept.refl w P0)
  have HM := Aside0.mk hm
  have H0 := Aside0.mk h0
  have H1 := Aside0.mk h1
  have HL := Aside0.mk hl
  clear ho hB hm h0 h1 hl
  go_enter Try.func32, Try.ntmps32
  go_wp2
  go_loopg [1, 5] l.length (fun gg v1 v5 wr => ∃ i : Nat, v1 = .int .i64 (a + cnD (l.take i)) ∧ v5 = .int .i64 i ∧ i ≤ l.length ∧ l.length - i ≤ gg ∧ Aside0 (Kd.S k39 39 wr w0.heap.size (fun k => P0 k ∨ w.heap.size ≤ k) (.slice A l.length c) (mkD mt (l.take i) a ++ l.drop i)) ∧ Aside0 (Kept w wr P0) ∧ Aside0 (Below w0.heap.size w0 wr))
  case atStart => exact ⟨0, by simp [cnD], rfl, Nat.zero_le _, by omega, HO, HK, HB⟩
  case round =>
    clear HO HB HK
    obtain ⟨i, rfl, rfl, hi, hg, HO, HK, HB⟩ := hrel
    by_cases hlt : i < l.length
    · have HLT := Aside0.mk hlt
      have hltz : (i : Int) < (l.length : Int) := by omega
      have hzz : 0 ≤ (i : Int) := by omega
      have hib : i ≤ 1000000 := by have := HL.out; omega
      have hct := cnD_take hlt
      have hle := cnD_le l (i + 1)
      have hnn := cnD_nn (l.take i)
      obtain ⟨kk, hkk⟩ : ∃ kk, a + cnD (l.take i) = kk := ⟨_, rfl⟩
      have HKK := Aside0.mk hkk
      rw [hkk]
      have HR := Aside0.mk (show 0 ≤ kk ∧ kk + 2 + l[i].f2.length ≤ 1000000000000000000 ∧ a + cnD (l.take (i + 1)) = kk + 2 + l[i].f2.length by have := H0.out; have := H1.out; omega)
      have hpl : i = (mkD mt (l.take i) a).length := by rw [mkD_len, List.length_take]; omega
      have HPL := Aside0.mk hpl
      rw [List.drop_eq_getElem_cons hlt] at HO
      obtain ⟨go, co', eo, gb, gl, cl, HG⟩ := Kd.S_form HO.out (by simp; omega)
      injection eo with ea en ec
      subst ea
      subst ec
      have GB := Aside0.mk gb
      clear gb gl HG en hct hle hnn hkk
      have hgo : P0 go ∨ w.heap.size ≤ go := (Kd.S_R HO.out).1 go rfl
      have HGO := Aside0.mk hgo
      obtain ⟨⟨cc, hcl, hcc⟩, hfr, p1, p2⟩ := S_field HO.out z39 (i : Int) hzz hltz 0 (by decide) (.int .i64 kk) ⟨kk, l[i].f1, l[i].f2⟩ (k39_g0 HPL.out)
      obtain ⟨u0, u1, u2, rfl⟩ : ∃ u0 u1 u2, cc = [u0, u1, u2] := (by match cc, hcl with | [a, b, c], _ => exact ⟨a, b, c, rfl⟩)
      have hz0 := hcc 0 _ rfl
      have hf0 := hfr 0
      simp only [show k39.sz = 3 from rfl, Int.toNat_natCast, Nat.add_zero] at hz0 hf0 p1 p2
      rw [set_mid _ _ _ _ _ HPL.out] at p1
      have P1 := Aside0.mk p1
      have P2 := Aside0.mk p2
      clear hcc hfr p1 p2 hcl hpl hgo
      obtain ⟨km, hkm⟩ := markS_ev HM.out l[i].f2 (kk + 2) (by have := HR.out; omega) (by have := HR.out; omega)
      have HMS := Aside0.mk (hkm km (Nat.le_refl _))
      clear hkm
      have hw1 : wrap64 (kk + 1) = kk + 1 := by have := HR.out; exact w64 (by omega) (by omega)
      have hw1b : (IntKind.i64.wrap (kk + 1)) = kk + 1 := (i64_w _).trans hw1
      have hw2 : wrap64 (kk + 1 + 1) = kk + 2 := by have := HR.out; rw [w64 (by omega) (by omega)]; omega
      have hw2b : (IntKind.i64.wrap (kk + 1 + 1)) = kk + 2 := (i64_w _).trans hw2
      go_wp2_with (first | ((with_reducible refine gate_store (t := 3) (p := 16) rfl ?_); refine store_event (t := 3) (p := 16) (v := ?vo1) (w1 := (wr.setCell ⟨go, i * 3, none⟩ (.int .i64 kk))) ?hg ?ho ?hn ?hr ?_; (case ho => rfl); (case hg => rfl); (case hn => rfl); (case hr => first | (go_simp; done) | (go_simp; rfl)); intro w4 hw; rw [← hw] at P1 P2; have nb_ := Aside0.mk ((by rw [hw]; exact below_set (HB.out) GB.out : Below w0.heap.size w0 w4)); have nk_ := Aside0.mk (Kept.of_grown P2.out HK.out (fun k hk => by injection hk with hk; subst hk; exact HGO.out)); clear HB HK HO P2 hw; have HB := nb_; have HK := nk_; clear nb_ nk_; obtain ⟨⟨cc, hcl, hcc⟩, hfr, p1, p2⟩ := S_field P1.out z39 (i : Int) hzz hltz 1 (by decide) (.int .i64 (kk + 1)) ⟨kk, kk + 1, l[i].f2⟩ (k39_g1 HPL.out); obtain ⟨t0, t1, t2, rfl⟩ : ∃ u0 u1 u2, cc = [u0, u1, u2] := (by match cc, hcl with | [a, b, c], _ => exact ⟨a, b, c, rfl⟩); have hz1 := hcc 1 _ rfl; have hf1 := hfr 1; simp only [show k39.sz = 3 from rfl, Int.toNat_natCast, Nat.add_zero] at hz1 hf1 p1 p2; rw [set_mid _ _ _ _ _ HPL.out] at p1; have Q1 := Aside0.mk p1; have Q2 := Aside0.mk p2; clear hcc hfr p1 p2 hcl P1) | ((with_reducible refine gate_store (t := 3) (p := 23) rfl ?_); refine store_event (t := 3) (p := 23) (v := ?vo2) (w1 := (w4.setCell ⟨go, i * 3 + 1, none⟩ (.int .i64 (kk + 1)))) ?hg ?ho ?hn ?hr ?_; (case ho => rfl); (case hg => rfl); (case hn => rfl); (case hr => first | (go_simp; done) | (go_simp; rfl)); intro w5 hw; rw [← hw] at Q1 Q2; have nb_ := Aside0.mk ((by rw [hw]; exact below_set (HB.out) GB.out : Below w0.heap.size w0 w5)); have nk_ := Aside0.mk (Kept.of_grown Q2.out HK.out (fun k hk => by injection hk with hk; subst hk; exact HGO.out)); clear HB HK Q2 hw; have HB := nb_; have HK := nk_; clear nb_ nk_; obtain ⟨oki, A2, c2, g2, hz2, hok2, hH2⟩ := lend_lines HPL.out Q1.out hltz; have G2 := Aside0.mk g2; have OK2 := Aside0.mk hok2; have HH2 := Aside0.mk hH2; clear g2 hok2 hH2 Q1) | ((with_reducible refine gate_callee (f := 31) rfl ?_); refine goesL_ (some 32) rfl rfl Try.func31 (by kernel_rfl) rfl #[.slice A2 l[i].f2.length c2, .int .i64 (kk + 2)] rfl (by (try simp only [List.map_toArray, List.map_cons, List.map_nil]); first | done | rfl) ?_; (refine (laws_markStringS.calls km oki _ l[i].f2 (kk + 2) (kk + 2 + l[i].f2.length) (mkS mt l[i].f2 (kk + 2)) w0 _ (by exact HB.out) (by exact G2.out) HMS.out).mono ?_); rintro e w6 ⟨rfl, hr, hb, hk⟩; refine ⟨_, rfl, ?_⟩; have hS := back_lines HPL.out HH2.out hr hk (fun k h => .inr (Nat.le_trans HK.out.1 h)); have nk_ := Aside0.mk (Kept.then_ HK.out hk (fun k h => OK2.out k h)); clear HK HB; have HK := nk_; have HB := Aside0.mk hb; have HO := Aside0.mk hS; clear nk_ hb hS hr hk))
      have hR := HR.out
      rw [show (⟨kk, kk + 1, mkS mt l[i].f2 (kk + 2)⟩ : Dl) :: l.drop (i + 1) = [⟨kk, kk + 1, mkS mt l[i].f2 (kk + 2)⟩] ++ l.drop (i + 1) from rfl, ← List.append_assoc] at HO
      have hmk : mkD mt (l.take i) a ++ [⟨kk, kk + 1, mkS mt l[i].f2 (kk + 2)⟩] = mkD mt (l.take (i + 1)) a := by
        rw [← List.take_append_getElem HLT.out, mkD_app, HKK.out]
      rw [hmk] at HO
      clear hmk hw1 hw1b hw2 hw2b
      go_roundg (l.length - (i + 1))
      case measure => have := HLT.out; omega
      case rel => exact ⟨i + 1, by rw [hR.2.2], by go_num, HLT.out, by omega, HO, HK, HB⟩
    · obtain rfl : i = l.length := by omega
      have hltz : ¬ (l.length : Int) < (l.length : Int) := by omega
      rw [List.take_length] at HO ⊢
      rw [List.drop_length, List.append_nil] at HO
      go_wp2
      go_ret
      exact ⟨rfl, HO.out, HB.out, HK.out⟩
end Go.Proofs.Ytfnhjaiioojbkaa.Q
end
section
namespace Go.Proofs.Ytfnhjaiioojbkaa.Q
open Go.RowKit Go.Proofs.YtfnhjaiioojbkaaW.PrintWords
set_option linter.unusedVariables false
set_option linter.unusedSimpArgs false
theorem R_span {α : Type} {d : Kd α} {e : Nat} {W w1 : World} {ok : Nat → Prop} {v : Value} {xs : List α} {b prev : Nat} (h : Kd.R d e w1 W.heap.size ok v xs) (hp : prev ≤ W.heap.size) (hb : b ≤ W.heap.size) (hs : W.heap.size ≤ w1.heap.size) :
    ∃ lo hi : Nat, (prev ≤ lo ∧ lo ≤ hi) ∧ hi ≤ w1.heap.size ∧ Kd.R d e w1 b (fun k => lo ≤ k ∧ k < hi) v xs :=
  ⟨W.heap.size, w1.heap.size, ⟨hp, hs⟩, Nat.le_refl _, Kd.R_lower (Kd.R_mono (Kd.R_bound h) (fun k hk => ⟨hk.2.1, hk.2.2.1⟩)) hb⟩
theorem S_span {α : Type} {d : Kd α} {e : Nat} {W w1 : World} {ok : Nat → Prop} {v : Value} {xs : List α} {b prev : Nat} (h : Kd.S d e w1 W.heap.size ok v xs) (hp : prev ≤ W.heap.size) (hb : b ≤ W.heap.size) (hs : W.heap.size ≤ w1.heap.size) :
    ∃ lo hi : Nat, (prev ≤ lo ∧ lo ≤ hi) ∧ hi ≤ w1.heap.size ∧ Kd.S d e w1 b (fun k => lo ≤ k ∧ k < hi) v xs :=
  ⟨W.heap.size, w1.heap.size, ⟨hp, hs⟩, Nat.le_refl _, Kd.S_lower (Kd.S_mono (Kd.S_bound h) (fun k hk => ⟨hk.2.1, hk.2.2.1⟩)) hb⟩
theorem toSp (A0 : Option Addr) (c0 : Nat) (l0 : Tx) (b : Bool) (w : World) (hr0 : Kd.C Kd.string w A0 l0.length l0) (hl : l0.length ≤ 1000000) :
    Calls Try.prog 28 #[.slice A0 l0.length c0, .bool b] w fun e w' => ∃ A c, e = .returned (.slice A l0.length c) ∧ l0.length ≤ c ∧ Kd.R Kd.string 9 w' w.heap.size (fun _ => True) (.slice A l0.length c) l0 ∧
      (b = false → Kd.C Kd.string w' A (fulS false l0).1.length (fulS false l0).1 ∧ (fulS false l0).1.length ≤ c) ∧ Below w.heap.size w w' :=
  (toS_calls A0 c0 l0 b w hr0 hl).mono fun e w' ⟨A, c, he, hn, ho, hb⟩ => by
    obtain ⟨_, h1, h2⟩ := Kd.R_reads' ho
    have h3 := Kd.R_take ho hn
    rw [fulS_take, fulS_len] at h3
    rw [fulS_len] at he hn
    exact ⟨A, c, he, by omega, Kd.R_mono h3 (fun _ _ => trivial), fun hb0 => by subst hb0; exact ⟨h2, h1⟩, hb⟩
theorem fulS_ful2 (l : Tx) (h : l.length ≤ 1000000) : FulN (fulS false l).1.length l.length := by
  have := fulS_ful l h
  rw [fulS_len] at this
  exact this
theorem markDSp {mt : Int → ByteArray} (hm : Mt mt) (P0 : Nat → Prop) (u : Value) (l : List Dl) (a m : Int) (w0 w : World) (hB : Below w0.heap.size w0 w) (ho : Kd.S k39 39 w w0.heap.size P0 u l) (h0 : 0 ≤ a) (hl : l.length ≤ 1000000) (h1 : a + cnD l ≤ 1000000000000000000) (he : a + cnD l = m) (X : List Dl) (hX : mkD mt l a = X) :
    Calls Try.prog 32 #[u, .int .i64 a] w fun e w' => e = .returned (.int .i64 m) ∧ Kd.S k39 39 w' w0.heap.size (fun k => P0 k ∨ w.heap.size ≤ k) u X ∧ Below w0.heap.size w0 w' ∧ Kept w w' P0 := by
  subst he
  subst hX
  exact markDS_calls hm P0 u l a w0 w hB ho h0 hl h1
theorem heldDp (k : Nat) (A : Option Addr) (c : Nat) (l : List Dl) (n : Nat) (a r : Int) (w : World) (hn : l.length = n) (hr : Kd.C k39 w A l.length l) (hc : n ≤ c) (h : laws_heldDeltaS.f k l a = some r) :
    Calls Try.prog 33 #[.slice A n c, .int .i64 a] w fun e w' => e = .returned (.int .i64 r) ∧ Below w.heap.size w w' := by
  subst hn
  exact laws_heldDeltaS.calls k A c l a r w hr hc h
end Go.Proofs.Ytfnhjaiioojbkaa.Q
end
section
namespace Go.Proofs.Ytfnhjaiioojbkaa.Q
open Go.RowKit Go.Proofs.YtfnhjaiioojbkaaW.PrintWords
set_option linter.unusedVariables false
set_option linter.unusedSimpArgs false
/-- A code: not long, of bytes. -/
def Code (b : List Int) : Prop := b.length ≤ 2000 ∧ ∀ x ∈ b, 0 ≤ x ∧ x ≤ 255
theorem Code.rd {b : List Int} (h : Code b) (i : Int) : 0 ≤ rd b i ∧ rd b i ≤ 255 := by
  show 0 ≤ b.getD i.toNat 0 ∧ b.getD i.toNat 0 ≤ 255
  rw [List.getD_eq_getElem?_getD]
  by_cases hi : i.toNat < b.length
  · simp [hi]
    exact h.2 _ (List.getElem_mem hi)
  · simp [hi]
/-- A place in a code that is far from the end of the numbers. -/
def Pl (p : Int) : Prop := 0 ≤ p ∧ p ≤ 1000000000
theorem Pl.add {p : Int} (h : 0 ≤ p ∧ p ≤ 1000000) {c : Int} (h0 : 0 ≤ c) (h1 : c ≤ 1000000) : Pl (p + c) := ⟨by omega, by omega⟩
end Go.Proofs.Ytfnhjaiioojbkaa.Q
end
section
namespace Go.Proofs.Ytfnhjaiioojbkaa.Q
open Go.RowKit Go.Proofs.YtfnhjaiioojbkaaW.PrintWords
set_option linter.unusedVariables false
set_option linter.unusedSimpArgs false
theorem SmD_ofB (a b : Tx) : SmD (ofB a b) := by
  by_cases h : textB a = true ∧ textB b = true
  · rw [ofB, if_pos h]
    obtain ⟨h1, h2⟩ := deltaB_len (dOf_ok h.1 h.2)
    refine ⟨by omega, fun x hx => ?_⟩
    obtain ⟨_, _, _, p4, p5⟩ := piece_ok (h2 x hx)
    exact ⟨by omega, fun s hs => by have := p5 s hs; omega⟩
  · rw [ofB, if_neg h]
    exact ⟨by simp, by simp⟩
end Go.Proofs.Ytfnhjaiioojbkaa.Q
end
section
namespace Go.Proofs.Ytfnhjaiioojbkaa.Q
open Go.RowKit Go.Proofs.YtfnhjaiioojbkaaW.PrintWords Go.Proofs.YtfnhjaiioojbkaaW.PrintLast Go.Proofs.YtfnhjaiioojbkaaW.PrintMore
attribute [local go_sem] max2_int min2_int max_two min_two max_three min_three max_four min_four
set_option linter.unusedVariables false
set_option linter.unusedSimpArgs false
theorem ofB_small (a b : Tx) : cnD (ofB a b) ≤ 1000000000 ∧ (ofB a b).length ≤ 10 := by
  unfold ofB
  split
  case isFalse => exact ⟨by simp [cnD], by simp⟩
  case isTrue h =>
    obtain ⟨h1, h2⟩ := deltaB_len (dOf_ok h.1 h.2)
    have hc : ∀ d : List Dl, (∀ x ∈ d, pieceB x = true) → cnD d ≤ 12 * d.length := by
      intro d
      induction d with
      | nil => intro _; simp [cnD]
      | cons x t ih =>
        intro hd
        have hx := (piece_ok (hd x List.mem_cons_self)).2.2.2.1
        have ht := ih (fun y hy => hd y (List.mem_cons_of_mem _ hy))
        simp only [cnD, List.length_cons]; omega
    have := hc _ h2
    exact ⟨by omega, h1⟩
set_option maxHeartbeats 3000000 in
set_option maxRecDepth 100000 in
theorem fnExactDeltaOf_walk (A0 : Option Addr) (c0 : Nat) (l0 : Tx) (A1 : Option Addr) (c1 : Nat) (l1 : Tx) (w : World) (hr0 : Kd.C Kd.string w A0 l0.length l0) (hc0 : l0.length ≤ c0) (hb0 : Big l0) (hr1 : Kd.C Kd.string w A1 l1.length l1) (hc1 : l1.length ≤ c1) (hb1 : Big l1) :
    Calls Try.prog 5 #[.slice A0 l0.length c0, .slice A1 l1.length c1] w fun e w' => e = .returned (.bool true) ∧ Below w.heap.size w w' := by
  obtain ⟨z0, ⟨kz0, hz0⟩, za1, za2, za3⟩ := szS_ev hb0 (a := 1000000) (by omega) (by omega)
  have HZ0 := Aside0.mk (hz0 kz0 (Nat.le_refl _))
  have HR0 := Aside0.mk hr0
  have HC0 := Aside0.mk hc0
  have HR1 := Aside0.mk hr1
  have HC1 := Aside0.mk hc1
  have HB := Aside0.mk (Below.refl w.heap.size w)
  have HZ := Aside0.mk (Nat.le_refl w.heap.size)
  clear hz0 hr0 hc0 hb0 hr1 hc1
  by_cases cz0 : z0 < 0
  · have cb : decide (z0 < 0) = true := decide_eq_true cz0
    clear cz0 za1 za2 za3
    go_enter Try.func5, Try.ntmps5
    go_wp2_with (first | ((with_reducible refine gate_callee (f := 27) rfl ?_); (try (refine gate_guard (by rfl) ?_; dsimp only)); refine goesL_ (some 16) rfl rfl Try.func27 (by kernel_rfl) rfl #[.slice A0 l0.length c0, .int .i64 1000000] rfl (by (try simp only [List.map_toArray, List.map_cons, List.map_nil]); first | done | rfl) ?_; (refine ((laws_szStringS.calls kz0 _ _ l0 1000000 z0 _ (by exact Kd.C_below HR0.out (by repeat (first | (with_reducible first | exact HB.out | apply below_alloc | apply pw_below_drewN | apply below_drew1) | exact HB.out))) HC0.out HZ0.out).mono (fun e w' h => (⟨h.1, h.2.below⟩ : _ ∧ Below _ _ w'))).mono ?_); rintro e w1 ⟨rfl, hb⟩; refine ⟨_, rfl, ?_⟩; have nb_ := Aside0.mk (below_step (by repeat (first | (with_reducible first | exact HB.out | apply below_alloc | apply pw_below_drewN | apply below_drew1) | exact HB.out)) hb); have nz_ := Aside0.mk (Nat.le_trans (by exact HZ.out) (below_size hb)); clear HB HZ; have HB := nb_; have HZ := nz_; clear nb_ nz_ hb))
    go_ret
    exact ⟨rfl, HB.out⟩
  have cb0 : decide (z0 < 0) = false := decide_eq_false cz0
  have Sm0 := Aside0.mk (za3 (by omega))
  obtain ⟨z1, ⟨kz1, hz1⟩, zb1, zb2, zb3⟩ := szS_ev hb1 (a := z0) (by omega) (by omega)
  have HZ1 := Aside0.mk (hz1 kz1 (Nat.le_refl _))
  clear hz1 hb1 cz0 za1 za2 za3
  by_cases cz1 : z1 < 0
  · have cb : decide (z1 < 0) = true := decide_eq_true cz1
    clear cz1 zb1 zb2 zb3
    go_enter Try.func5, Try.ntmps5
    go_wp2_with (first | ((with_reducible refine gate_callee (f := 27) rfl ?_); (try (refine gate_guard (by rfl) ?_; dsimp only)); refine goesL_ (some 16) rfl rfl Try.func27 (by kernel_rfl) rfl #[.slice A0 l0.length c0, .int .i64 1000000] rfl (by (try simp only [List.map_toArray, List.map_cons, List.map_nil]); first | done | rfl) ?_; (refine ((laws_szStringS.calls kz0 _ _ l0 1000000 z0 _ (by exact Kd.C_below HR0.out (by repeat (first | (with_reducible first | exact HB.out | apply below_alloc | apply pw_below_drewN | apply below_drew1) | exact HB.out))) HC0.out HZ0.out).mono (fun e w' h => (⟨h.1, h.2.below⟩ : _ ∧ Below _ _ w'))).mono ?_); rintro e w1 ⟨rfl, hb⟩; refine ⟨_, rfl, ?_⟩; have nb_ := Aside0.mk (below_step (by repeat (first | (with_reducible first | exact HB.out | apply below_alloc | apply pw_below_drewN | apply below_drew1) | exact HB.out)) hb); have nz_ := Aside0.mk (Nat.le_trans (by exact HZ.out) (below_size hb)); clear HB HZ; have HB := nb_; have HZ := nz_; clear nb_ nz_ hb) | ((with_reducible refine gate_callee (f := 27) rfl ?_); (try (refine gate_guard (by rfl) ?_; dsimp only)); refine goesL_ (some 21) rfl rfl Try.func27 (by kernel_rfl) rfl #[.slice A1 l1.length c1, .int .i64 z0] rfl (by (try simp only [List.map_toArray, List.map_cons, List.map_nil]); first | done | rfl) ?_; (refine ((laws_szStringS.calls kz1 _ _ l1 z0 z1 _ (by exact Kd.C_below HR1.out (by repeat (first | (with_reducible first | exact HB.out | apply below_alloc | apply pw_below_drewN | apply below_drew1) | exact HB.out))) HC1.out HZ1.out).mono (fun e w' h => (⟨h.1, h.2.below⟩ : _ ∧ Below _ _ w'))).mono ?_); rintro e w1 ⟨rfl, hb⟩; refine ⟨_, rfl, ?_⟩; have nb_ := Aside0.mk (below_step (by repeat (first | (with_reducible first | exact HB.out | apply below_alloc | apply pw_below_drewN | apply below_drew1) | exact HB.out)) hb); have nz_ := Aside0.mk (Nat.le_trans (by exact HZ.out) (below_size hb)); clear HB HZ; have HB := nb_; have HZ := nz_; clear nb_ nz_ hb))
    go_ret
    exact ⟨rfl, HB.out⟩
  · have cb1 : decide (z1 < 0) = false := decide_eq_false cz1
    have Sm1 := Aside0.mk (zb3 (by omega))
    clear cz1 zb1 zb2 zb3
    obtain ⟨R, hR⟩ : ∃ R, ofB l0 l1 = R := ⟨_, rfl⟩
    obtain ⟨k1, h1⟩ := specDeltaOf_ev l0 l1 Sm0.out Sm1.out
    obtain ⟨k2, h2⟩ := implDeltaOf_ev l0 l1 Sm0.out Sm1.out
    rw [hR] at h1 h2
    have H1 := Aside0.mk (h1 k1 (Nat.le_refl _))
    have H2 := Aside0.mk (h2 k2 (Nat.le_refl _))
    have hD := SmD_ofB l0 l1
    rw [hR] at hD
    have hcn : cnD R ≤ 1000000000 ∧ R.length ≤ 10 := by rw [← hR]; exact ofB_small l0 l1
    clear hR h1 h2
    obtain ⟨ke, he⟩ := eqD_refl R (by have := hD.1; omega) (fun x hx => by have := (hD.2 x hx).1; omega)
    have HE := Aside0.mk (he ke (Nat.le_refl _))
    obtain ⟨mt, hmt⟩ := exists_mt
    have HMt := Aside0.mk hmt
    have HN0 := Aside0.mk (fulS_ful2 l0 Sm0.out.1)
    have HN1 := Aside0.mk (fulS_ful2 l1 Sm1.out.1)
    have hl0 := Sm0.out.1
    have hl1 := Sm1.out.1
    obtain ⟨km0, hm0⟩ := markS_ev hmt l0 101 (by decide) (by omega)
    obtain ⟨k1_, hk1⟩ : ∃ k, 101 + (l0.length : Int) = k := ⟨_, rfl⟩
    rw [hk1] at hm0
    obtain ⟨km1, hm1⟩ := markS_ev hmt l1 k1_ (by omega) (by omega)
    obtain ⟨k2_, hk2⟩ : ∃ k, k1_ + (l1.length : Int) = k := ⟨_, rfl⟩
    rw [hk2] at hm1
    obtain ⟨X0_, hX0⟩ : ∃ X, mkS mt l0 101 = X := ⟨_, rfl⟩
    obtain ⟨X1_, hX1⟩ : ∃ X, mkS mt l1 k1_ = X := ⟨_, rfl⟩
    rw [hX0] at hm0
    rw [hX1] at hm1
    have HM0 := Aside0.mk (hm0 km0 (Nat.le_refl _))
    have HM1 := Aside0.mk (hm1 km1 (Nat.le_refl _))
    have nn := cnD_nn R
    obtain ⟨m_, hm_⟩ : ∃ m, 101 + cnD R = m := ⟨_, rfl⟩
    have HGe := Aside0.mk hm_
    have HGb := Aside0.mk (show R.length ≤ 1000000 ∧ 101 + cnD R ≤ 1000000000000000000 by omega)
    obtain ⟨kh, hh⟩ := heldD_ev hmt R 101 (by decide) (by omega) (by omega)
    have hxl := mkD_len mt R 101
    obtain ⟨XG_, hXG⟩ : ∃ X, mkD mt R 101 = X := ⟨_, rfl⟩
    rw [hm_, hXG] at hh
    rw [hXG] at hxl
    have HXe := Aside0.mk hXG
    have HXl := Aside0.mk hxl
    have HH := Aside0.mk (hh kh (Nat.le_refl _))
    have e1 : decide (k2_ < 0) = false := decide_eq_false (by omega)
    have e2 : decide (m_ < 0) = false := decide_eq_false (by omega)
    have e3 : (m_ != m_) = false := by simp
    clear hXG hxl hk1 hk2 hX0 hX1 hm0 hm1 he hD hcn nn hm_ hh hmt hl0 hl1
    go_enter Try.func5, Try.ntmps5
    go_wp2_with (first | ((with_reducible refine gate_callee (f := 27) rfl ?_); (try (refine gate_guard (by rfl) ?_; dsimp only)); refine goesL_ (some 16) rfl rfl Try.func27 (by kernel_rfl) rfl #[.slice A0 l0.length c0, .int .i64 1000000] rfl (by (try simp only [List.map_toArray, List.map_cons, List.map_nil]); first | done | rfl) ?_; (refine ((laws_szStringS.calls kz0 _ _ l0 1000000 z0 _ (by exact Kd.C_below HR0.out (by repeat (first | (with_reducible first | exact HB.out | apply below_alloc | apply pw_below_drewN | apply below_drew1) | exact HB.out))) HC0.out HZ0.out).mono (fun e w' h => (⟨h.1, h.2.below⟩ : _ ∧ Below _ _ w'))).mono ?_); rintro e w1 ⟨rfl, hb⟩; refine ⟨_, rfl, ?_⟩; have nb_ := Aside0.mk (below_step (by repeat (first | (with_reducible first | exact HB.out | apply below_alloc | apply pw_below_drewN | apply below_drew1) | exact HB.out)) hb); have nz_ := Aside0.mk (Nat.le_trans (by exact HZ.out) (below_size hb)); clear HB HZ; have HB := nb_; have HZ := nz_; clear nb_ nz_ hb) | ((with_reducible refine gate_callee (f := 27) rfl ?_); (try (refine gate_guard (by rfl) ?_; dsimp only)); refine goesL_ (some 21) rfl rfl Try.func27 (by kernel_rfl) rfl #[.slice A1 l1.length c1, .int .i64 z0] rfl (by (try simp only [List.map_toArray, List.map_cons, List.map_nil]); first | done | rfl) ?_; (refine ((laws_szStringS.calls kz1 _ _ l1 z0 z1 _ (by exact Kd.C_below HR1.out (by repeat (first | (with_reducible first | exact HB.out | apply below_alloc | apply pw_below_drewN | apply below_drew1) | exact HB.out))) HC1.out HZ1.out).mono (fun e w' h => (⟨h.1, h.2.below⟩ : _ ∧ Below _ _ w'))).mono ?_); rintro e w1 ⟨rfl, hb⟩; refine ⟨_, rfl, ?_⟩; have nb_ := Aside0.mk (below_step (by repeat (first | (with_reducible first | exact HB.out | apply below_alloc | apply pw_below_drewN | apply below_drew1) | exact HB.out)) hb); have nz_ := Aside0.mk (Nat.le_trans (by exact HZ.out) (below_size hb)); clear HB HZ; have HB := nb_; have HZ := nz_; clear nb_ nz_ hb) | ((with_reducible refine gate_callee (f := 28) rfl ?_); (try (refine gate_guard (by rfl) ?_; dsimp only)); refine goesL_ (some 25) rfl rfl Try.func28 (by kernel_rfl) rfl #[.slice A0 l0.length c0, .bool false] rfl (by (try simp only [List.map_toArray, List.map_cons, List.map_nil]); first | done | rfl) ?_; (refine (toSp A0 c0 l0 false _ (by exact Kd.C_below HR0.out (by repeat (first | (with_reducible first | exact HB.out | apply below_alloc | apply pw_below_drewN | apply below_drew1) | exact HB.out))) Sm0.out.1).mono ?_); rintro e w1 ⟨A_s0, c_s0, rfl, hl_, hrow_, hf_, hb⟩; refine ⟨_, rfl, ?_⟩; have nb_ := Aside0.mk (below_step (by repeat (first | (with_reducible first | exact HB.out | apply below_alloc | apply pw_below_drewN | apply below_drew1) | exact HB.out)) hb); obtain ⟨lo_s0, hi_s0, ord_, hz_, row_⟩ := R_span hrow_ (by exact HZ.out) (below_size (by repeat (first | (with_reducible first | exact HB.out | apply below_alloc | apply pw_below_drewN | apply below_drew1) | exact HB.out))) (below_size hb); have O_s0 := Aside0.mk ord_; have nz_ := Aside0.mk hz_; have n_s0 := Aside0.mk row_; clear HB HZ; have r_s0 := n_s0; clear n_s0; have L_s0 := Aside0.mk hl_; have HB := nb_; have HZ := nz_; clear nb_ nz_ hb) | ((with_reducible refine gate_callee (f := 28) rfl ?_); (try (refine gate_guard (by rfl) ?_; dsimp only)); refine goesL_ (some 27) rfl rfl Try.func28 (by kernel_rfl) rfl #[.slice A1 l1.length c1, .bool false] rfl (by (try simp only [List.map_toArray, List.map_cons, List.map_nil]); first | done | rfl) ?_; (refine (toSp A1 c1 l1 false _ (by exact Kd.C_below HR1.out (by repeat (first | (with_reducible first | exact HB.out | apply below_alloc | apply pw_below_drewN | apply below_drew1) | exact HB.out))) Sm1.out.1).mono ?_); rintro e w1 ⟨A_s1, c_s1, rfl, hl_, hrow_, hf_, hb⟩; refine ⟨_, rfl, ?_⟩; have nb_ := Aside0.mk (below_step (by repeat (first | (with_reducible first | exact HB.out | apply below_alloc | apply pw_below_drewN | apply below_drew1) | exact HB.out)) hb); have n_s0 := Aside0.mk (Kd.R_below (by (with_reducible repeat (first | apply Kd.R_alloc | apply Kd.R_drewN | apply Kd.R_drew)); exact r_s0.out) hb); obtain ⟨lo_s1, hi_s1, ord_, hz_, row_⟩ := R_span hrow_ (by exact HZ.out) (below_size (by repeat (first | (with_reducible first | exact HB.out | apply below_alloc | apply pw_below_drewN | apply below_drew1) | exact HB.out))) (below_size hb); have O_s1 := Aside0.mk ord_; have nz_ := Aside0.mk hz_; have n_s1 := Aside0.mk row_; clear HB HZ; clear r_s0; have r_s0 := n_s0; clear n_s0; have r_s1 := n_s1; clear n_s1; have L_s1 := Aside0.mk hl_; have HB := nb_; have HZ := nz_; clear nb_ nz_ hb) | ((with_reducible refine gate_callee (f := 23) rfl ?_); (try (refine gate_guard (by rfl) ?_; dsimp only)); refine goesL_ (some 28) rfl rfl Try.func23 (by kernel_rfl) rfl #[.slice A_s0 l0.length c_s0, .slice A_s1 l1.length c_s1] rfl (by (try simp only [List.map_toArray, List.map_cons, List.map_nil]); first | done | rfl) ?_; (refine (spec_DeltaOf.calls k1 _ _ l0 _ _ l1 R _ ((Kd.R_reads' (by (with_reducible repeat (first | apply Kd.R_alloc | apply Kd.R_drewN | apply Kd.R_drew)); exact r_s0.out)).2.2) L_s0.out ((Kd.R_reads' (by (with_reducible repeat (first | apply Kd.R_alloc | apply Kd.R_drewN | apply Kd.R_drew)); exact r_s1.out)).2.2) L_s1.out H1.out).mono ?_); rintro e w1 ⟨v_w0, rfl, hrow_, hb⟩; refine ⟨_, rfl, ?_⟩; clear r_s0; clear r_s1; have nb_ := Aside0.mk (below_step (by repeat (first | (with_reducible first | exact HB.out | apply below_alloc | apply pw_below_drewN | apply below_drew1) | exact HB.out)) hb); obtain ⟨lo_w0, hi_w0, ord_, hz_, row_⟩ := S_span hrow_ (by exact HZ.out) (below_size (by repeat (first | (with_reducible first | exact HB.out | apply below_alloc | apply pw_below_drewN | apply below_drew1) | exact HB.out))) (below_size hb); have O_w0 := Aside0.mk ord_; have nz_ := Aside0.mk hz_; have n_w0 := Aside0.mk row_; clear HB HZ; have r_w0 := n_w0; clear n_w0; have HB := nb_; have HZ := nz_; clear nb_ nz_ hb; obtain ⟨A_w0, c_w0, ev_⟩ := Kd.S_slice r_w0.out; subst ev_; have L_w0 := Aside0.mk (Kd.S_reads' r_w0.out).2.1) | ((with_reducible refine gate_callee (f := 28) rfl ?_); (try (refine gate_guard (by rfl) ?_; dsimp only)); refine goesL_ (some 30) rfl rfl Try.func28 (by kernel_rfl) rfl #[.slice A0 l0.length c0, .bool false] rfl (by (try simp only [List.map_toArray, List.map_cons, List.map_nil]); first | done | rfl) ?_; (refine (toSp A0 c0 l0 false _ (by exact Kd.C_below HR0.out (by repeat (first | (with_reducible first | exact HB.out | apply below_alloc | apply pw_below_drewN | apply below_drew1) | exact HB.out))) Sm0.out.1).mono ?_); rintro e w1 ⟨A_x0, c_x0, rfl, hl_, hrow_, hf_, hb⟩; refine ⟨_, rfl, ?_⟩; have nb_ := Aside0.mk (below_step (by repeat (first | (with_reducible first | exact HB.out | apply below_alloc | apply pw_below_drewN | apply below_drew1) | exact HB.out)) hb); have n_w0 := Aside0.mk (Kd.S_below (by (with_reducible repeat (first | apply Kd.S_alloc | apply Kd.S_drewN | apply Kd.S_drew)); exact r_w0.out) hb); obtain ⟨lo_x0, hi_x0, ord_, hz_, row_⟩ := R_span hrow_ (by exact HZ.out) (below_size (by repeat (first | (with_reducible first | exact HB.out | apply below_alloc | apply pw_below_drewN | apply below_drew1) | exact HB.out))) (below_size hb); have O_x0 := Aside0.mk ord_; have nz_ := Aside0.mk hz_; have n_x0 := Aside0.mk row_; clear HB HZ; clear r_w0; have r_w0 := n_w0; clear n_w0; have r_x0 := n_x0; clear n_x0; have L_x0 := Aside0.mk hl_; have F_x0 := Aside0.mk (hf_ rfl).1; have G_x0 := Aside0.mk (hf_ rfl).2; have HB := nb_; have HZ := nz_; clear nb_ nz_ hb) | ((with_reducible refine gate_callee (f := 28) rfl ?_); (try (refine gate_guard (by rfl) ?_; dsimp only)); refine goesL_ (some 32) rfl rfl Try.func28 (by kernel_rfl) rfl #[.slice A1 l1.length c1, .bool false] rfl (by (try simp only [List.map_toArray, List.map_cons, List.map_nil]); first | done | rfl) ?_; (refine (toSp A1 c1 l1 false _ (by exact Kd.C_below HR1.out (by repeat (first | (with_reducible first | exact HB.out | apply below_alloc | apply pw_below_drewN | apply below_drew1) | exact HB.out))) Sm1.out.1).mono ?_); rintro e w1 ⟨A_x1, c_x1, rfl, hl_, hrow_, hf_, hb⟩; refine ⟨_, rfl, ?_⟩; have nb_ := Aside0.mk (below_step (by repeat (first | (with_reducible first | exact HB.out | apply below_alloc | apply pw_below_drewN | apply below_drew1) | exact HB.out)) hb); have n_w0 := Aside0.mk (Kd.S_below (by (with_reducible repeat (first | apply Kd.S_alloc | apply Kd.S_drewN | apply Kd.S_drew)); exact r_w0.out) hb); have n_x0 := Aside0.mk (Kd.R_below (by (with_reducible repeat (first | apply Kd.R_alloc | apply Kd.R_drewN | apply Kd.R_drew)); exact r_x0.out) hb); have nF_x0 := Aside0.mk (Kd.C_below (by repeat (first | (with_reducible exact F_x0.out) | (with_reducible refine Kd.C_alloc ?_ _) | (with_reducible refine Kd.C_drewN ?_ _) | (with_reducible refine Kd.C_drew ?_) | exact F_x0.out)) hb); obtain ⟨lo_x1, hi_x1, ord_, hz_, row_⟩ := R_span hrow_ (by exact HZ.out) (below_size (by repeat (first | (with_reducible first | exact HB.out | apply below_alloc | apply pw_below_drewN | apply below_drew1) | exact HB.out))) (below_size hb); have O_x1 := Aside0.mk ord_; have nz_ := Aside0.mk hz_; have n_x1 := Aside0.mk row_; clear HB HZ; clear r_w0; have r_w0 := n_w0; clear n_w0; clear r_x0; have r_x0 := n_x0; clear n_x0; clear F_x0; have F_x0 := nF_x0; clear nF_x0; have r_x1 := n_x1; clear n_x1; have L_x1 := Aside0.mk hl_; have F_x1 := Aside0.mk (hf_ rfl).1; have G_x1 := Aside0.mk (hf_ rfl).2; have HB := nb_; have HZ := nz_; clear nb_ nz_ hb) | ((with_reducible refine gate_callee (f := 21) rfl ?_); (try (refine gate_guard (by rfl) ?_; dsimp only)); refine goesL_ (some 35) rfl rfl Try.func21 (by kernel_rfl) rfl #[.slice A_x0 l0.length c_x0, .slice A_x1 l1.length c_x1] rfl (by (try simp only [List.map_toArray, List.map_cons, List.map_nil]); first | done | rfl) ?_; (refine (impl_DeltaOf.calls k2 _ _ l0 _ _ l1 R _ ((Kd.R_reads' (by (with_reducible repeat (first | apply Kd.R_alloc | apply Kd.R_drewN | apply Kd.R_drew)); exact r_x0.out)).2.2) L_x0.out ((Kd.R_reads' (by (with_reducible repeat (first | apply Kd.R_alloc | apply Kd.R_drewN | apply Kd.R_drew)); exact r_x1.out)).2.2) L_x1.out H2.out).mono ?_); rintro e w1 ⟨v_g0, rfl, hrow_, hb⟩; refine ⟨_, rfl, ?_⟩; have nb_ := Aside0.mk (below_step (by repeat (first | (with_reducible first | exact HB.out | apply below_alloc | apply pw_below_drewN | apply below_drew1) | exact HB.out)) hb); have n_w0 := Aside0.mk (Kd.S_below (by (with_reducible repeat (first | apply Kd.S_alloc | apply Kd.S_drewN | apply Kd.S_drew)); exact r_w0.out) hb); have n_x0 := Aside0.mk (Kd.R_below (by (with_reducible repeat (first | apply Kd.R_alloc | apply Kd.R_drewN | apply Kd.R_drew)); exact r_x0.out) hb); have n_x1 := Aside0.mk (Kd.R_below (by (with_reducible repeat (first | apply Kd.R_alloc | apply Kd.R_drewN | apply Kd.R_drew)); exact r_x1.out) hb); have nF_x0 := Aside0.mk (Kd.C_below (by repeat (first | (with_reducible exact F_x0.out) | (with_reducible refine Kd.C_alloc ?_ _) | (with_reducible refine Kd.C_drewN ?_ _) | (with_reducible refine Kd.C_drew ?_) | exact F_x0.out)) hb); have nF_x1 := Aside0.mk (Kd.C_below (by repeat (first | (with_reducible exact F_x1.out) | (with_reducible refine Kd.C_alloc ?_ _) | (with_reducible refine Kd.C_drewN ?_ _) | (with_reducible refine Kd.C_drew ?_) | exact F_x1.out)) hb); obtain ⟨lo_g0, hi_g0, ord_, hz_, row_⟩ := S_span hrow_ (by exact HZ.out) (below_size (by repeat (first | (with_reducible first | exact HB.out | apply below_alloc | apply pw_below_drewN | apply below_drew1) | exact HB.out))) (below_size hb); have O_g0 := Aside0.mk ord_; have nz_ := Aside0.mk hz_; have n_g0 := Aside0.mk row_; clear HB HZ; clear r_w0; have r_w0 := n_w0; clear n_w0; clear r_x0; have r_x0 := n_x0; clear n_x0; clear r_x1; have r_x1 := n_x1; clear n_x1; clear F_x0; have F_x0 := nF_x0; clear nF_x0; clear F_x1; have F_x1 := nF_x1; clear nF_x1; have r_g0 := n_g0; clear n_g0; have HB := nb_; have HZ := nz_; clear nb_ nz_ hb; obtain ⟨A_g0, c_g0, ev_⟩ := Kd.S_slice r_g0.out; subst ev_; have L_g0 := Aside0.mk (Kd.S_reads' r_g0.out).2.1) | ((with_reducible refine gate_callee (f := 29) rfl ?_); (try (refine gate_guard (by rfl) ?_; dsimp only)); refine goesL_ (some 38) rfl rfl Try.func29 (by kernel_rfl) rfl #[.slice A_g0 R.length c_g0, .slice A_w0 R.length c_w0] rfl (by (try simp only [List.map_toArray, List.map_cons, List.map_nil]); first | done | rfl) ?_; (refine (laws_eqDeltaS.calls ke _ _ R _ _ R true _ ((Kd.S_reads' (by (with_reducible repeat (first | apply Kd.S_alloc | apply Kd.S_drewN | apply Kd.S_drew)); exact r_g0.out)).2.2) L_g0.out ((Kd.S_reads' (by (with_reducible repeat (first | apply Kd.S_alloc | apply Kd.S_drewN | apply Kd.S_drew)); exact r_w0.out)).2.2) L_w0.out HE.out).mono ?_); rintro e w1 ⟨rfl, hb⟩; refine ⟨_, rfl, ?_⟩; have nb_ := Aside0.mk (below_step (by repeat (first | (with_reducible first | exact HB.out | apply below_alloc | apply pw_below_drewN | apply below_drew1) | exact HB.out)) hb); have n_w0 := Aside0.mk (Kd.S_below (by (with_reducible repeat (first | apply Kd.S_alloc | apply Kd.S_drewN | apply Kd.S_drew)); exact r_w0.out) hb); have n_x0 := Aside0.mk (Kd.R_below (by (with_reducible repeat (first | apply Kd.R_alloc | apply Kd.R_drewN | apply Kd.R_drew)); exact r_x0.out) hb); have n_x1 := Aside0.mk (Kd.R_below (by (with_reducible repeat (first | apply Kd.R_alloc | apply Kd.R_drewN | apply Kd.R_drew)); exact r_x1.out) hb); have n_g0 := Aside0.mk (Kd.S_below (by (with_reducible repeat (first | apply Kd.S_alloc | apply Kd.S_drewN | apply Kd.S_drew)); exact r_g0.out) hb); have nF_x0 := Aside0.mk (Kd.C_below (by repeat (first | (with_reducible exact F_x0.out) | (with_reducible refine Kd.C_alloc ?_ _) | (with_reducible refine Kd.C_drewN ?_ _) | (with_reducible refine Kd.C_drew ?_) | exact F_x0.out)) hb); have nF_x1 := Aside0.mk (Kd.C_below (by repeat (first | (with_reducible exact F_x1.out) | (with_reducible refine Kd.C_alloc ?_ _) | (with_reducible refine Kd.C_drewN ?_ _) | (with_reducible refine Kd.C_drew ?_) | exact F_x1.out)) hb); have nz_ := Aside0.mk (Nat.le_trans (by exact HZ.out) (below_size hb)); clear HB HZ; clear r_w0; have r_w0 := n_w0; clear n_w0; clear r_x0; have r_x0 := n_x0; clear n_x0; clear r_x1; have r_x1 := n_x1; clear n_x1; clear r_g0; have r_g0 := n_g0; clear n_g0; clear F_x0; have F_x0 := nF_x0; clear nF_x0; clear F_x1; have F_x1 := nF_x1; clear nF_x1; have HB := nb_; have HZ := nz_; clear nb_ nz_ hb) | ((with_reducible refine gate_callee (f := 28) rfl ?_); (try (refine gate_guard (by rfl) ?_; dsimp only)); refine goesL_ (some 42) rfl rfl Try.func28 (by kernel_rfl) rfl #[.slice A0 l0.length c0, .bool false] rfl (by (try simp only [List.map_toArray, List.map_cons, List.map_nil]); first | done | rfl) ?_; (refine (toSp A0 c0 l0 false _ (by exact Kd.C_below HR0.out (by repeat (first | (with_reducible first | exact HB.out | apply below_alloc | apply pw_below_drewN | apply below_drew1) | exact HB.out))) Sm0.out.1).mono ?_); rintro e w1 ⟨A_y0, c_y0, rfl, hl_, hrow_, hf_, hb⟩; refine ⟨_, rfl, ?_⟩; have nb_ := Aside0.mk (below_step (by repeat (first | (with_reducible first | exact HB.out | apply below_alloc | apply pw_below_drewN | apply below_drew1) | exact HB.out)) hb); have n_w0 := Aside0.mk (Kd.S_below (by (with_reducible repeat (first | apply Kd.S_alloc | apply Kd.S_drewN | apply Kd.S_drew)); exact r_w0.out) hb); have n_x0 := Aside0.mk (Kd.R_below (by (with_reducible repeat (first | apply Kd.R_alloc | apply Kd.R_drewN | apply Kd.R_drew)); exact r_x0.out) hb); have n_x1 := Aside0.mk (Kd.R_below (by (with_reducible repeat (first | apply Kd.R_alloc | apply Kd.R_drewN | apply Kd.R_drew)); exact r_x1.out) hb); have n_g0 := Aside0.mk (Kd.S_below (by (with_reducible repeat (first | apply Kd.S_alloc | apply Kd.S_drewN | apply Kd.S_drew)); exact r_g0.out) hb); have nF_x0 := Aside0.mk (Kd.C_below (by repeat (first | (with_reducible exact F_x0.out) | (with_reducible refine Kd.C_alloc ?_ _) | (with_reducible refine Kd.C_drewN ?_ _) | (with_reducible refine Kd.C_drew ?_) | exact F_x0.out)) hb); have nF_x1 := Aside0.mk (Kd.C_below (by repeat (first | (with_reducible exact F_x1.out) | (with_reducible refine Kd.C_alloc ?_ _) | (with_reducible refine Kd.C_drewN ?_ _) | (with_reducible refine Kd.C_drew ?_) | exact F_x1.out)) hb); obtain ⟨lo_y0, hi_y0, ord_, hz_, row_⟩ := R_span hrow_ (by exact HZ.out) (below_size (by repeat (first | (with_reducible first | exact HB.out | apply below_alloc | apply pw_below_drewN | apply below_drew1) | exact HB.out))) (below_size hb); have O_y0 := Aside0.mk ord_; have nz_ := Aside0.mk hz_; have n_y0 := Aside0.mk row_; clear HB HZ; clear r_w0; have r_w0 := n_w0; clear n_w0; clear r_x0; have r_x0 := n_x0; clear n_x0; clear r_x1; have r_x1 := n_x1; clear n_x1; clear r_g0; have r_g0 := n_g0; clear n_g0; clear F_x0; have F_x0 := nF_x0; clear nF_x0; clear F_x1; have F_x1 := nF_x1; clear nF_x1; have r_y0 := n_y0; clear n_y0; have L_y0 := Aside0.mk hl_; have F_y0 := Aside0.mk (hf_ rfl).1; have G_y0 := Aside0.mk (hf_ rfl).2; have HB := nb_; have HZ := nz_; clear nb_ nz_ hb) | ((with_reducible refine gate_callee (f := 30) rfl ?_); (try (refine gate_guard (by rfl) ?_; dsimp only)); refine goesL_ (some 43) rfl rfl Try.func30 (by kernel_rfl) rfl #[.slice A_x0 l0.length c_x0, .slice A_y0 l0.length c_y0] rfl (by (try simp only [List.map_toArray, List.map_cons, List.map_nil]); first | done | rfl) ?_; (refine ((intS_calls _ _ _ _ (fulS false l0).1 l0.length _ (by repeat (first | (with_reducible exact F_x0.out) | (with_reducible refine Kd.C_alloc ?_ _) | (with_reducible refine Kd.C_drewN ?_ _) | (with_reducible refine Kd.C_drew ?_) | exact F_x0.out)) G_x0.out (by repeat (first | (with_reducible exact F_y0.out) | (with_reducible refine Kd.C_alloc ?_ _) | (with_reducible refine Kd.C_drewN ?_ _) | (with_reducible refine Kd.C_drew ?_) | exact F_y0.out)) G_y0.out HN0.out).mono (fun e w' h => (⟨h.1, h.2.below⟩ : _ ∧ Below _ _ w'))).mono ?_); rintro e w1 ⟨rfl, hb⟩; refine ⟨_, rfl, ?_⟩; clear r_y0; have nb_ := Aside0.mk (below_step (by repeat (first | (with_reducible first | exact HB.out | apply below_alloc | apply pw_below_drewN | apply below_drew1) | exact HB.out)) hb); have n_w0 := Aside0.mk (Kd.S_below (by (with_reducible repeat (first | apply Kd.S_alloc | apply Kd.S_drewN | apply Kd.S_drew)); exact r_w0.out) hb); have n_x0 := Aside0.mk (Kd.R_below (by (with_reducible repeat (first | apply Kd.R_alloc | apply Kd.R_drewN | apply Kd.R_drew)); exact r_x0.out) hb); have n_x1 := Aside0.mk (Kd.R_below (by (with_reducible repeat (first | apply Kd.R_alloc | apply Kd.R_drewN | apply Kd.R_drew)); exact r_x1.out) hb); have n_g0 := Aside0.mk (Kd.S_below (by (with_reducible repeat (first | apply Kd.S_alloc | apply Kd.S_drewN | apply Kd.S_drew)); exact r_g0.out) hb); have nF_x0 := Aside0.mk (Kd.C_below (by repeat (first | (with_reducible exact F_x0.out) | (with_reducible refine Kd.C_alloc ?_ _) | (with_reducible refine Kd.C_drewN ?_ _) | (with_reducible refine Kd.C_drew ?_) | exact F_x0.out)) hb); have nF_x1 := Aside0.mk (Kd.C_below (by repeat (first | (with_reducible exact F_x1.out) | (with_reducible refine Kd.C_alloc ?_ _) | (with_reducible refine Kd.C_drewN ?_ _) | (with_reducible refine Kd.C_drew ?_) | exact F_x1.out)) hb); have nz_ := Aside0.mk (Nat.le_trans (by exact HZ.out) (below_size hb)); clear HB HZ; clear r_w0; have r_w0 := n_w0; clear n_w0; clear r_x0; have r_x0 := n_x0; clear n_x0; clear r_x1; have r_x1 := n_x1; clear n_x1; clear r_g0; have r_g0 := n_g0; clear n_g0; clear F_x0; have F_x0 := nF_x0; clear nF_x0; clear F_x1; have F_x1 := nF_x1; clear nF_x1; have HB := nb_; have HZ := nz_; clear nb_ nz_ hb) | ((with_reducible refine gate_callee (f := 28) rfl ?_); (try (refine gate_guard (by rfl) ?_; dsimp only)); refine goesL_ (some 47) rfl rfl Try.func28 (by kernel_rfl) rfl #[.slice A1 l1.length c1, .bool false] rfl (by (try simp only [List.map_toArray, List.map_cons, List.map_nil]); first | done | rfl) ?_; (refine (toSp A1 c1 l1 false _ (by exact Kd.C_below HR1.out (by repeat (first | (with_reducible first | exact HB.out | apply below_alloc | apply pw_below_drewN | apply below_drew1) | exact HB.out))) Sm1.out.1).mono ?_); rintro e w1 ⟨A_y1, c_y1, rfl, hl_, hrow_, hf_, hb⟩; refine ⟨_, rfl, ?_⟩; have nb_ := Aside0.mk (below_step (by repeat (first | (with_reducible first | exact HB.out | apply below_alloc | apply pw_below_drewN | apply below_drew1) | exact HB.out)) hb); have n_w0 := Aside0.mk (Kd.S_below (by (with_reducible repeat (first | apply Kd.S_alloc | apply Kd.S_drewN | apply Kd.S_drew)); exact r_w0.out) hb); have n_x0 := Aside0.mk (Kd.R_below (by (with_reducible repeat (first | apply Kd.R_alloc | apply Kd.R_drewN | apply Kd.R_drew)); exact r_x0.out) hb); have n_x1 := Aside0.mk (Kd.R_below (by (with_reducible repeat (first | apply Kd.R_alloc | apply Kd.R_drewN | apply Kd.R_drew)); exact r_x1.out) hb); have n_g0 := Aside0.mk (Kd.S_below (by (with_reducible repeat (first | apply Kd.S_alloc | apply Kd.S_drewN | apply Kd.S_drew)); exact r_g0.out) hb); have nF_x0 := Aside0.mk (Kd.C_below (by repeat (first | (with_reducible exact F_x0.out) | (with_reducible refine Kd.C_alloc ?_ _) | (with_reducible refine Kd.C_drewN ?_ _) | (with_reducible refine Kd.C_drew ?_) | exact F_x0.out)) hb); have nF_x1 := Aside0.mk (Kd.C_below (by repeat (first | (with_reducible exact F_x1.out) | (with_reducible refine Kd.C_alloc ?_ _) | (with_reducible refine Kd.C_drewN ?_ _) | (with_reducible refine Kd.C_drew ?_) | exact F_x1.out)) hb); obtain ⟨lo_y1, hi_y1, ord_, hz_, row_⟩ := R_span hrow_ (by exact HZ.out) (below_size (by repeat (first | (with_reducible first | exact HB.out | apply below_alloc | apply pw_below_drewN | apply below_drew1) | exact HB.out))) (below_size hb); have O_y1 := Aside0.mk ord_; have nz_ := Aside0.mk hz_; have n_y1 := Aside0.mk row_; clear HB HZ; clear r_w0; have r_w0 := n_w0; clear n_w0; clear r_x0; have r_x0 := n_x0; clear n_x0; clear r_x1; have r_x1 := n_x1; clear n_x1; clear r_g0; have r_g0 := n_g0; clear n_g0; clear F_x0; have F_x0 := nF_x0; clear nF_x0; clear F_x1; have F_x1 := nF_x1; clear nF_x1; have r_y1 := n_y1; clear n_y1; have L_y1 := Aside0.mk hl_; have F_y1 := Aside0.mk (hf_ rfl).1; have G_y1 := Aside0.mk (hf_ rfl).2; have HB := nb_; have HZ := nz_; clear nb_ nz_ hb) | ((with_reducible refine gate_callee (f := 30) rfl ?_); (try (refine gate_guard (by rfl) ?_; dsimp only)); refine goesL_ (some 48) rfl rfl Try.func30 (by kernel_rfl) rfl #[.slice A_x1 l1.length c_x1, .slice A_y1 l1.length c_y1] rfl (by (try simp only [List.map_toArray, List.map_cons, List.map_nil]); first | done | rfl) ?_; (refine ((intS_calls _ _ _ _ (fulS false l1).1 l1.length _ (by repeat (first | (with_reducible exact F_x1.out) | (with_reducible refine Kd.C_alloc ?_ _) | (with_reducible refine Kd.C_drewN ?_ _) | (with_reducible refine Kd.C_drew ?_) | exact F_x1.out)) G_x1.out (by repeat (first | (with_reducible exact F_y1.out) | (with_reducible refine Kd.C_alloc ?_ _) | (with_reducible refine Kd.C_drewN ?_ _) | (with_reducible refine Kd.C_drew ?_) | exact F_y1.out)) G_y1.out HN1.out).mono (fun e w' h => (⟨h.1, h.2.below⟩ : _ ∧ Below _ _ w'))).mono ?_); rintro e w1 ⟨rfl, hb⟩; refine ⟨_, rfl, ?_⟩; clear r_y1; have nb_ := Aside0.mk (below_step (by repeat (first | (with_reducible first | exact HB.out | apply below_alloc | apply pw_below_drewN | apply below_drew1) | exact HB.out)) hb); have n_w0 := Aside0.mk (Kd.S_below (by (with_reducible repeat (first | apply Kd.S_alloc | apply Kd.S_drewN | apply Kd.S_drew)); exact r_w0.out) hb); have n_x0 := Aside0.mk (Kd.R_below (by (with_reducible repeat (first | apply Kd.R_alloc | apply Kd.R_drewN | apply Kd.R_drew)); exact r_x0.out) hb); have n_x1 := Aside0.mk (Kd.R_below (by (with_reducible repeat (first | apply Kd.R_alloc | apply Kd.R_drewN | apply Kd.R_drew)); exact r_x1.out) hb); have n_g0 := Aside0.mk (Kd.S_below (by (with_reducible repeat (first | apply Kd.S_alloc | apply Kd.S_drewN | apply Kd.S_drew)); exact r_g0.out) hb); have nF_x0 := Aside0.mk (Kd.C_below (by repeat (first | (with_reducible exact F_x0.out) | (with_reducible refine Kd.C_alloc ?_ _) | (with_reducible refine Kd.C_drewN ?_ _) | (with_reducible refine Kd.C_drew ?_) | exact F_x0.out)) hb); have nF_x1 := Aside0.mk (Kd.C_below (by repeat (first | (with_reducible exact F_x1.out) | (with_reducible refine Kd.C_alloc ?_ _) | (with_reducible refine Kd.C_drewN ?_ _) | (with_reducible refine Kd.C_drew ?_) | exact F_x1.out)) hb); have nz_ := Aside0.mk (Nat.le_trans (by exact HZ.out) (below_size hb)); clear HB HZ; clear r_w0; have r_w0 := n_w0; clear n_w0; clear r_x0; have r_x0 := n_x0; clear n_x0; clear r_x1; have r_x1 := n_x1; clear n_x1; clear r_g0; have r_g0 := n_g0; clear n_g0; clear F_x0; have F_x0 := nF_x0; clear nF_x0; clear F_x1; have F_x1 := nF_x1; clear nF_x1; have HB := nb_; have HZ := nz_; clear nb_ nz_ hb) | ((with_reducible refine gate_callee (f := 31) rfl ?_); (try (refine gate_guard (by rfl) ?_; dsimp only)); refine goesL_ (some 52) rfl rfl Try.func31 (by kernel_rfl) rfl #[.slice A_x0 l0.length c_x0, .int .i64 101] rfl (by (try simp only [List.map_toArray, List.map_cons, List.map_nil]); first | done | rfl) ?_; (refine (laws_markStringS.calls km0 (fun k_ => lo_x0 ≤ k_ ∧ k_ < hi_x0) (.slice A_x0 l0.length c_x0) l0 101 k1_ X0_ w _ (by repeat (first | (with_reducible first | exact HB.out | apply below_alloc | apply pw_below_drewN | apply below_drew1) | exact HB.out)) (by (with_reducible repeat (first | apply Kd.R_alloc | apply Kd.R_drewN | apply Kd.R_drew)); exact r_x0.out) HM0.out).mono ?_); rintro e w1 ⟨rfl, hr, hb, hk⟩; refine ⟨_, rfl, ?_⟩; have nb_ := Aside0.mk hb; have nz_ := Aside0.mk (Nat.le_trans HZ.out hk.1); have n_w0 := Aside0.mk (Kd.S_kept (by (with_reducible repeat (first | apply Kd.S_alloc | apply Kd.S_drewN | apply Kd.S_drew)); exact r_w0.out) hk (fun k_ h_ s_ => by have := O_s0.out; have := O_s1.out; have := O_w0.out; have := O_x0.out; have := O_x1.out; have := O_g0.out; have := O_y0.out; have := O_y1.out; omega)); have n_x1 := Aside0.mk (Kd.R_kept (by (with_reducible repeat (first | apply Kd.R_alloc | apply Kd.R_drewN | apply Kd.R_drew)); exact r_x1.out) hk (fun k_ h_ s_ => by have := O_s0.out; have := O_s1.out; have := O_w0.out; have := O_x0.out; have := O_x1.out; have := O_g0.out; have := O_y0.out; have := O_y1.out; omega)); have n_g0 := Aside0.mk (Kd.S_kept (by (with_reducible repeat (first | apply Kd.S_alloc | apply Kd.S_drewN | apply Kd.S_drew)); exact r_g0.out) hk (fun k_ h_ s_ => by have := O_s0.out; have := O_s1.out; have := O_w0.out; have := O_x0.out; have := O_x1.out; have := O_g0.out; have := O_y0.out; have := O_y1.out; omega)); clear r_x0 hr; clear F_x0 G_x0; clear F_x1 G_x1; clear HB HZ; clear r_w0; have r_w0 := n_w0; clear n_w0; clear r_x1; have r_x1 := n_x1; clear n_x1; clear r_g0; have r_g0 := n_g0; clear n_g0; have HB := nb_; have HZ := nz_; clear nb_ nz_ hb hk) | ((with_reducible refine gate_callee (f := 31) rfl ?_); (try (refine gate_guard (by rfl) ?_; dsimp only)); refine goesL_ (some 55) rfl rfl Try.func31 (by kernel_rfl) rfl #[.slice A_x1 l1.length c_x1, .int .i64 k1_] rfl (by (try simp only [List.map_toArray, List.map_cons, List.map_nil]); first | done | rfl) ?_; (refine (laws_markStringS.calls km1 (fun k_ => lo_x1 ≤ k_ ∧ k_ < hi_x1) (.slice A_x1 l1.length c_x1) l1 k1_ k2_ X1_ w _ (by repeat (first | (with_reducible first | exact HB.out | apply below_alloc | apply pw_below_drewN | apply below_drew1) | exact HB.out)) (by (with_reducible repeat (first | apply Kd.R_alloc | apply Kd.R_drewN | apply Kd.R_drew)); exact r_x1.out) HM1.out).mono ?_); rintro e w1 ⟨rfl, hr, hb, hk⟩; refine ⟨_, rfl, ?_⟩; have nb_ := Aside0.mk hb; have nz_ := Aside0.mk (Nat.le_trans HZ.out hk.1); have n_w0 := Aside0.mk (Kd.S_kept (by (with_reducible repeat (first | apply Kd.S_alloc | apply Kd.S_drewN | apply Kd.S_drew)); exact r_w0.out) hk (fun k_ h_ s_ => by have := O_s0.out; have := O_s1.out; have := O_w0.out; have := O_x0.out; have := O_x1.out; have := O_g0.out; have := O_y0.out; have := O_y1.out; omega)); have n_g0 := Aside0.mk (Kd.S_kept (by (with_reducible repeat (first | apply Kd.S_alloc | apply Kd.S_drewN | apply Kd.S_drew)); exact r_g0.out) hk (fun k_ h_ s_ => by have := O_s0.out; have := O_s1.out; have := O_w0.out; have := O_x0.out; have := O_x1.out; have := O_g0.out; have := O_y0.out; have := O_y1.out; omega)); clear r_x1 hr; clear HB HZ; clear r_w0; have r_w0 := n_w0; clear n_w0; clear r_g0; have r_g0 := n_g0; clear n_g0; have HB := nb_; have HZ := nz_; clear nb_ nz_ hb hk) | ((with_reducible refine gate_callee (f := 29) rfl ?_); (try (refine gate_guard (by rfl) ?_; dsimp only)); refine goesL_ (some 61) rfl rfl Try.func29 (by kernel_rfl) rfl #[.slice A_g0 R.length c_g0, .slice A_w0 R.length c_w0] rfl (by (try simp only [List.map_toArray, List.map_cons, List.map_nil]); first | done | rfl) ?_; (refine (laws_eqDeltaS.calls ke _ _ R _ _ R true _ ((Kd.S_reads' (by (with_reducible repeat (first | apply Kd.S_alloc | apply Kd.S_drewN | apply Kd.S_drew)); exact r_g0.out)).2.2) L_g0.out ((Kd.S_reads' (by (with_reducible repeat (first | apply Kd.S_alloc | apply Kd.S_drewN | apply Kd.S_drew)); exact r_w0.out)).2.2) L_w0.out HE.out).mono ?_); rintro e w1 ⟨rfl, hb⟩; refine ⟨_, rfl, ?_⟩; have nb_ := Aside0.mk (below_step (by repeat (first | (with_reducible first | exact HB.out | apply below_alloc | apply pw_below_drewN | apply below_drew1) | exact HB.out)) hb); have n_w0 := Aside0.mk (Kd.S_below (by (with_reducible repeat (first | apply Kd.S_alloc | apply Kd.S_drewN | apply Kd.S_drew)); exact r_w0.out) hb); have n_g0 := Aside0.mk (Kd.S_below (by (with_reducible repeat (first | apply Kd.S_alloc | apply Kd.S_drewN | apply Kd.S_drew)); exact r_g0.out) hb); have nz_ := Aside0.mk (Nat.le_trans (by exact HZ.out) (below_size hb)); clear HB HZ; clear r_w0; have r_w0 := n_w0; clear n_w0; clear r_g0; have r_g0 := n_g0; clear n_g0; have HB := nb_; have HZ := nz_; clear nb_ nz_ hb) | ((with_reducible refine gate_callee (f := 32) rfl ?_); (try (refine gate_guard (by rfl) ?_; dsimp only)); refine goesL_ (some 66) rfl rfl Try.func32 (by kernel_rfl) rfl #[.slice A_g0 R.length c_g0, .int .i64 101] rfl (by (try simp only [List.map_toArray, List.map_cons, List.map_nil]); first | done | rfl) ?_; (refine (markDSp HMt.out (fun k_ => lo_g0 ≤ k_ ∧ k_ < hi_g0) (.slice A_g0 R.length c_g0) R 101 m_ w _ (by repeat (first | (with_reducible first | exact HB.out | apply below_alloc | apply pw_below_drewN | apply below_drew1) | exact HB.out)) (by (with_reducible repeat (first | apply Kd.S_alloc | apply Kd.S_drewN | apply Kd.S_drew)); exact r_g0.out) (by decide) HGb.out.1 HGb.out.2 HGe.out XG_ HXe.out).mono ?_); rintro e w1 ⟨rfl, hr, hb, hk⟩; refine ⟨_, rfl, ?_⟩; have nb_ := Aside0.mk hb; have nz_ := Aside0.mk (Nat.le_trans HZ.out hk.1); have n_w0 := Aside0.mk (Kd.S_kept (by (with_reducible repeat (first | apply Kd.S_alloc | apply Kd.S_drewN | apply Kd.S_drew)); exact r_w0.out) hk (fun k_ h_ s_ => by have := O_s0.out; have := O_s1.out; have := O_w0.out; have := O_x0.out; have := O_x1.out; have := O_g0.out; have := O_y0.out; have := O_y1.out; omega)); have n_g0 := Aside0.mk hr; clear HB HZ; clear r_w0; have r_w0 := n_w0; clear n_w0; clear r_g0; have r_g0 := n_g0; clear n_g0; have HB := nb_; have HZ := nz_; clear nb_ nz_ hb hk) | ((with_reducible refine gate_callee (f := 33) rfl ?_); (try (refine gate_guard (by rfl) ?_; dsimp only)); refine goesL_ (some 69) rfl rfl Try.func33 (by kernel_rfl) rfl #[.slice A_g0 R.length c_g0, .int .i64 101] rfl (by (try simp only [List.map_toArray, List.map_cons, List.map_nil]); first | done | rfl) ?_; (refine (heldDp kh A_g0 c_g0 XG_ R.length 101 m_ _ HXl.out ((Kd.S_reads' (by (with_reducible repeat (first | apply Kd.S_alloc | apply Kd.S_drewN | apply Kd.S_drew)); exact r_g0.out)).2.2) L_g0.out HH.out).mono ?_); rintro e w1 ⟨rfl, hb⟩; refine ⟨_, rfl, ?_⟩; have nb_ := Aside0.mk (below_step (by repeat (first | (with_reducible first | exact HB.out | apply below_alloc | apply pw_below_drewN | apply below_drew1) | exact HB.out)) hb); have n_w0 := Aside0.mk (Kd.S_below (by (with_reducible repeat (first | apply Kd.S_alloc | apply Kd.S_drewN | apply Kd.S_drew)); exact r_w0.out) hb); have n_g0 := Aside0.mk (Kd.S_below (by (with_reducible repeat (first | apply Kd.S_alloc | apply Kd.S_drewN | apply Kd.S_drew)); exact r_g0.out) hb); have nz_ := Aside0.mk (Nat.le_trans (by exact HZ.out) (below_size hb)); clear HB HZ; clear r_w0; have r_w0 := n_w0; clear n_w0; clear r_g0; have r_g0 := n_g0; clear n_g0; have HB := nb_; have HZ := nz_; clear nb_ nz_ hb) | ((with_reducible refine gate_callee (f := 28) rfl ?_); (try (refine gate_guard (by rfl) ?_; dsimp only)); refine goesL_ (some 76) rfl rfl Try.func28 (by kernel_rfl) rfl #[.slice A0 l0.length c0, .bool true] rfl (by (try simp only [List.map_toArray, List.map_cons, List.map_nil]); first | done | rfl) ?_; (refine (toSp A0 c0 l0 true _ (by exact Kd.C_below HR0.out (by repeat (first | (with_reducible first | exact HB.out | apply below_alloc | apply pw_below_drewN | apply below_drew1) | exact HB.out))) Sm0.out.1).mono ?_); rintro e w1 ⟨A_t0, c_t0, rfl, hl_, hrow_, hf_, hb⟩; refine ⟨_, rfl, ?_⟩; have nb_ := Aside0.mk (below_step (by repeat (first | (with_reducible first | exact HB.out | apply below_alloc | apply pw_below_drewN | apply below_drew1) | exact HB.out)) hb); have n_w0 := Aside0.mk (Kd.S_below (by (with_reducible repeat (first | apply Kd.S_alloc | apply Kd.S_drewN | apply Kd.S_drew)); exact r_w0.out) hb); have n_g0 := Aside0.mk (Kd.S_below (by (with_reducible repeat (first | apply Kd.S_alloc | apply Kd.S_drewN | apply Kd.S_drew)); exact r_g0.out) hb); obtain ⟨lo_t0, hi_t0, ord_, hz_, row_⟩ := R_span hrow_ (by exact HZ.out) (below_size (by repeat (first | (with_reducible first | exact HB.out | apply below_alloc | apply pw_below_drewN | apply below_drew1) | exact HB.out))) (below_size hb); have O_t0 := Aside0.mk ord_; have nz_ := Aside0.mk hz_; have n_t0 := Aside0.mk row_; clear HB HZ; clear r_w0; have r_w0 := n_w0; clear n_w0; clear r_g0; have r_g0 := n_g0; clear n_g0; have r_t0 := n_t0; clear n_t0; have L_t0 := Aside0.mk hl_; have HB := nb_; have HZ := nz_; clear nb_ nz_ hb) | ((with_reducible refine gate_callee (f := 28) rfl ?_); (try (refine gate_guard (by rfl) ?_; dsimp only)); refine goesL_ (some 78) rfl rfl Try.func28 (by kernel_rfl) rfl #[.slice A1 l1.length c1, .bool true] rfl (by (try simp only [List.map_toArray, List.map_cons, List.map_nil]); first | done | rfl) ?_; (refine (toSp A1 c1 l1 true _ (by exact Kd.C_below HR1.out (by repeat (first | (with_reducible first | exact HB.out | apply below_alloc | apply pw_below_drewN | apply below_drew1) | exact HB.out))) Sm1.out.1).mono ?_); rintro e w1 ⟨A_t1, c_t1, rfl, hl_, hrow_, hf_, hb⟩; refine ⟨_, rfl, ?_⟩; have nb_ := Aside0.mk (below_step (by repeat (first | (with_reducible first | exact HB.out | apply below_alloc | apply pw_below_drewN | apply below_drew1) | exact HB.out)) hb); have n_w0 := Aside0.mk (Kd.S_below (by (with_reducible repeat (first | apply Kd.S_alloc | apply Kd.S_drewN | apply Kd.S_drew)); exact r_w0.out) hb); have n_g0 := Aside0.mk (Kd.S_below (by (with_reducible repeat (first | apply Kd.S_alloc | apply Kd.S_drewN | apply Kd.S_drew)); exact r_g0.out) hb); have n_t0 := Aside0.mk (Kd.R_below (by (with_reducible repeat (first | apply Kd.R_alloc | apply Kd.R_drewN | apply Kd.R_drew)); exact r_t0.out) hb); obtain ⟨lo_t1, hi_t1, ord_, hz_, row_⟩ := R_span hrow_ (by exact HZ.out) (below_size (by repeat (first | (with_reducible first | exact HB.out | apply below_alloc | apply pw_below_drewN | apply below_drew1) | exact HB.out))) (below_size hb); have O_t1 := Aside0.mk ord_; have nz_ := Aside0.mk hz_; have n_t1 := Aside0.mk row_; clear HB HZ; clear r_w0; have r_w0 := n_w0; clear n_w0; clear r_g0; have r_g0 := n_g0; clear n_g0; clear r_t0; have r_t0 := n_t0; clear n_t0; have r_t1 := n_t1; clear n_t1; have L_t1 := Aside0.mk hl_; have HB := nb_; have HZ := nz_; clear nb_ nz_ hb) | ((with_reducible refine gate_callee (f := 21) rfl ?_); (try (refine gate_guard (by rfl) ?_; dsimp only)); refine goesL_ (some 79) rfl rfl Try.func21 (by kernel_rfl) rfl #[.slice A_t0 l0.length c_t0, .slice A_t1 l1.length c_t1] rfl (by (try simp only [List.map_toArray, List.map_cons, List.map_nil]); first | done | rfl) ?_; (refine (impl_DeltaOf.calls k2 _ _ l0 _ _ l1 R _ ((Kd.R_reads' (by (with_reducible repeat (first | apply Kd.R_alloc | apply Kd.R_drewN | apply Kd.R_drew)); exact r_t0.out)).2.2) L_t0.out ((Kd.R_reads' (by (with_reducible repeat (first | apply Kd.R_alloc | apply Kd.R_drewN | apply Kd.R_drew)); exact r_t1.out)).2.2) L_t1.out H2.out).mono ?_); rintro e w1 ⟨v_h0, rfl, hrow_, hb⟩; refine ⟨_, rfl, ?_⟩; clear r_t0; clear r_t1; have nb_ := Aside0.mk (below_step (by repeat (first | (with_reducible first | exact HB.out | apply below_alloc | apply pw_below_drewN | apply below_drew1) | exact HB.out)) hb); have n_w0 := Aside0.mk (Kd.S_below (by (with_reducible repeat (first | apply Kd.S_alloc | apply Kd.S_drewN | apply Kd.S_drew)); exact r_w0.out) hb); have n_g0 := Aside0.mk (Kd.S_below (by (with_reducible repeat (first | apply Kd.S_alloc | apply Kd.S_drewN | apply Kd.S_drew)); exact r_g0.out) hb); obtain ⟨lo_h0, hi_h0, ord_, hz_, row_⟩ := S_span hrow_ (by exact HZ.out) (below_size (by repeat (first | (with_reducible first | exact HB.out | apply below_alloc | apply pw_below_drewN | apply below_drew1) | exact HB.out))) (below_size hb); have O_h0 := Aside0.mk ord_; have nz_ := Aside0.mk hz_; have n_h0 := Aside0.mk row_; clear HB HZ; clear r_w0; have r_w0 := n_w0; clear n_w0; clear r_g0; have r_g0 := n_g0; clear n_g0; have r_h0 := n_h0; clear n_h0; have HB := nb_; have HZ := nz_; clear nb_ nz_ hb; obtain ⟨A_h0, c_h0, ev_⟩ := Kd.S_slice r_h0.out; subst ev_; have L_h0 := Aside0.mk (Kd.S_reads' r_h0.out).2.1) | ((with_reducible refine gate_callee (f := 29) rfl ?_); (try (refine gate_guard (by rfl) ?_; dsimp only)); refine goesL_ (some 82) rfl rfl Try.func29 (by kernel_rfl) rfl #[.slice A_h0 R.length c_h0, .slice A_w0 R.length c_w0] rfl (by (try simp only [List.map_toArray, List.map_cons, List.map_nil]); first | done | rfl) ?_; (refine (laws_eqDeltaS.calls ke _ _ R _ _ R true _ ((Kd.S_reads' (by (with_reducible repeat (first | apply Kd.S_alloc | apply Kd.S_drewN | apply Kd.S_drew)); exact r_h0.out)).2.2) L_h0.out ((Kd.S_reads' (by (with_reducible repeat (first | apply Kd.S_alloc | apply Kd.S_drewN | apply Kd.S_drew)); exact r_w0.out)).2.2) L_w0.out HE.out).mono ?_); rintro e w1 ⟨rfl, hb⟩; refine ⟨_, rfl, ?_⟩; have nb_ := Aside0.mk (below_step (by repeat (first | (with_reducible first | exact HB.out | apply below_alloc | apply pw_below_drewN | apply below_drew1) | exact HB.out)) hb); have n_w0 := Aside0.mk (Kd.S_below (by (with_reducible repeat (first | apply Kd.S_alloc | apply Kd.S_drewN | apply Kd.S_drew)); exact r_w0.out) hb); have n_g0 := Aside0.mk (Kd.S_below (by (with_reducible repeat (first | apply Kd.S_alloc | apply Kd.S_drewN | apply Kd.S_drew)); exact r_g0.out) hb); have n_h0 := Aside0.mk (Kd.S_below (by (with_reducible repeat (first | apply Kd.S_alloc | apply Kd.S_drewN | apply Kd.S_drew)); exact r_h0.out) hb); have nz_ := Aside0.mk (Nat.le_trans (by exact HZ.out) (below_size hb)); clear HB HZ; clear r_w0; have r_w0 := n_w0; clear n_w0; clear r_g0; have r_g0 := n_g0; clear n_g0; clear r_h0; have r_h0 := n_h0; clear n_h0; have HB := nb_; have HZ := nz_; clear nb_ nz_ hb) | ((with_reducible refine gate_callee (f := 33) rfl ?_); (try (refine gate_guard (by rfl) ?_; dsimp only)); refine goesL_ (some 86) rfl rfl Try.func33 (by kernel_rfl) rfl #[.slice A_g0 R.length c_g0, .int .i64 101] rfl (by (try simp only [List.map_toArray, List.map_cons, List.map_nil]); first | done | rfl) ?_; (refine (heldDp kh A_g0 c_g0 XG_ R.length 101 m_ _ HXl.out ((Kd.S_reads' (by (with_reducible repeat (first | apply Kd.S_alloc | apply Kd.S_drewN | apply Kd.S_drew)); exact r_g0.out)).2.2) L_g0.out HH.out).mono ?_); rintro e w1 ⟨rfl, hb⟩; refine ⟨_, rfl, ?_⟩; have nb_ := Aside0.mk (below_step (by repeat (first | (with_reducible first | exact HB.out | apply below_alloc | apply pw_below_drewN | apply below_drew1) | exact HB.out)) hb); have n_w0 := Aside0.mk (Kd.S_below (by (with_reducible repeat (first | apply Kd.S_alloc | apply Kd.S_drewN | apply Kd.S_drew)); exact r_w0.out) hb); have n_g0 := Aside0.mk (Kd.S_below (by (with_reducible repeat (first | apply Kd.S_alloc | apply Kd.S_drewN | apply Kd.S_drew)); exact r_g0.out) hb); have n_h0 := Aside0.mk (Kd.S_below (by (with_reducible repeat (first | apply Kd.S_alloc | apply Kd.S_drewN | apply Kd.S_drew)); exact r_h0.out) hb); have nz_ := Aside0.mk (Nat.le_trans (by exact HZ.out) (below_size hb)); clear HB HZ; clear r_w0; have r_w0 := n_w0; clear n_w0; clear r_g0; have r_g0 := n_g0; clear n_g0; clear r_h0; have r_h0 := n_h0; clear n_h0; have HB := nb_; have HZ := nz_; clear nb_ nz_ hb))
    go_ret
    exact ⟨rfl, HB.out⟩
end Go.Proofs.Ytfnhjaiioojbkaa.Q
end
section
/- FnExactDeltaOf: for every argument the law returns true, and its arguments read behind the call as they read before. No conditions. -/
namespace Go.Proofs.Ytfnhjaiioojbkaa.fnExactDeltaOf
open Go.ChangeShapes Go.WideShapes Go.ChangeAt Go.RowKit
set_option linter.unusedVariables false
theorem own : ownKnob Try.prog.godebug = none := by kernel_rfl
theorem laidOut : laidOutB Try.prog = true := by kernel_rfl
set_option maxRecDepth 100000 in
theorem lifted (os : Os) (started : os.Started) (H : Type) (enc : TypeId × Value → H) :
    ReturnsInHanded {} Try.checked os 5 .any (Rows.fnExactDeltaOfSpec.pre6 enc Try.prog Try.f5 Rows.fnExactDeltaOfRow.domain false) (Rows.fnExactDeltaOfSpec.post enc Try.prog Try.f5 false true false false) := by
  refine returnsInHanded_of_change_sized (C := Try.checked) own started (by kernel_rfl) Try.func5
    (ChangeSpec.witness6 (enc := enc) (C := Try.checked) false ⟨#[], #[.slice none 0 0, .slice none 0 0], []⟩ 5 (by kernel_rfl) (by kernel_rfl) (by kernel_rfl) (by kernel_rfl)) ?_
  intro W base args ds gs before hval0 hW hcnd hsz0 _
  have hval : ∀ (j : Nat) t v, Try.f5.params[j]? = some t → args[j]? = some v → Value.okWide Try.prog W .any base t v := hval0
  have hW' := hW
  obtain ⟨p, q, hA0, hV, rfl, hfz, hnd⟩ := hW
  have hA : DataW.TrodAll enc Try.prog W 0 (fun _ => true) true Try.f5.params.toList args.toList ds p := hA0
  rw [Try.params5] at hA hval
  obtain ⟨v0, vs0, d0, ds0, p0, q0, hargs, rfl, rfl, h0, r0⟩ := trodAll_cons hA
  obtain ⟨v1, vs1, d1, ds1, p1, q1, rfl, rfl, rfl, h1, r1⟩ := trodAll_cons r0
  obtain ⟨rfl, rfl, rfl⟩ := trodAll_nil r1
  obtain rfl : args = #[v0, v1] := by cases args; simp_all
  obtain ⟨rfl, rfl⟩ := trodVars_none hV
  obtain ⟨a0, len0, cap0, rfl⟩ := okWide_slice Try.underlying30 (hval 0 30 v0 rfl rfl)
  have k0 := h0
  have lt0 : ∀ x ∈ p0, x.block < W.heap.size := by obtain ⟨m, hm⟩ := k0; exact DataW.trod_lt m _ _ _ hm
  obtain ⟨l0, e0, hc0, hr0, hb0⟩ := Q.opened Q.opens_strs h0
  subst e0
  obtain ⟨a1, len1, cap1, rfl⟩ := okWide_slice Try.underlying30 (hval 1 30 v1 rfl rfl)
  have k1 := h1
  have lt1 : ∀ x ∈ p1, x.block < W.heap.size := by obtain ⟨m, hm⟩ := k1; exact DataW.trod_lt m _ _ _ hm
  obtain ⟨l1, e1, hc1, hr1, hb1⟩ := Q.opened Q.opens_strs h1
  subst e1
  clear hA0 hval0 hsz0
  refine (Q.fnExactDeltaOf_walk a0 cap0 l0 a1 cap1 l1 W hr0 hc0 hb0 hr1 hc1 hb1).mono fun e W' ⟨he, bel⟩ => ?_
  subst he
  exact ⟨_, rfl, _, _, _, [], _, [], hW', trodAll_mk1 (shut_bool Try.underlying4 _), (trodAll_cons_mk (Below.trod laidOut (by kernel_rfl) (of_decide_eq_true (by kernel_rfl)) k0 bel lt0) (trodAll_cons_mk (Below.trod laidOut (by kernel_rfl) (of_decide_eq_true (by kernel_rfl)) k1 bel lt1) trodAll_mk0)), rfl, bel.frame _, fun h => by cases h⟩
theorem over : Rows.fnExactDeltaOfRow.holds Try.pinned (OpenSpec.ofChange Rows.fnExactDeltaOfSpec) :=
  OpenClaim.holds_of_wide 5 Try.f5 rfl rfl rfl rfl rfl rfl rfl ⟨rfl, rfl, rfl, rfl, rfl⟩ rfl rfl rfl rfl rfl (by kernel_rfl) Try.func5 (by kernel_rfl)
    (of_decide_eq_true (by kernel_rfl)) (by unfold Func.isWrapper; first | (rw [if_pos (by decide +kernel)]; kernel_rfl) | (rw [if_neg (by decide +kernel)]; exact ⟨rfl, rfl⟩))
    (fun os started H enc _ => lifted os started H enc)
theorem proved : Rows.FnExactDeltaOfSaid := over
#print axioms proved
end Go.Proofs.Ytfnhjaiioojbkaa.fnExactDeltaOf
namespace Go.Proofs.Ytfnhjaiioojbkaa
/-- The row, under a short name, for the claim. -/
theorem fnExactDeltaOf_holds : Rows.FnExactDeltaOfSaid := fnExactDeltaOf.proved
end Go.Proofs.Ytfnhjaiioojbkaa
end
