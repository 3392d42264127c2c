/- A part of the proof of FnExactPackGet: functions of the program, the reference and the law, each with what its call comes to. Conditions: those that each theorem names. -/
import Derived.Shelf.Abstract
import Derived.Deep.Slices
import Derived.Deep.Strs
import Derived.ChangeArms
import Derived.Test.YtfnhjaiioojbkaaMExactPackGet0
import Derived.Test.YtfnhjaiioojbkaaMExactPackGet1
set_option linter.unusedVariables false
set_option linter.unusedSimpArgs false
section
namespace Go.Proofs.Ytfnhjaiioojbkaa.Q
open Go.RowKit Go.Proofs.YtfnhjaiioojbkaaW.PrintWords Go.Proofs.YtfnhjaiioojbkaaW.PrintLast Go.Proofs.YtfnhjaiioojbkaaW.PrintMore
attribute [local go_sem] max2_int min2_int max_two min_two max_three min_three max_four min_four   -- for this text's walks alone
set_option linter.unusedVariables false
set_option linter.unusedSimpArgs false
def laws_eqDeltaS.l0 : Nat → List (S39) → List (S39) → Int → Option (Bool)
 | 0, _, _, _ => none
 | k + 1, x0, x1, x5 => if x5 < (x0.length : Int) then (if 0 ≤ x5 then (if x5 < (x1.length : Int) then ((laws_eqDelta.f k ((rd_T39 x0 x5).f0) ((rd_T39 x0 x5).f1) ((rd_T39 x0 x5).f2) ((rd_T39 x1 x5).f0) ((rd_T39 x1 x5).f1) ((rd_T39 x1 x5).f2)).bind fun t163 => (if t163 = true then (laws_eqDeltaS.l0 k x0 x1 (wrap64 (x5 + 1))) else (some false))) else (none)) else (none)) else (some true)
def laws_eqDeltaS.f (k : Nat) (l0 : List (S39)) (l1 : List (S39)) : Option (Bool) := if (l0.length : Int) = (l1.length : Int) then (laws_eqDeltaS.l0 k l0 l1 0) else (some false)
def laws_eqDeltaS.T6 : Bool × List (List Nat × List Nat) := (true, [([], []), ([], []), ([0, 1], [0, 1]), ([2], [2]), ([], []), ([], []), ([4, 5], [4, 5]), ([6], [6]), ([3, 7], [3, 7]), ([8], [8])])
def laws_eqDeltaS.B6 : List Nat := [0, 0, 3, 7, 0, 0, 48, 112, 255, 511]
theorem laws_eqDeltaS.tab6 : rtab .any (opsOf Try.f29 6) = laws_eqDeltaS.T6 := by kernel_rfl
theorem laws_eqDeltaS.bits6 : waitsOk laws_eqDeltaS.T6.2 laws_eqDeltaS.B6 = true := by kernel_rfl
set_option maxHeartbeats 8000000 in
set_option maxRecDepth 100000 in
theorem laws_eqDeltaS.calls (k : Nat) (A0 : Option Addr) (c0 : Nat) (l0 : List (S39)) (A1 : Option Addr) (c1 : Nat) (l1 : List (S39)) (r : Bool) (w : World) (hr0 : Kd.C k39 w A0 l0.length l0) (hc0 : l0.length ≤ c0) (hr1 : Kd.C k39 w A1 l1.length l1) (hc1 : l1.length ≤ c1) (h : laws_eqDeltaS.f k l0 l1 = some r) :
 Calls Try.prog 29 #[.slice A0 l0.length c0, .slice A1 l1.length c1] w fun e w' => e = .returned (.bool r) ∧ Below w.heap.size w w' := by
 have hu39 := Try.underlying39; have HR0 := Aside0.mk hr0; have HC0 := Aside0.mk hc0; clear hr0 hc0; have HR1 := Aside0.mk hr1; have HC1 := Aside0.mk hc1; clear hr1 hc1; have HB := Aside0.mk (Below.refl w.heap.size w); have H : (if (l0.length : Int) = (l1.length : Int) then (laws_eqDeltaS.l0 k l0 l1 0) else (some false)) = some r := h; clear h; by_cases c3 : (l0.length : Int) = (l1.length : Int)
 ·rw [if_pos c3] at H; have c3b0 : ((l0.length : Int) == (l1.length : Int)) = true := beq_iff_eq.mpr c3; have c3b1 : ((l0.length : Int) != (l1.length : Int)) = false := bne_eq_false_iff_eq.mpr c3; (have c3b2 : (l0.length == l1.length) = true := by first | simpa using c3 | (simp at c3 ⊢; omega)); clear c3; have H' := Aside0.mk H; clear H; go_enter Try.func29, Try.ntmps29; go_wp2; go_loopg [5] k (fun kq v5 w' => ∃ (x5_1 : Int), v5 = .int .i64 x5_1 ∧ Aside0 (laws_eqDeltaS.l0 kq l0 l1 x5_1 = some r) ∧ Aside0 (kq ≤ k) ∧ Aside0 (Below w.heap.size w w'))
  case atStart => exact ⟨(0), (by first | rfl | (simp; done) | (simp [*]; done)), H', ⟨Nat.le_refl _⟩, ⟨by repeat (first | (with_reducible first | exact HB.out | apply below_alloc | apply pw_below_drewN | apply below_drew1) | exact HB.out)⟩⟩
  case round =>
   clear H'; (try clear c1); (try clear c2); (try clear p2); (try clear c3); (try clear c3b0); (try clear c3b1); (try clear c3b2); obtain ⟨x5_1, rfl, HA, HK1, HB⟩ := hrel
   cases gk with
   | zero => exact absurd HA.out (by simp [laws_eqDeltaS.l0])
   | succ k1 =>
    have H := HA.out; clear HA; simp only [laws_eqDeltaS.l0] at H; by_cases c4 : x5_1 < (l0.length : Int)
    ·rw [if_pos c4] at H; have c4b0 : decide (x5_1 < (l0.length : Int)) = true := decide_eq_true c4; clear c4; by_cases c5 : 0 ≤ x5_1
     ·rw [if_pos c5] at H; have c5b0 : decide (0 ≤ x5_1) = true := decide_eq_true c5; clear c5; by_cases c6 : x5_1 < (l1.length : Int)
      ·rw [if_pos c6] at H; have c6b0 : decide (x5_1 < (l1.length : Int)) = true := decide_eq_true c6; clear c6; replace H := Option.bind_eq_some_iff.mp H; obtain ⟨t163, A70, H⟩ := H; replace H : (if t163 = true then (laws_eqDeltaS.l0 k1 l0 l1 (wrap64 (x5_1 + 1))) else (some false)) = some r := H; have A7 := Aside0.mk A70; clear A70; by_cases c8 : t163 = true
       ·subst c8; (have H1 : (laws_eqDeltaS.l0 k1 l0 l1 (wrap64 (x5_1 + 1))) = some r := by rw [if_pos rfl] at H; exact H); clear H; have H := H1; clear H1; have H' := Aside0.mk H; clear H; (try go_wp2); have n0_ := Aside0.mk (below_drew1 HB.out); clear HB; have HB := n0_; clear n0_; have p161 : 0 ≤ (x5_1 : Int) := of_decide_eq_true (by assumption); have q161 : x5_1 < (l0.length : Int) := of_decide_eq_true (by assumption); obtain ⟨ad161, A161_2, c161_2, e161, hx161_0, hx161_1, hx161_2, hl161_2, hi161_2⟩ := at_T39 HR0.out x5_1 p161 q161; have hw161_2 := hx161_2; have hw161_1 := hx161_1; have hw161_0 := hx161_0; cases e161; replace hx161_0 := (HB.out.cell (World.block_lt_of_cell? w _ hx161_0)).trans hx161_0; replace hx161_1 := (HB.out.cell (World.block_lt_of_cell? w _ hx161_1)).trans hx161_1; replace hx161_2 := (HB.out.cell (World.block_lt_of_cell? w _ hx161_2)).trans hx161_2; have HR161_2 := Aside0.mk hi161_2; have HC161_2 := Aside0.mk hl161_2; clear hi161_2 hl161_2; replace p161 := eq_true p161; replace q161 := eq_true q161; have p162 : 0 ≤ (x5_1 : Int) := of_decide_eq_true (by assumption); have q162 : x5_1 < (l1.length : Int) := of_decide_eq_true (by assumption); obtain ⟨ad162, A162_2, c162_2, e162, hx162_0, hx162_1, hx162_2, hl162_2, hi162_2⟩ := at_T39 HR1.out x5_1 p162 q162; have hw162_2 := hx162_2; have hw162_1 := hx162_1; have hw162_0 := hx162_0; cases e162; replace hx162_0 := (HB.out.cell (World.block_lt_of_cell? w _ hx162_0)).trans hx162_0; replace hx162_1 := (HB.out.cell (World.block_lt_of_cell? w _ hx162_1)).trans hx162_1; replace hx162_2 := (HB.out.cell (World.block_lt_of_cell? w _ hx162_2)).trans hx162_2; have HR162_2 := Aside0.mk hi162_2; have HC162_2 := Aside0.mk hl162_2; clear hi162_2 hl162_2; replace p162 := eq_true p162; replace q162 := eq_true q162; refine start_ (n := 10) (S := fun w' => w'.cell? (ad161.add ((x5_1).toNat * 3)) = some (.int .i64 ((rd_T39 l0 x5_1).f0)) ∧ w'.cell? ⟨(ad161.add ((x5_1).toNat * 3)).block, (ad161.add ((x5_1).toNat * 3)).off + 1, none⟩ = some (.int .i64 ((rd_T39 l0 x5_1).f1)) ∧ w'.cell? ⟨(ad161.add ((x5_1).toNat * 3)).block, (ad161.add ((x5_1).toNat * 3)).off + 2, none⟩ = some (.slice A161_2 ((rd_T39 l0 x5_1).f2).length c161_2) ∧ w'.cell? (ad162.add ((x5_1).toNat * 3)) = some (.int .i64 ((rd_T39 l1 x5_1).f0)) ∧ w'.cell? ⟨(ad162.add ((x5_1).toNat * 3)).block, (ad162.add ((x5_1).toNat * 3)).off + 1, none⟩ = some (.int .i64 ((rd_T39 l1 x5_1).f1)) ∧ w'.cell? ⟨(ad162.add ((x5_1).toNat * 3)).block, (ad162.add ((x5_1).toNat * 3)).off + 2, none⟩ = some (.slice A162_2 ((rd_T39 l1 x5_1).f2).length c162_2)) (ds := []) #[f_, f_, f_, f_, f_, f_, f_, f_, f_, f_] (by kernel_rfl) rfl rfl ⟨((HB.out.cell (World.block_lt_of_cell? w _ hw161_0)).trans hw161_0), ((HB.out.cell (World.block_lt_of_cell? w _ hw161_1)).trans hw161_1), ((HB.out.cell (World.block_lt_of_cell? w _ hw161_2)).trans hw161_2), ((HB.out.cell (World.block_lt_of_cell? w _ hw162_0)).trans hw162_0), ((HB.out.cell (World.block_lt_of_cell? w _ hw162_1)).trans hw162_1), ((HB.out.cell (World.block_lt_of_cell? w _ hw162_2)).trans hw162_2)⟩ (fun hHeld => ?_); refine with_tabW laws_eqDeltaS.tab6 laws_eqDeltaS.bits6 (fun HT_ HW_ => ?_)
        generalize wr.drew = w9 at HB HR161_2 HR162_2 hx161_0 hx161_1 hx161_2 hx162_0 hx162_1 hx162_2 hHeld ⊢; refine pure_ (i := 0) (N := some 17) (v := ?_) (a' := ?_) #[t_, f_, f_, f_, f_, f_, f_, f_, f_, f_] rfl rfl (any_of HT_.out (by kernel_rfl)) (fun _ _ _ h => h) (Or.inl ⟨by rfl, ?_⟩) ?_ ?_
        rotate_left
        ·intro w'; go_simp
         with_reducible rfl
        rotate_left
        ·simp only [Act.put, List.setIfInBounds_toArray, List.set_cons_zero, List.set_cons_succ, i64_w, i32_w]
         rfl
        refine pure_ (i := 1) (N := some 18) (v := ?_) (a' := ?_) #[t_, t_, f_, f_, f_, f_, f_, f_, f_, f_] rfl rfl (any_of HT_.out (by kernel_rfl)) (fun _ _ _ h => h) (Or.inl ⟨by rfl, ?_⟩) ?_ ?_
        rotate_left
        ·intro w'; go_simp
         with_reducible rfl
        rotate_left
        ·simp only [Act.put, List.setIfInBounds_toArray, List.set_cons_zero, List.set_cons_succ, i64_w, i32_w]
         rfl
        refine pure_ (i := 2) (N := some 19) (v := ?_) (a' := ?_) #[t_, t_, t_, f_, f_, f_, f_, f_, f_, f_] rfl rfl (any_of HT_.out (by kernel_rfl)) (fun _ _ _ h => h) (Or.inl ⟨by rfl, ?_⟩) ?_ ?_
        rotate_left
        ·intro w'; go_simp
         with_reducible rfl
        rotate_left
        ·simp only [Act.put, List.setIfInBounds_toArray, List.set_cons_zero, List.set_cons_succ, i64_w, i32_w]
         rfl
        refine pure_ (i := 4) (N := some 21) (v := ?_) (a' := ?_) #[t_, t_, t_, f_, t_, f_, f_, f_, f_, f_] rfl rfl (any_of HT_.out (by kernel_rfl)) (fun _ _ _ h => h) (Or.inl ⟨by rfl, ?_⟩) ?_ ?_
        rotate_left
        ·intro w'; go_simp
         with_reducible rfl
        rotate_left
        ·simp only [Act.put, List.setIfInBounds_toArray, List.set_cons_zero, List.set_cons_succ, i64_w, i32_w]
         rfl
        refine pure_ (i := 5) (N := some 22) (v := ?_) (a' := ?_) #[t_, t_, t_, f_, t_, t_, f_, f_, f_, f_] rfl rfl (any_of HT_.out (by kernel_rfl)) (fun _ _ _ h => h) (Or.inl ⟨by rfl, ?_⟩) ?_ ?_
        rotate_left
        ·intro w'; go_simp
         with_reducible rfl
        rotate_left
        ·simp only [Act.put, List.setIfInBounds_toArray, List.set_cons_zero, List.set_cons_succ, i64_w, i32_w]
         rfl
        refine pure_ (i := 6) (N := some 23) (v := ?_) (a' := ?_) #[t_, t_, t_, f_, t_, t_, t_, f_, f_, f_] rfl rfl (any_of HT_.out (by kernel_rfl)) (fun _ _ _ h => h) (Or.inl ⟨by rfl, ?_⟩) ?_ ?_
        rotate_left
        ·intro w'; go_simp
         with_reducible rfl
        rotate_left
        ·simp only [Act.put, List.setIfInBounds_toArray, List.set_cons_zero, List.set_cons_succ, i64_w, i32_w]
         rfl
        refine take_ (i := 3) (N := some 20) (v := ?_) (a' := ?_) #[t_, t_, t_, t_, t_, t_, t_, f_, f_, f_] rfl rfl (take_ofW HT_.out HW_.out (by kernel_rfl)) (fun _ _ _ h => h) (Or.inl ⟨by rfl, ?_⟩) hHeld ?_ ?_
        rotate_left
        ·rintro w' ⟨s0, s1, s2, s3, s4, s5⟩; go_simp
         with_reducible rfl
        rotate_left
        ·simp only [Act.put, List.setIfInBounds_toArray, List.set_cons_zero, List.set_cons_succ, i64_w, i32_w]
         rfl
        refine take_ (i := 7) (N := some 24) (v := ?_) (a' := ?_) #[t_, t_, t_, t_, t_, t_, t_, t_, f_, f_] rfl rfl (take_ofW HT_.out HW_.out (by kernel_rfl)) (fun _ _ _ h => h) (Or.inl ⟨by rfl, ?_⟩) hHeld ?_ ?_
        rotate_left
        ·rintro w' ⟨s0, s1, s2, s3, s4, s5⟩; go_simp
         with_reducible rfl
        rotate_left
        ·simp only [Act.put, List.setIfInBounds_toArray, List.set_cons_zero, List.set_cons_succ, i64_w, i32_w]
         rfl
        refine one_ (i := 8) (N := some 25) #[t_, t_, t_, t_, t_, t_, t_, t_, t_, f_] rfl rfl (one_of HT_.out (by kernel_rfl)) (by decide) (fun K hK => ?_); refine goes_ Try.func76 (by kernel_rfl) rfl #[.agg #[.int .i64 ((rd_T39 l0 x5_1).f0), .int .i64 ((rd_T39 l0 x5_1).f1), .slice A161_2 ((rd_T39 l0 x5_1).f2).length c161_2], .agg #[.int .i64 ((rd_T39 l1 x5_1).f0), .int .i64 ((rd_T39 l1 x5_1).f1), .slice A162_2 ((rd_T39 l1 x5_1).f2).length c162_2]] (by rfl) rfl rfl (by (try simp only [List.map_toArray, List.map_cons, List.map_nil]); first | done | rfl | (simp only [List.length_drop, List.length_take]; rfl)) ?_
        with_reducible refine (laws_eqDelta.calls k1 ((rd_T39 l0 x5_1).f0) ((rd_T39 l0 x5_1).f1) _ _ ((rd_T39 l0 x5_1).f2) ((rd_T39 l1 x5_1).f0) ((rd_T39 l1 x5_1).f1) _ _ ((rd_T39 l1 x5_1).f2) true _ ?side1 ?side2 ?side3 ?side4 A7.out).mono ?_
        (case side1 => repeat (first | exact (Kd.C_below HR161_2.out HB.out) | (with_reducible refine Kd.C_alloc ?_ _) | (with_reducible refine Kd.C_drewN ?_ _) | (with_reducible refine Kd.C_drew ?_)))
        (case side2 => exact HC161_2.out)
        (case side3 => repeat (first | exact (Kd.C_below HR162_2.out HB.out) | (with_reducible refine Kd.C_alloc ?_ _) | (with_reducible refine Kd.C_drewN ?_ _) | (with_reducible refine Kd.C_drew ?_)))
        (case side4 => exact HC162_2.out)
        rintro e w10 ⟨rfl, hb⟩; refine ⟨_, rfl, ?_⟩; have n0_ := Aside0.mk (below_step (by repeat (first | (with_reducible first | exact HB.out | apply below_alloc | apply pw_below_drewN | apply below_drew1) | exact HB.out)) hb); clear HB; have HB := n0_; clear n0_
        (try clear hb)
        (try clear hb2)
        (try clear hk)
        (try clear hi)
        refine hK.out _ _ ⟨((HB.out.cell (World.block_lt_of_cell? w _ hw161_0)).trans hw161_0), ((HB.out.cell (World.block_lt_of_cell? w _ hw161_1)).trans hw161_1), ((HB.out.cell (World.block_lt_of_cell? w _ hw161_2)).trans hw161_2), ((HB.out.cell (World.block_lt_of_cell? w _ hw162_0)).trans hw162_0), ((HB.out.cell (World.block_lt_of_cell? w _ hw162_1)).trans hw162_1), ((HB.out.cell (World.block_lt_of_cell? w _ hw162_2)).trans hw162_2)⟩ (fun hHeld => ?_); clear hK K; refine norm_ (a' := ?_) ?_ ?_
        rotate_left
        ·show Act.put _ (some 25) _ = _
         simp only [Act.put, List.setIfInBounds_toArray, List.set_cons_zero, List.set_cons_succ, i64_w, i32_w]
         rfl
        refine pure_ (i := 9) (N := some 26) (v := ?_) (a' := ?_) #[t_, t_, t_, t_, t_, t_, t_, t_, t_, t_] rfl rfl (any_of HT_.out (by kernel_rfl)) (fun _ _ _ h => h) (Or.inl ⟨by rfl, ?_⟩) ?_ ?_
        rotate_left
        ·intro w'; go_simp
         with_reducible rfl
        rotate_left
        ·simp only [Act.put, List.setIfInBounds_toArray, List.set_cons_zero, List.set_cons_succ, i64_w, i32_w]
         rfl
        refine done_ (done_of HT_.out (by kernel_rfl)) ?_; (try go_wp2); go_roundg k1
        case measure => have := HK1.out; omega
        case rel => exact ⟨(wrap64 (x5_1 + 1)), (by first | rfl | (simp; done) | (simp [*]; done)), H', ⟨by have := HK1.out; omega⟩, ⟨by repeat (first | (with_reducible first | exact HB.out | apply below_alloc | apply pw_below_drewN | apply below_drew1) | exact HB.out)⟩⟩
       ·replace c8 := Bool.eq_false_iff.mpr c8; subst c8; (have H1 : (some false) = some r := by rw [if_neg (show ¬ (false = true) by decide)] at H; exact H); clear H; have H := H1; clear H1; obtain rfl := Option.some.inj H; (try go_wp2); have n0_ := Aside0.mk (below_drew1 HB.out); clear HB; have HB := n0_; clear n0_; have p161 : 0 ≤ (x5_1 : Int) := of_decide_eq_true (by assumption); have q161 : x5_1 < (l0.length : Int) := of_decide_eq_true (by assumption); obtain ⟨ad161, A161_2, c161_2, e161, hx161_0, hx161_1, hx161_2, hl161_2, hi161_2⟩ := at_T39 HR0.out x5_1 p161 q161; have hw161_2 := hx161_2; have hw161_1 := hx161_1; have hw161_0 := hx161_0; cases e161; replace hx161_0 := (HB.out.cell (World.block_lt_of_cell? w _ hx161_0)).trans hx161_0; replace hx161_1 := (HB.out.cell (World.block_lt_of_cell? w _ hx161_1)).trans hx161_1; replace hx161_2 := (HB.out.cell (World.block_lt_of_cell? w _ hx161_2)).trans hx161_2; have HR161_2 := Aside0.mk hi161_2; have HC161_2 := Aside0.mk hl161_2; clear hi161_2 hl161_2; replace p161 := eq_true p161; replace q161 := eq_true q161; have p162 : 0 ≤ (x5_1 : Int) := of_decide_eq_true (by assumption); have q162 : x5_1 < (l1.length : Int) := of_decide_eq_true (by assumption); obtain ⟨ad162, A162_2, c162_2, e162, hx162_0, hx162_1, hx162_2, hl162_2, hi162_2⟩ := at_T39 HR1.out x5_1 p162 q162; have hw162_2 := hx162_2; have hw162_1 := hx162_1; have hw162_0 := hx162_0; cases e162; replace hx162_0 := (HB.out.cell (World.block_lt_of_cell? w _ hx162_0)).trans hx162_0; replace hx162_1 := (HB.out.cell (World.block_lt_of_cell? w _ hx162_1)).trans hx162_1; replace hx162_2 := (HB.out.cell (World.block_lt_of_cell? w _ hx162_2)).trans hx162_2; have HR162_2 := Aside0.mk hi162_2; have HC162_2 := Aside0.mk hl162_2; clear hi162_2 hl162_2; replace p162 := eq_true p162; replace q162 := eq_true q162; refine start_ (n := 10) (S := fun w' => w'.cell? (ad161.add ((x5_1).toNat * 3)) = some (.int .i64 ((rd_T39 l0 x5_1).f0)) ∧ w'.cell? ⟨(ad161.add ((x5_1).toNat * 3)).block, (ad161.add ((x5_1).toNat * 3)).off + 1, none⟩ = some (.int .i64 ((rd_T39 l0 x5_1).f1)) ∧ w'.cell? ⟨(ad161.add ((x5_1).toNat * 3)).block, (ad161.add ((x5_1).toNat * 3)).off + 2, none⟩ = some (.slice A161_2 ((rd_T39 l0 x5_1).f2).length c161_2) ∧ w'.cell? (ad162.add ((x5_1).toNat * 3)) = some (.int .i64 ((rd_T39 l1 x5_1).f0)) ∧ w'.cell? ⟨(ad162.add ((x5_1).toNat * 3)).block, (ad162.add ((x5_1).toNat * 3)).off + 1, none⟩ = some (.int .i64 ((rd_T39 l1 x5_1).f1)) ∧ w'.cell? ⟨(ad162.add ((x5_1).toNat * 3)).block, (ad162.add ((x5_1).toNat * 3)).off + 2, none⟩ = some (.slice A162_2 ((rd_T39 l1 x5_1).f2).length c162_2)) (ds := []) #[f_, f_, f_, f_, f_, f_, f_, f_, f_, f_] (by kernel_rfl) rfl rfl ⟨((HB.out.cell (World.block_lt_of_cell? w _ hw161_0)).trans hw161_0), ((HB.out.cell (World.block_lt_of_cell? w _ hw161_1)).trans hw161_1), ((HB.out.cell (World.block_lt_of_cell? w _ hw161_2)).trans hw161_2), ((HB.out.cell (World.block_lt_of_cell? w _ hw162_0)).trans hw162_0), ((HB.out.cell (World.block_lt_of_cell? w _ hw162_1)).trans hw162_1), ((HB.out.cell (World.block_lt_of_cell? w _ hw162_2)).trans hw162_2)⟩ (fun hHeld => ?_); refine with_tabW laws_eqDeltaS.tab6 laws_eqDeltaS.bits6 (fun HT_ HW_ => ?_)
        generalize wr.drew = w11 at HB HR161_2 HR162_2 hx161_0 hx161_1 hx161_2 hx162_0 hx162_1 hx162_2 hHeld ⊢; refine pure_ (i := 0) (N := some 17) (v := ?_) (a' := ?_) #[t_, f_, f_, f_, f_, f_, f_, f_, f_, f_] rfl rfl (any_of HT_.out (by kernel_rfl)) (fun _ _ _ h => h) (Or.inl ⟨by rfl, ?_⟩) ?_ ?_
        rotate_left
        ·intro w'; go_simp
         with_reducible rfl
        rotate_left
        ·simp only [Act.put, List.setIfInBounds_toArray, List.set_cons_zero, List.set_cons_succ, i64_w, i32_w]
         rfl
        refine pure_ (i := 1) (N := some 18) (v := ?_) (a' := ?_) #[t_, t_, f_, f_, f_, f_, f_, f_, f_, f_] rfl rfl (any_of HT_.out (by kernel_rfl)) (fun _ _ _ h => h) (Or.inl ⟨by rfl, ?_⟩) ?_ ?_
        rotate_left
        ·intro w'; go_simp
         with_reducible rfl
        rotate_left
        ·simp only [Act.put, List.setIfInBounds_toArray, List.set_cons_zero, List.set_cons_succ, i64_w, i32_w]
         rfl
        refine pure_ (i := 2) (N := some 19) (v := ?_) (a' := ?_) #[t_, t_, t_, f_, f_, f_, f_, f_, f_, f_] rfl rfl (any_of HT_.out (by kernel_rfl)) (fun _ _ _ h => h) (Or.inl ⟨by rfl, ?_⟩) ?_ ?_
        rotate_left
        ·intro w'; go_simp
         with_reducible rfl
        rotate_left
        ·simp only [Act.put, List.setIfInBounds_toArray, List.set_cons_zero, List.set_cons_succ, i64_w, i32_w]
         rfl
        refine pure_ (i := 4) (N := some 21) (v := ?_) (a' := ?_) #[t_, t_, t_, f_, t_, f_, f_, f_, f_, f_] rfl rfl (any_of HT_.out (by kernel_rfl)) (fun _ _ _ h => h) (Or.inl ⟨by rfl, ?_⟩) ?_ ?_
        rotate_left
        ·intro w'; go_simp
         with_reducible rfl
        rotate_left
        ·simp only [Act.put, List.setIfInBounds_toArray, List.set_cons_zero, List.set_cons_succ, i64_w, i32_w]
         rfl
        refine pure_ (i := 5) (N := some 22) (v := ?_) (a' := ?_) #[t_, t_, t_, f_, t_, t_, f_, f_, f_, f_] rfl rfl (any_of HT_.out (by kernel_rfl)) (fun _ _ _ h => h) (Or.inl ⟨by rfl, ?_⟩) ?_ ?_
        rotate_left
        ·intro w'; go_simp
         with_reducible rfl
        rotate_left
        ·simp only [Act.put, List.setIfInBounds_toArray, List.set_cons_zero, List.set_cons_succ, i64_w, i32_w]
         rfl
        refine pure_ (i := 6) (N := some 23) (v := ?_) (a' := ?_) #[t_, t_, t_, f_, t_, t_, t_, f_, f_, f_] rfl rfl (any_of HT_.out (by kernel_rfl)) (fun _ _ _ h => h) (Or.inl ⟨by rfl, ?_⟩) ?_ ?_
        rotate_left
        ·intro w'; go_simp
         with_reducible rfl
        rotate_left
        ·simp only [Act.put, List.setIfInBounds_toArray, List.set_cons_zero, List.set_cons_succ, i64_w, i32_w]
         rfl
        refine take_ (i := 3) (N := some 20) (v := ?_) (a' := ?_) #[t_, t_, t_, t_, t_, t_, t_, f_, f_, f_] rfl rfl (take_ofW HT_.out HW_.out (by kernel_rfl)) (fun _ _ _ h => h) (Or.inl ⟨by rfl, ?_⟩) hHeld ?_ ?_
        rotate_left
        ·rintro w' ⟨s0, s1, s2, s3, s4, s5⟩; go_simp
         with_reducible rfl
        rotate_left
        ·simp only [Act.put, List.setIfInBounds_toArray, List.set_cons_zero, List.set_cons_succ, i64_w, i32_w]
         rfl
        refine take_ (i := 7) (N := some 24) (v := ?_) (a' := ?_) #[t_, t_, t_, t_, t_, t_, t_, t_, f_, f_] rfl rfl (take_ofW HT_.out HW_.out (by kernel_rfl)) (fun _ _ _ h => h) (Or.inl ⟨by rfl, ?_⟩) hHeld ?_ ?_
        rotate_left
        ·rintro w' ⟨s0, s1, s2, s3, s4, s5⟩; go_simp
         with_reducible rfl
        rotate_left
        ·simp only [Act.put, List.setIfInBounds_toArray, List.set_cons_zero, List.set_cons_succ, i64_w, i32_w]
         rfl
        refine one_ (i := 8) (N := some 25) #[t_, t_, t_, t_, t_, t_, t_, t_, t_, f_] rfl rfl (one_of HT_.out (by kernel_rfl)) (by decide) (fun K hK => ?_); refine goes_ Try.func76 (by kernel_rfl) rfl #[.agg #[.int .i64 ((rd_T39 l0 x5_1).f0), .int .i64 ((rd_T39 l0 x5_1).f1), .slice A161_2 ((rd_T39 l0 x5_1).f2).length c161_2], .agg #[.int .i64 ((rd_T39 l1 x5_1).f0), .int .i64 ((rd_T39 l1 x5_1).f1), .slice A162_2 ((rd_T39 l1 x5_1).f2).length c162_2]] (by rfl) rfl rfl (by (try simp only [List.map_toArray, List.map_cons, List.map_nil]); first | done | rfl | (simp only [List.length_drop, List.length_take]; rfl)) ?_
        with_reducible refine (laws_eqDelta.calls k1 ((rd_T39 l0 x5_1).f0) ((rd_T39 l0 x5_1).f1) _ _ ((rd_T39 l0 x5_1).f2) ((rd_T39 l1 x5_1).f0) ((rd_T39 l1 x5_1).f1) _ _ ((rd_T39 l1 x5_1).f2) false _ ?side1 ?side2 ?side3 ?side4 A7.out).mono ?_
        (case side1 => repeat (first | exact (Kd.C_below HR161_2.out HB.out) | (with_reducible refine Kd.C_alloc ?_ _) | (with_reducible refine Kd.C_drewN ?_ _) | (with_reducible refine Kd.C_drew ?_)))
        (case side2 => exact HC161_2.out)
        (case side3 => repeat (first | exact (Kd.C_below HR162_2.out HB.out) | (with_reducible refine Kd.C_alloc ?_ _) | (with_reducible refine Kd.C_drewN ?_ _) | (with_reducible refine Kd.C_drew ?_)))
        (case side4 => exact HC162_2.out)
        rintro e w12 ⟨rfl, hb⟩; refine ⟨_, rfl, ?_⟩; have n0_ := Aside0.mk (below_step (by repeat (first | (with_reducible first | exact HB.out | apply below_alloc | apply pw_below_drewN | apply below_drew1) | exact HB.out)) hb); clear HB; have HB := n0_; clear n0_
        (try clear hb)
        (try clear hb2)
        (try clear hk)
        (try clear hi)
        refine hK.out _ _ ⟨((HB.out.cell (World.block_lt_of_cell? w _ hw161_0)).trans hw161_0), ((HB.out.cell (World.block_lt_of_cell? w _ hw161_1)).trans hw161_1), ((HB.out.cell (World.block_lt_of_cell? w _ hw161_2)).trans hw161_2), ((HB.out.cell (World.block_lt_of_cell? w _ hw162_0)).trans hw162_0), ((HB.out.cell (World.block_lt_of_cell? w _ hw162_1)).trans hw162_1), ((HB.out.cell (World.block_lt_of_cell? w _ hw162_2)).trans hw162_2)⟩ (fun hHeld => ?_); clear hK K; refine norm_ (a' := ?_) ?_ ?_
        rotate_left
        ·show Act.put _ (some 25) _ = _
         simp only [Act.put, List.setIfInBounds_toArray, List.set_cons_zero, List.set_cons_succ, i64_w, i32_w]
         rfl
        refine pure_ (i := 9) (N := some 26) (v := ?_) (a' := ?_) #[t_, t_, t_, t_, t_, t_, t_, t_, t_, t_] rfl rfl (any_of HT_.out (by kernel_rfl)) (fun _ _ _ h => h) (Or.inl ⟨by rfl, ?_⟩) ?_ ?_
        rotate_left
        ·intro w'; go_simp
         with_reducible rfl
        rotate_left
        ·simp only [Act.put, List.setIfInBounds_toArray, List.set_cons_zero, List.set_cons_succ, i64_w, i32_w]
         rfl
        refine done_ (done_of HT_.out (by kernel_rfl)) ?_; (try go_wp2); go_ret; exact ⟨by first | rfl | (simp <;> rfl) | (simp [*] <;> rfl), by repeat (first | (with_reducible first | exact HB.out | apply below_alloc | apply pw_below_drewN | apply below_drew1) | exact HB.out)⟩
      ·rw [if_neg c6] at H; exact absurd H (by simp)
     ·rw [if_neg c5] at H; exact absurd H (by simp)
    ·rw [if_neg c4] at H; have c4b0 : decide (x5_1 < (l0.length : Int)) = false := decide_eq_false c4; clear c4; obtain rfl := Option.some.inj H; go_wp2; go_ret; exact ⟨by first | rfl | (simp <;> rfl) | (simp [*] <;> rfl), by repeat (first | (with_reducible first | exact HB.out | apply below_alloc | apply pw_below_drewN | apply below_drew1) | exact HB.out)⟩
 ·rw [if_neg c3] at H; have c3b0 : ((l0.length : Int) == (l1.length : Int)) = false := beq_eq_false_iff_ne.mpr c3; have c3b1 : ((l0.length : Int) != (l1.length : Int)) = true := bne_iff_ne.mpr c3; (have c3b2 : (l0.length == l1.length) = false := by first | simpa using c3 | (simp at c3 ⊢; omega)); obtain rfl := Option.some.inj H; go_enter Try.func29, Try.ntmps29; go_wp2; go_ret; exact ⟨by first | rfl | (simp <;> rfl) | (simp [*] <;> rfl), by repeat (first | (with_reducible first | exact HB.out | apply below_alloc | apply pw_below_drewN | apply below_drew1) | exact HB.out)⟩
end Go.Proofs.Ytfnhjaiioojbkaa.Q
end
section
namespace Go.Proofs.Ytfnhjaiioojbkaa.Q
open Go.RowKit Go.Proofs.YtfnhjaiioojbkaaW.PrintWords Go.Proofs.YtfnhjaiioojbkaaW.PrintLast Go.Proofs.YtfnhjaiioojbkaaW.PrintMore
attribute [local go_sem] max2_int min2_int max_two min_two max_three min_three max_four min_four   -- for this text's walks alone
set_option linter.unusedVariables false
set_option linter.unusedSimpArgs false
def laws_roomBehind.f (a0 : Int) : Option (Int) := if (Int.tmod a0 6) = 5 then (some 0) else (if (Int.tmod a0 3) = 0 then (some 1) else (some a0))
set_option maxHeartbeats 8000000 in
set_option maxRecDepth 100000 in
theorem laws_roomBehind.calls (a0 : Int) (r : Int) (w : World) (h : laws_roomBehind.f a0 = some r) :
 Calls Try.prog 62 #[.int .i64 a0] w fun e w' => e = .returned (.int .i64 r) ∧ Drawn0 w w' := by
 have H : (if (Int.tmod a0 6) = 5 then (some 0) else (if (Int.tmod a0 3) = 0 then (some 1) else (some a0))) = some r := h; clear h; by_cases c2 : (Int.tmod a0 6) = 5
 ·rw [if_pos c2] at H; have c2b0 : ((Int.tmod a0 6) == 5) = true := beq_iff_eq.mpr c2; have c2b1 : ((Int.tmod a0 6) != 5) = false := bne_eq_false_iff_eq.mpr c2; clear c2; obtain rfl := Option.some.inj H; go_enter Try.func62, Try.ntmps62; go_wp2; go_ret; exact ⟨by first | rfl | (simp; done) | (simp [*]; done), by repeat (first | exact Drawn0.refl _ | apply Drawn0.step)⟩
 ·rw [if_neg c2] at H; have c2b0 : ((Int.tmod a0 6) == 5) = false := beq_eq_false_iff_ne.mpr c2; have c2b1 : ((Int.tmod a0 6) != 5) = true := bne_iff_ne.mpr c2; by_cases c3 : (Int.tmod a0 3) = 0
  ·rw [if_pos c3] at H; have c3b0 : ((Int.tmod a0 3) == 0) = true := beq_iff_eq.mpr c3; have c3b1 : ((Int.tmod a0 3) != 0) = false := bne_eq_false_iff_eq.mpr c3; clear c3; obtain rfl := Option.some.inj H; go_enter Try.func62, Try.ntmps62; go_wp2; go_ret; exact ⟨by first | rfl | (simp; done) | (simp [*]; done), by repeat (first | exact Drawn0.refl _ | apply Drawn0.step)⟩
  ·rw [if_neg c3] at H; have c3b0 : ((Int.tmod a0 3) == 0) = false := beq_eq_false_iff_ne.mpr c3; have c3b1 : ((Int.tmod a0 3) != 0) = true := bne_iff_ne.mpr c3; obtain rfl := Option.some.inj H; go_enter Try.func62, Try.ntmps62; go_wp2; go_ret; exact ⟨by first | rfl | (simp; done) | (simp [*]; done), by repeat (first | exact Drawn0.refl _ | apply Drawn0.step)⟩
end Go.Proofs.Ytfnhjaiioojbkaa.Q
end
section
namespace Go.Proofs.Ytfnhjaiioojbkaa.Q
open Go.RowKit Go.Proofs.YtfnhjaiioojbkaaW.PrintWords
set_option linter.unusedVariables false
set_option linter.unusedSimpArgs false
/-- A slice of n elements, told with all that lies up to its capacity's end as far as is known. -/
def fsl {α : Type} (e : Nat) (d : Kd α) : Kd (List α × Nat) where
  sz := 1
  E := e :: d.E
  K := fun w x cs => ∃ A c, cs = [.slice A x.2 c] ∧ x.2 ≤ x.1.length ∧ x.1.length ≤ c ∧ d.C w A x.1.length x.1
  M := fun w base ok x cs => ∃ A c, cs = [.slice A x.2 c] ∧ x.2 ≤ x.1.length ∧ d.R e w base ok (.slice A x.1.length c) x.1
  K_len := by
    rintro w x cs ⟨A, c, rfl, _⟩
    rfl
  K_one := by
    rintro w x cs ⟨A, c, rfl, _⟩ u hu
    rw [List.mem_singleton.1 hu]
    rfl
  K_below := by
    rintro w w1 x cs hb ⟨A, c, rfl, hn, hl, hr⟩
    exact ⟨A, c, rfl, hn, hl, Kd.C_below hr hb⟩
  K_of_M := by
    rintro w base ok x cs ⟨A, c, rfl, hn, h⟩
    obtain ⟨_, hl, hr⟩ := Kd.R_reads' h
    exact ⟨A, c, rfl, hn, hl, hr⟩
  M_mono := by
    rintro w base ok ok' x cs hok ⟨A, c, rfl, hn, h⟩
    exact ⟨A, c, rfl, hn, Kd.R_mono h hok⟩
  M_bound := by
    rintro w base ok x cs ⟨A, c, rfl, hn, h⟩
    exact ⟨A, c, rfl, hn, Kd.R_bound h⟩
  M_move := by
    rintro w w1 base ok x cs hm ⟨A, c, rfl, hn, h⟩
    exact ⟨A, c, rfl, hn, Kd.R_move h hm⟩
  M_lower := by
    rintro w base base' ok x cs hb ⟨A, c, rfl, hn, h⟩
    exact ⟨A, c, rfl, hn, Kd.R_lower h hb⟩
/-- How much lies behind n elements. -/
def room (n : Nat) : Nat := if n % 6 = 5 then 0 else if n % 3 = 0 then 1 else n
theorem room_ev (n : Nat) : laws_roomBehind.f (n : Int) = some (room n : Int) := by
  unfold laws_roomBehind.f room
  rw [Int.tmod_eq_emod_of_nonneg (by omega), Int.tmod_eq_emod_of_nonneg (by omega)]
  by_cases h1 : n % 6 = 5
  · rw [if_pos (by omega), if_pos h1]; rfl
  · rw [if_neg (by omega), if_neg h1]
    by_cases h2 : n % 3 = 0
    · rw [if_pos (by omega), if_pos h2]; rfl
    · rw [if_neg (by omega), if_neg h2]
def spareS : ByteArray := ⟨#[126, 115, 112, 97, 114, 101, 126]⟩
def fulS (b : Bool) (l : List ByteArray) : List ByteArray × Nat := if b = true ∧ l = [] then ([], 0) else (l ++ List.replicate (room l.length) spareS, l.length)
end Go.Proofs.Ytfnhjaiioojbkaa.Q
end
section
namespace Go.Proofs.Ytfnhjaiioojbkaa.Q
open Go.RowKit Go.Proofs.YtfnhjaiioojbkaaW.PrintWords Go.Proofs.YtfnhjaiioojbkaaW.PrintLast Go.Proofs.YtfnhjaiioojbkaaW.PrintMore
attribute [local go_sem] max2_int min2_int max_two min_two max_three min_three max_four min_four
set_option linter.unusedVariables false
set_option linter.unusedSimpArgs false
theorem fill_set {α : Type} (p : List α) (m : Nat) (z a : α) (i : Nat) (hi : i = p.length) (hm : 0 < m) : (p ++ List.replicate m z).set i a = (p ++ [a]) ++ List.replicate (m - 1) z := by
  subst hi
  obtain ⟨m, rfl⟩ : ∃ n, m = n + 1 := ⟨m - 1, by omega⟩
  simp [List.replicate_succ]
set_option maxHeartbeats 4000000 in
theorem toS_calls (A0 : Option Addr) (c0 : Nat) (l0 : List ByteArray) (b : Bool) (w : World) (hr0 : Kd.C Kd.string w A0 l0.length l0) (hl : l0.length ≤ 1000000) :
    Calls Try.prog 28 #[.slice A0 l0.length c0, .bool b] w fun e w' => ∃ A c, e = .returned (.slice A (fulS b l0).2 c) ∧ (fulS b l0).2 ≤ (fulS b l0).1.length ∧
      Kd.R Kd.string 9 w' w.heap.size (fun k => w.heap.size ≤ k) (.slice A (fulS b l0).1.length c) (fulS b l0).1 ∧ Below w.heap.size w w' := by
  have HR0 := Aside0.mk hr0
  have HL := Aside0.mk hl
  have HB := Aside0.mk (Below.refl w.heap.size w)
  clear hr0 hl
  obtain ⟨F, hF⟩ : ∃ F, fulS b l0 = F := ⟨_, rfl⟩
  rw [hF]
  have HF := Aside0.mk hF
  clear hF
  go_enter Try.func28, Try.ntmps28
  go_upto_region 1 with (fail)
  go_cut [13] (fun v13 wc => v13 = .bool (b && ((l0.length : Int) == 0)) ∧ Aside0 (Below w.heap.size w wc))
  case first =>
    cases b
    · go_wp2
      go_meet
      case rel => exact ⟨rfl, ⟨by repeat (first | (with_reducible first | exact HB.out | apply below_alloc | apply pw_below_drewN | apply below_drew1) | exact HB.out)⟩⟩
    · go_wp2
      go_meet
      case rel => exact ⟨rfl, ⟨by repeat (first | (with_reducible first | exact HB.out | apply below_alloc | apply pw_below_drewN | apply below_drew1) | exact HB.out)⟩⟩
  case rest =>
    clear HB
    obtain ⟨rfl, HB⟩ := hcut
    by_cases hb : b = true ∧ l0 = []
    · have hf : fulS b l0 = ([], 0) := if_pos hb
      have hF := HF.out.symm.trans hf
      subst hF
      obtain ⟨rfl, rfl⟩ := hb
      go_wp2
      go_ret
      exact ⟨none, 0, rfl, Kd.R_nil _ _ _ _ _, HB.out⟩
    · have hf : fulS b l0 = (l0 ++ List.replicate (room l0.length) spareS, l0.length) := if_neg hb
      have HF2 := Aside0.mk (HF.out.symm.trans hf)
      have hc : (b && ((l0.length : Int) == 0)) = false := by
        cases b
        · rfl
        · simp only [Bool.true_and, beq_eq_false_iff_ne, ne_eq]
          intro h
          exact hb ⟨rfl, List.length_eq_zero_iff.mp (by omega)⟩
      rw [hc]
      clear hc hb hf HF
      have R9 := room_ev l0.length
      have hrl : room l0.length ≤ 1000000 := by
        have := HL.out
        unfold room
        repeat' split
        all_goals omega
      obtain ⟨N, hN⟩ : ∃ N, l0.length + room l0.length = N := ⟨_, rfl⟩
      have HN := Aside0.mk hN
      have HNb := Aside0.mk (show N ≤ 2000000 by have := HL.out; omega)
      have hw : wrap64 ((l0.length : Int) + (room l0.length : Int)) = (N : Int) := by
        have := HL.out
        unfold wrap64; omega
      have hw2 : (IntKind.i64.wrap ((l0.length : Int) + (room l0.length : Int))) = (N : Int) := (i64_w _).trans hw
      have hN2 : (N : Int).toNat ≤ 17592186044416 := by have := HL.out; omega
      have h0 : 0 ≤ (N : Int) := by omega
      have R9 := Aside0.mk R9
      clear hrl hN
      go_wp2_with (first | ((with_reducible refine gate_callee (f := 62) rfl ?_); refine goesL_ (some 18) rfl rfl Try.func62 (by kernel_rfl) rfl #[.int .i64 (l0.length : Int)] rfl (by (try simp only [List.map_toArray, List.map_cons, List.map_nil]); first | done | rfl) ?_; (with_reducible refine (laws_roomBehind.calls (l0.length : Int) _ _ R9.out).mono ?_); rintro e w' ⟨rfl, ⟨nd, rfl⟩⟩; refine ⟨_, rfl, ?_⟩) | ((with_reducible refine gate_dst (N := 20) rfl ?_); (try (refine gate_guard (by rfl) ?_; dsimp only)); refine Kd.R_make Kd.string _ 9 rfl (N := 20) rfl 30 _ _ rfl (N : Int) rfl rfl Try.underlying30 (.string ⟨#[]⟩) 16 info9 rfl (by decide) (by omega) (⟨#[]⟩ : ByteArray) (ok := fun _ => True) (okp := fun _ => True) rfl (fun _ hk => hk) trivial h0 (Nat.le_trans (Nat.mul_le_mul_right _ hN2) (by omega)) (Below.refl _ _) (Nat.le_refl _) ?_; intro v111 w10 ho11 hb hg_ hnew_; clear hg_ hnew_; have n0_ := Aside0.mk (Kd.R_lower ho11 (below_size (by repeat (first | (with_reducible first | exact HB.out | apply below_alloc | apply pw_below_drewN | apply below_drew1) | exact HB.out)))); have n1_ := Aside0.mk (below_step (by repeat (first | (with_reducible first | exact HB.out | apply below_alloc | apply pw_below_drewN | apply below_drew1) | exact HB.out)) hb); clear HB; have HO := n0_; have HB := n1_; clear n0_ n1_; clear hb ho11))
      clear hw hw2 hN2 h0 R9
      have hst : List.replicate (N : Int).toNat (⟨#[]⟩ : ByteArray) = l0.take 0 ++ List.replicate (N - 0) ⟨#[]⟩ := by simp
      rw [hst] at HO
      clear hst
      obtain ⟨Ao, co, eo⟩ := Kd.R_slice HO.out
      subst eo
      rw [show (l0.take 0 ++ List.replicate (N - 0) (⟨#[]⟩ : ByteArray)).length = N by simp] at HO ⊢
      go_loopg [6] l0.length (fun gg v6 wr => ∃ i : Nat, v6 = .int .i64 i ∧ i ≤ l0.length ∧ l0.length - i ≤ gg ∧ Aside0 (Kd.R Kd.string 9 wr w.heap.size (fun _ => True) (.slice Ao N co) (l0.take i ++ List.replicate (N - i) (⟨#[]⟩ : ByteArray))) ∧ Aside0 (Below w.heap.size w wr))
      case atStart => exact ⟨0, rfl, Nat.zero_le _, by omega, HO, HB⟩
      case round =>
        clear HO HB
        obtain ⟨i, rfl, hi, hg, HO, HB⟩ := hrel
        by_cases hlt : i < l0.length
        · have hlN : i < N := by have := HN.out; omega
          have HLT := Aside0.mk hlt
          have hib : i ≤ 1000000 := by have := HL.out; omega
          have hltz : (i : Int) < (l0.length : Int) := by omega
          have hlen : (l0.take i ++ List.replicate (N - i) (⟨#[]⟩ : ByteArray)).length = N := by simp; omega
          obtain ⟨ad, rfl, hx⟩ := Kd.at_string HR0.out (i : Int) (by omega) hltz
          have hx := (HB.out.cell (World.block_lt_of_cell? w _ hx)).trans hx
          obtain ⟨go, co', eo, gb, gl, cl, HG⟩ := Kd.R_form HO.out (by omega)
          injection eo with ea en ec
          subst ea
          subst ec
          have GB := Aside0.mk gb
          clear gb gl HG en
          have hNz : (i : Int) < (N : Int) := by omega
          have h0 : 0 ≤ (i : Int) := by omega
          obtain ⟨hx0, hf0⟩ := Kd.R_celln (⟨#[]⟩ : ByteArray) HO.out (i : Int) h0 hNz
          have HP := Kd.R_putg HO.out (i : Int) (rdOf ByteArray.empty l0 i)
          have hset : (l0.take i ++ List.replicate (N - i) (⟨#[]⟩ : ByteArray)).set i (rdOf ByteArray.empty l0 i) = l0.take (i + 1) ++ List.replicate (N - (i + 1)) ⟨#[]⟩ := by
            rw [fill_set _ _ _ _ _ (by simp; omega) (by omega), rdAt hlt, List.take_append_getElem hlt]
            rfl
          simp only [Int.toNat_natCast] at hx hx0 hf0 HP
          rw [hset] at HP
          clear hset hlen
          go_wp2_with (first | ((with_reducible refine gate_store (t := 9) (p := 33) rfl ?_); refine store_event (t := 9) (p := 33) (v := ?vo1) (w1 := (wr.setCell ⟨go, i, none⟩ (.string (rdOf ByteArray.empty l0 i)))) ?hg ?ho ?hn ?hr ?_; (case ho => rfl); (case hg => rfl); (case hn => rfl); (case hr => first | (go_simp; done) | (go_simp; rfl)); intro w17 hw; have n0_ := Aside0.mk (show Kd.R Kd.string 9 w17 w.heap.size (fun _ => True) (.slice (some ⟨go, 0, none⟩) N co) _ from (by rw [hw]; exact HP.1)); have n1_ := Aside0.mk ((by rw [hw]; exact below_set (HB.out) GB.out : Below w.heap.size w w17)); clear HP HO HB; have HO := n0_; have HB := n1_; clear n0_ n1_; clear hw))
          go_roundg (l0.length - (i + 1))
          case measure => have := HLT.out; omega
          case rel => exact ⟨i + 1, by go_num, HLT.out, by omega, HO, HB⟩
        · obtain rfl : i = l0.length := by omega
          have hltz : ¬ (l0.length : Int) < (l0.length : Int) := by omega
          rw [List.take_length] at HO
          have HO2 : Aside0 (Kd.R Kd.string 9 wr w.heap.size (fun _ => True) (.slice Ao N co) (l0 ++ List.replicate (l0.length - l0.length) spareS ++ List.replicate (N - l0.length) (⟨#[]⟩ : ByteArray))) := ⟨by rw [Nat.sub_self]; simpa using HO.out⟩
          clear HO
          go_wp2
          go_loopg [7] N (fun gg v7 wr => ∃ i : Nat, v7 = .int .i64 i ∧ l0.length ≤ i ∧ i ≤ N ∧ N - i ≤ gg ∧ Aside0 (Kd.R Kd.string 9 wr w.heap.size (fun _ => True) (.slice Ao N co) (l0 ++ List.replicate (i - l0.length) spareS ++ List.replicate (N - i) (⟨#[]⟩ : ByteArray))) ∧ Aside0 (Below w.heap.size w wr))
          case atStart => exact ⟨l0.length, rfl, Nat.le_refl _, by have := HN.out; omega, by omega, HO2, HB⟩
          case round =>
            clear HO2 HB hltz hg hi
            obtain ⟨i, rfl, hi, hiN, hg, HO, HB⟩ := hrel
            by_cases hlt : i < N
            · have HLT := Aside0.mk hlt
              have hib : i ≤ 2000000 := by have := HNb.out; omega
              have hlen : (l0 ++ List.replicate (i - l0.length) spareS ++ List.replicate (N - i) (⟨#[]⟩ : ByteArray)).length = N := by simp; omega
              obtain ⟨go, co', eo, gb, gl, cl, HG⟩ := Kd.R_form HO.out (by omega)
              injection eo with ea en ec
              subst ea
              subst ec
              have GB := Aside0.mk gb
              clear gb gl HG en
              have hNz : (i : Int) < (N : Int) := by omega
              have h0 : 0 ≤ (i : Int) := by omega
              obtain ⟨hx0, hf0⟩ := Kd.R_celln (⟨#[]⟩ : ByteArray) HO.out (i : Int) h0 hNz
              have HP := Kd.R_putg HO.out (i : Int) (⟨#[126, 115, 112, 97, 114, 101, 126]⟩ : ByteArray)
              have hset : (l0 ++ List.replicate (i - l0.length) spareS ++ List.replicate (N - i) (⟨#[]⟩ : ByteArray)).set i (⟨#[126, 115, 112, 97, 114, 101, 126]⟩ : ByteArray) = l0 ++ List.replicate (i + 1 - l0.length) spareS ++ List.replicate (N - (i + 1)) ⟨#[]⟩ := by
                rw [fill_set _ _ _ _ _ (by simp; omega) (by omega), List.append_assoc l0, show i + 1 - l0.length = i - l0.length + 1 by omega, List.replicate_succ']
                rfl
              simp only [Int.toNat_natCast] at hx0 hf0 HP
              rw [hset] at HP
              clear hset hlen
              go_wp2_with (first | ((with_reducible refine gate_store (t := 9) (p := 44) rfl ?_); refine store_event (t := 9) (p := 44) (v := ?vo2) (w1 := (wr.setCell ⟨go, i, none⟩ (.string (⟨#[126, 115, 112, 97, 114, 101, 126]⟩ : ByteArray)))) ?hg ?ho ?hn ?hr ?_; (case ho => rfl); (case hg => rfl); (case hn => rfl); (case hr => first | (go_simp; done) | (go_simp; rfl)); intro w17 hw; have n0_ := Aside0.mk (show Kd.R Kd.string 9 w17 w.heap.size (fun _ => True) (.slice (some ⟨go, 0, none⟩) N co) _ from (by rw [hw]; exact HP.1)); have n1_ := Aside0.mk ((by rw [hw]; exact below_set (HB.out) GB.out : Below w.heap.size w w17)); clear HP HO HB; have HO := n0_; have HB := n1_; clear n0_ n1_; clear hw))
              go_roundg (N - (i + 1))
              case measure => have := HLT.out; omega
              case rel => exact ⟨i + 1, by go_num, by omega, HLT.out, by omega, HO, HB⟩
            · obtain rfl : i = N := by omega
              have hltz : ¬ (i : Int) < (i : Int) := by omega
              have hnb : 0 ≤ (l0.length : Int) := by omega
              have hle : (l0.length : Int) ≤ (i : Int) := by omega
              obtain ⟨i0, hi0, _, hsz, _⟩ := info_parts info9
              have hcut := cut_to (P := Try.prog) 30 9 .i64 Try.underlying30 hi0 Ao i co (l0.length : Int) hnb hle (Kd.R_reads' HO.out).2.1
              simp only [Int.toNat_natCast] at hcut
              have hlen : (l0 ++ List.replicate (i - l0.length) spareS ++ List.replicate (i - i) (⟨#[]⟩ : ByteArray)) = l0 ++ List.replicate (room l0.length) spareS := by have := HN.out; rw [show i - l0.length = room l0.length by omega]; simp
              rw [hlen] at HO
              clear hlen hi0 hsz
              go_wp2
              go_ret
              have hF := HF2.out
              subst hF
              refine ⟨Ao, co, rfl, ?_⟩
              have h2 := HN.out
              simp only [List.length_append, List.length_replicate, h2]
              exact ⟨by omega, Kd.R_mono (Kd.R_bound HO.out) (fun k hk => hk.2.1), HB.out⟩
end Go.Proofs.Ytfnhjaiioojbkaa.Q
end
section
namespace Go.Proofs.Ytfnhjaiioojbkaa.Q
open Go.RowKit Go.Proofs.YtfnhjaiioojbkaaW.PrintWords Go.Proofs.YtfnhjaiioojbkaaW.PrintLast Go.Proofs.YtfnhjaiioojbkaaW.PrintMore
attribute [local go_sem] max2_int min2_int max_two min_two max_three min_three max_four min_four
set_option linter.unusedVariables false
set_option linter.unusedSimpArgs false
section
variable {P : Program}
theorem up_to (t e : TypeId) (kh : IntKind) {i : TypeInfo} (ht : P.underlying t = some (.slice e)) (hi : P.info? e = some i) (A : Option Addr) (n c : Nat) (j : Int) (h0 : 0 ≤ j) (hm : j ≤ c) :
    ∀ W : World, (Instr.slice t (.slice A n c) none (some (.int kh j)) none).run P W = .ok (.slice A j.toNat c) W := by
  intro W
  have hel : P.elem t = e := by simp [Program.elem, ht]
  have hu : P.underlying t = some (.slice (P.elem t)) := by rw [hel]; exact ht
  have ha : (A.map fun x => x.add 0) = A := by cases A <;> simp [Addr.add]
  rw [Go.run_slice_h W t A n c hu kh j h0 hm, hel]
  simp [Go.sizeOf, Go.typeInfo, hi, Go.sliced, Go.Result.andThen, ha]
theorem up_mid (t e : TypeId) (kl kh : IntKind) {i : TypeInfo} (ht : P.underlying t = some (.slice e)) (hi : P.info? e = some i) (size : Nat) (hsz : i.size = size) (A : Option Addr) (n c : Nat) (lo hi' : Int) (h0 : 0 ≤ lo) (h1 : lo ≤ hi') (h2 : hi' ≤ c) :
    ∀ W : World, (Instr.slice t (.slice A n c) (some (.int kl lo)) (some (.int kh hi')) none).run P W = .ok (.slice (if c = lo.toNat then A else A.map (·.add (lo.toNat * size))) (hi'.toNat - lo.toNat) (c - lo.toNat)) W := by
  intro W
  have hel : P.elem t = e := by simp [Program.elem, ht]
  have hu : P.underlying t = some (.slice (P.elem t)) := by rw [hel]; exact ht
  rw [Go.run_slice_lh W t A n c hu kl kh lo hi' h0 h1 h2, hel]
  simp [Go.sizeOf, Go.typeInfo, hi, hsz, Go.sliced, Go.Result.andThen]
end
theorem eqS0_refl (l : List ByteArray) (hl : l.length ≤ 100000000) : ∀ (d i : Nat), l.length - i = d → i ≤ l.length → Ev (fun k => laws_eqStringS.l0 k l l i) true
  | 0, i, hd, hi => by
    refine Ev.step' ?_
    simp only [laws_eqStringS.l0]
    exact Ev.negf (by omega) (Ev.now _)
  | d + 1, i, hd, hi => by
    refine Ev.step' ?_
    simp only [laws_eqStringS.l0, w64_succ i (by omega)]
    exact Ev.posf (by omega) (Ev.posf (by omega) (Ev.posf (by omega) (Ev.posf trivial (eqS0_refl l hl d (i + 1) (by omega) (by omega)))))
theorem eqS_refl (l : List ByteArray) (hl : l.length ≤ 100000000) : Ev (fun k => laws_eqStringS.f k l l) true := by
  unfold laws_eqStringS.f
  exact Ev.posf rfl (eqS0_refl l hl _ 0 rfl (by omega))
def FulN (full n : Nat) : Prop := n + room n = full ∧ n ≤ 1000000
theorem room_le (n : Nat) : room n ≤ n + 1 := by
  unfold room
  split
  · omega
  · split <;> omega
set_option maxHeartbeats 4000000 in
theorem intS_calls (A B : Option Addr) (c d : Nat) (F : List ByteArray) (n : Nat) (w : World) (hx : Kd.C Kd.string w A F.length F) (hc : F.length ≤ c) (hy : Kd.C Kd.string w B F.length F) (hd : F.length ≤ d) (hF : FulN F.length n) :
    Calls Try.prog 30 #[.slice A n c, .slice B n d] w fun e w' => e = .returned (.bool true) ∧ Drawn0 w w' := by
  obtain ⟨h1, h2⟩ := hF
  have h3 := room_le n
  obtain ⟨K, hK⟩ := eqS_refl F (by omega)
  have HE := Aside0.mk (hK K (Nat.le_refl _))
  have HX := Aside0.mk hx
  have HY := Aside0.mk hy
  have HC := Aside0.mk hc
  have HD := Aside0.mk hd
  have hw : wrap64 ((n : Int) + (room n : Int)) = (F.length : Int) := by unfold wrap64; omega
  have hw2 : (IntKind.i64.wrap ((n : Int) + (room n : Int))) = (F.length : Int) := (i64_w _).trans hw
  have R9 := Aside0.mk (room_ev n)
  obtain ⟨i0, hi0, _, hsz, _⟩ := info_parts info9
  have hcutA := up_to (P := Try.prog) 30 9 .i64 Try.underlying30 hi0 A n c (F.length : Int) (by omega) (by omega)
  have hcutB := up_to (P := Try.prog) 30 9 .i64 Try.underlying30 hi0 B n d (F.length : Int) (by omega) (by omega)
  simp only [Int.toNat_natCast] at hcutA hcutB
  have e1 : ((n : Int) == (n : Int)) = true := by simp
  clear hK hx hy hc hd hi0 hsz h1 h3
  go_enter Try.func30, Try.ntmps30
  go_wp2_with (first | (go_at_call 62; (with_reducible refine (laws_roomBehind.calls (n : Int) _ _ R9.out).mono ?_); rintro e w' ⟨rfl, ⟨nd, rfl⟩⟩))
  have HX2 := Aside0.mk (Kd.C_below HX.out (Drawn0.mk ⟨nd, rfl⟩ : Drawn0 w (w.drewN nd)).below)
  have HY2 := Aside0.mk (Kd.C_below HY.out (Drawn0.mk ⟨nd, rfl⟩ : Drawn0 w (w.drewN nd)).below)
  have HW := Aside0.mk (Drawn0.mk ⟨nd, rfl⟩ : Drawn0 w (w.drewN nd))
  generalize World.drewN w nd = w2 at HX2 HY2 HW ⊢
  go_quiet ((go_at_call 36; exact quietD (fun W hW => laws_eqStringS.calls K _ _ F _ _ F true W (Kd.C_below HX2.out hW.below) HC.out (Kd.C_below HY2.out hW.below) HD.out HE.out)))
  have HW2 := Aside0.mk (HW.out.step nq)
  go_wp2
  go_ret
  exact ⟨rfl, HW2.out⟩
end Go.Proofs.Ytfnhjaiioojbkaa.Q
end
section
namespace Go.Proofs.Ytfnhjaiioojbkaa.Q
open Go.RowKit Go.Proofs.YtfnhjaiioojbkaaW.PrintWords
set_option linter.unusedVariables false
set_option linter.unusedSimpArgs false
def Big (l : Tx) : Prop := l.length ≤ 9223372036854775807 ∧ ∀ s ∈ l, s.size ≤ 9223372036854775807
theorem szS0_ev {l : Tx} (h : Big l) (hl : l.length ≤ 1000000) : ∀ (d i : Nat) (a : Int), l.length - i = d → i ≤ l.length → 0 ≤ a → a ≤ 1000000 →
    ∃ r, Ev (fun k => laws_szStringS.l0 k l a i) r ∧ -1 ≤ r ∧ r ≤ 1000000 ∧ (0 ≤ r → ∀ j (hj : j < l.length), i ≤ j → l[j].size ≤ 1000000)
  | 0, i, a, hd, hi, h0, h1 => by
    refine ⟨a, Ev.step' ?_, by omega, h1, fun _ j hj hij => absurd hj (by omega)⟩
    simp only [laws_szStringS.l0]
    exact Ev.negf (by omega) (Ev.now _)
  | d + 1, i, a, hd, hi, h0, h1 => by
    have hi' : i < l.length := by omega
    have hs := h.2 l[i] (List.getElem_mem hi')
    have hw : wrap64 (a - (l[i].size : Int)) = a - (l[i].size : Int) := w64 (by omega) (by omega)
    by_cases c : a - (l[i].size : Int) < 0
    · refine ⟨-1, Ev.step' ?_, by omega, by omega, fun hr => absurd hr (by omega)⟩
      simp only [laws_szStringS.l0, rdAt hi', hw]
      exact Ev.posf (by omega) (Ev.posf (by omega) (Ev.posf c (Ev.now _)))
    · obtain ⟨r, hr, r1, r2, r3⟩ := szS0_ev h hl d (i + 1) (a - (l[i].size : Int)) (by omega) (by omega) (by omega) (by omega)
      refine ⟨r, Ev.step' ?_, r1, r2, fun h0r j hj hij => ?_⟩
      · simp only [laws_szStringS.l0, rdAt hi', hw, w64_succ i (by omega)]
        exact Ev.posf (by omega) (Ev.posf (by omega) (Ev.negf c hr))
      · by_cases e : j = i
        · subst e; omega
        · exact r3 h0r j hj (by omega)
theorem szS_ev {l : Tx} (h : Big l) {a : Int} (h0 : 0 ≤ a) (h1 : a ≤ 1000000) : ∃ r, Ev (fun k => laws_szStringS.f k l a) r ∧ -1 ≤ r ∧ r ≤ 1000000 ∧ (0 ≤ r → Sm l) := by
  have hb := h.1
  have hw : wrap64 (a - (l.length : Int)) = a - (l.length : Int) := w64 (by omega) (by omega)
  unfold laws_szStringS.f
  by_cases c : a - (l.length : Int) < 0
  · exact ⟨-1, Ev.posf (by rw [hw]; exact c) (Ev.now _), by omega, by omega, fun hr => absurd hr (by omega)⟩
  · obtain ⟨r, hr, r1, r2, r3⟩ := szS0_ev h (by omega) _ 0 (a - (l.length : Int)) rfl (by omega) (by omega) (by omega)
    refine ⟨r, Ev.negf (by rw [hw]; exact c) (by rw [hw]; exact hr), r1, r2, fun h0r => ⟨by omega, fun s hs => ?_⟩⟩
    obtain ⟨j, hj, rfl⟩ := List.mem_iff_getElem.mp hs
    exact r3 h0r j hj (by omega)
abbrev Dq := S72
theorem rdQ {l : List Dq} {i : Nat} (h : i < l.length) : rd_T72 l (i : Int) = l[i] := by simp [rd_T72, List.getD_eq_getElem?_getD, h]
def BigD (l : List Dq) : Prop := l.length ≤ 9223372036854775807 ∧ ∀ x ∈ l, Big x.f2
def SmQ (l : List Dq) : Prop := l.length ≤ 1000000 ∧ ∀ x ∈ l, Sm x.f2
theorem szD0_ev {l : List Dq} (h : BigD l) (hl : l.length ≤ 1000000) : ∀ (d i : Nat) (a : Int), l.length - i = d → i ≤ l.length → 0 ≤ a → a ≤ 1000000 →
    ∃ r, Ev (fun k => laws_szDeltaS.l0 k l a i) r ∧ -1 ≤ r ∧ r ≤ 1000000 ∧ (0 ≤ r → ∀ j (hj : j < l.length), i ≤ j → Sm l[j].f2)
  | 0, i, a, hd, hi, h0, h1 => by
    refine ⟨a, Ev.step' ?_, by omega, h1, fun _ j hj hij => absurd hj (by omega)⟩
    simp only [laws_szDeltaS.l0]
    exact Ev.negf (by omega) (Ev.now _)
  | d + 1, i, a, hd, hi, h0, h1 => by
    have hi' : i < l.length := by omega
    obtain ⟨z, hz, z1, z2, z3⟩ := szS_ev (h.2 l[i] (List.getElem_mem hi')) h0 h1
    by_cases c : z < 0
    · refine ⟨-1, Ev.step' ?_, by omega, by omega, fun hr => absurd hr (by omega)⟩
      simp only [laws_szDeltaS.l0, rdQ hi']
      refine Ev.posf (by omega) (Ev.posf (by omega) (Ev.bind (a := -1) ?_ (Ev.posf (by omega) (Ev.now _))))
      unfold laws_szDelta.f
      exact Ev.bind hz (Ev.posf c (Ev.now _))
    · obtain ⟨r, hr, r1, r2, r3⟩ := szD0_ev h hl d (i + 1) z (by omega) (by omega) (by omega) (by omega)
      refine ⟨r, Ev.step' ?_, r1, r2, fun h0r j hj hij => ?_⟩
      · simp only [laws_szDeltaS.l0, rdQ hi', w64_succ i (by omega)]
        refine Ev.posf (by omega) (Ev.posf (by omega) (Ev.bind (a := z) ?_ (Ev.negf c hr)))
        unfold laws_szDelta.f
        exact Ev.bind hz (Ev.negf c (Ev.now _))
      · by_cases e : j = i
        · subst e; exact z3 (by omega)
        · exact r3 h0r j hj (by omega)
theorem szD_ev {l : List Dq} (h : BigD l) {a : Int} (h0 : 0 ≤ a) (h1 : a ≤ 1000000) : ∃ r, Ev (fun k => laws_szDeltaS.f k l a) r ∧ -1 ≤ r ∧ r ≤ 1000000 ∧ (0 ≤ r → SmQ l) := by
  have hb := h.1
  have hw : wrap64 (a - (l.length : Int)) = a - (l.length : Int) := w64 (by omega) (by omega)
  unfold laws_szDeltaS.f
  by_cases c : a - (l.length : Int) < 0
  · exact ⟨-1, Ev.posf (by rw [hw]; exact c) (Ev.now _), by omega, by omega, fun hr => absurd hr (by omega)⟩
  · obtain ⟨r, hr, r1, r2, r3⟩ := szD0_ev h (by omega) _ 0 (a - (l.length : Int)) rfl (by omega) (by omega) (by omega)
    refine ⟨r, Ev.negf (by rw [hw]; exact c) (by rw [hw]; exact hr), r1, r2, fun h0r => ⟨by omega, fun x hx => ?_⟩⟩
    obtain ⟨j, hj, rfl⟩ := List.mem_iff_getElem.mp hx
    exact r3 h0r j hj (by omega)
theorem eqD0_refl (l : List Dl) (hl : l.length ≤ 100000000) (hx : ∀ x ∈ l, x.f2.length ≤ 100000000) : ∀ (d i : Nat), l.length - i = d → i ≤ l.length → Ev (fun k => laws_eqDeltaS.l0 k l l i) true
  | 0, i, hd, hi => by
    refine Ev.step' ?_
    simp only [laws_eqDeltaS.l0]
    exact Ev.negf (by omega) (Ev.now _)
  | d + 1, i, hd, hi => by
    have hi' : i < l.length := by omega
    refine Ev.step' ?_
    simp only [laws_eqDeltaS.l0, w64_succ i (by omega), rdD hi']
    refine Ev.posf (by omega) (Ev.posf (by omega) (Ev.posf (by omega) (Ev.bind (a := true) ?_ (Ev.posf rfl (eqD0_refl l hl hx d (i + 1) (by omega) (by omega))))))
    unfold laws_eqDelta.f
    exact Ev.posf rfl (Ev.posf rfl (Ev.bind (eqS_refl _ (hx _ (List.getElem_mem hi'))) (Ev.posf rfl (Ev.now _))))
theorem eqD_refl (l : List Dl) (hl : l.length ≤ 100000000) (hx : ∀ x ∈ l, x.f2.length ≤ 100000000) : Ev (fun k => laws_eqDeltaS.f k l l) true := by
  unfold laws_eqDeltaS.f
  exact Ev.posf rfl (eqD0_refl l hl hx _ 0 rfl (by omega))
end Go.Proofs.Ytfnhjaiioojbkaa.Q
end
section
namespace Go.Proofs.Ytfnhjaiioojbkaa.Q
open Go.RowKit Go.Proofs.YtfnhjaiioojbkaaW.PrintWords
set_option linter.unusedVariables false
set_option linter.unusedSimpArgs false
theorem list_of {α : Type} {p : Nat → α → Prop} : ∀ n, (∀ i, i < n → ∃ y, p i y) → ∃ l : List α, l.length = n ∧ ∀ i (hi : i < l.length), p i l[i]
  | 0, _ => ⟨[], rfl, fun i hi => absurd hi (by simp)⟩
  | n + 1, h => by
    obtain ⟨l, hl, hi⟩ := list_of n (fun i hi => h i (by omega))
    obtain ⟨y, hy⟩ := h n (by omega)
    refine ⟨l ++ [y], by simp [hl], fun i hlt => ?_⟩
    by_cases e : i < l.length
    · rw [List.getElem_append_left e]; exact hi i e
    · have : i = l.length := by simp at hlt; omega
      subst this
      rw [List.getElem_concat_length rfl, hl]; exact hy
section
variable {H : Type} {enc : TypeId × Value → H} {P : Program} {w : World} {base : Nat} {spare : Nat → Bool} {held : Bool}
/-- What is read at type t is of kind d, and G. -/
def Opens {α : Type} (enc : TypeId × Value → H) (P : Program) (w : World) (base : Nat) (spare : Nat → Bool) (held : Bool) (t : TypeId) (d : Kd α) (G : α → Prop) : Prop :=
  ∀ fuel cs x, DataW.trod enc P w base spare held fuel t cs = some x → ∃ a, d.K w a cs ∧ G a
theorem opens_int {t : TypeId} {k : IntKind} (ht : P.underlying t = some (.int k)) : Opens enc P w base spare held t (Kd.int k) (fun _ => True) := fun fuel cs x h => by
  obtain ⟨n, h1, _⟩ := DataW.trod_int ht h
  exact ⟨n, h1, trivial⟩
theorem opens_string {t : TypeId} (ht : P.underlying t = some .string) : Opens enc P w base spare held t Kd.string (fun s => s.size ≤ 9223372036854775807) := fun fuel cs x h => by
  obtain ⟨s, h1, _, h2⟩ := DataW.trod_string ht h
  exact ⟨s, h1, h2⟩
theorem opens_slice {α : Type} {d : Kd α} {G : α → Prop} {t e : TypeId} (ht : P.underlying t = some (.slice e)) (hsz : P.cellsOf e = d.sz) (he : Opens enc P w base spare held e d G) :
    Opens enc P w base spare held t (Kd.slice e d) (fun l => l.length ≤ 9223372036854775807 ∧ ∀ a ∈ l, G a) := fun fuel cs x h => by
  rcases Go.Deep.open_slice ht h with ⟨rfl, _⟩ | ⟨a, len, cap, m, n, D, Pl, rfl, _, hl, hm, hmm, _, hx⟩
  · exact ⟨[], ⟨none, 0, rfl, Nat.le_refl _, ⟨rfl, by simp, fun h => absurd h (by simp)⟩⟩, by simp, fun a ha => by cases ha⟩
  · have hlm : len ≤ m := by rw [hmm]; split <;> omega
    have hxx : ∀ i, i < len → ∃ y : α, (∃ c, c.length = d.sz ∧ d.K w y c ∧ ∀ j u, c[j]? = some u → w.cell? (a.add (i * d.sz + j)) = some u) ∧ G y := fun i hi => by
      obtain ⟨c, h1, h2⟩ := hx i (by omega)
      obtain ⟨y, hy, hg⟩ := he _ _ _ h2
      obtain ⟨_, hcl, hcell⟩ := World.cells?_some h1
      rw [hsz] at hcl hcell
      refine ⟨y, ⟨c, hcl, hy, fun j u hu => ?_⟩, hg⟩
      have hj : j < d.sz := by
        have := (List.getElem?_eq_some_iff.mp hu).1
        omega
      have := hcell j hj
      rw [hu, Go.Deep.add_add] at this
      exact this
    obtain ⟨l, hll, hli⟩ := list_of len hxx
    have hm2 : cap ≤ 9223372036854775807 := hm
    refine ⟨l, ⟨some a, cap, by rw [hll], by omega, ⟨rfl, by omega, fun _ => ⟨a, rfl, fun j p hj => ?_⟩⟩⟩, by omega, fun p hp => ?_⟩
    · obtain ⟨hjl, rfl⟩ := List.getElem?_eq_some_iff.mp hj
      exact (hli j hjl).1
    · obtain ⟨j, hj, rfl⟩ := List.mem_iff_getElem.mp hp
      exact (hli j hj).2
end
section
variable {H : Type} {enc : TypeId × Value → H} {w : World} {base : Nat} {spare : Nat → Bool} {held : Bool}
set_option maxRecDepth 100000 in
theorem opens_strs : Opens enc Try.prog w base spare held 30 (Kd.slice 9 Kd.string) Big :=
  opens_slice Try.underlying30 (by kernel_rfl) (opens_string Try.underlying9)
set_option maxRecDepth 100000 in
theorem opens_D : Opens enc Try.prog w base spare held 72 k72 (fun x => Big x.f2) := fun fuel cs x h => by
  obtain ⟨y0, y1, y2, n, _, hl, h0, h1, h2⟩ := Go.Deep.trod_struct3 Try.underlying72 h
  have hl3 : cs.length = 3 := hl.trans (by kernel_rfl)
  obtain ⟨c0, c1, c2, rfl⟩ : ∃ c0 c1 c2, cs = [c0, c1, c2] := by match cs, hl3 with | [a, b, c], _ => exact ⟨a, b, c, rfl⟩
  obtain ⟨a0, k0, _⟩ := opens_int Try.underlying3 _ _ _ h0
  obtain ⟨a1, k1, _⟩ := opens_int Try.underlying3 _ _ _ h1
  obtain ⟨a2, k2, g2⟩ := opens_strs _ _ _ h2
  exact ⟨⟨a0, a1, a2⟩, ⟨[c0], [c1, c2], rfl, k0, ⟨[c1], [c2], rfl, k1, k2⟩⟩, g2⟩
set_option maxRecDepth 100000 in
theorem opens_DS : Opens enc Try.prog w base spare held 22 (Kd.slice 72 k72) BigD :=
  opens_slice Try.underlying22 (by kernel_rfl) opens_D
/-- Of an argument's own value. -/
theorem opened {α : Type} {d : Kd α} {G : List α → Prop} {t e : TypeId} {A : Option Addr} {n c : Nat} {x : DataW H} {ps : List MemPlace} (ho : Opens enc Try.prog w base spare held t (Kd.slice e d) G)
    (h : DataW.Trod enc Try.prog w base spare held t (.slice A n c) x ps) : ∃ l : List α, n = l.length ∧ l.length ≤ c ∧ Kd.C d w A l.length l ∧ G l := by
  obtain ⟨fuel, hf⟩ := h
  obtain ⟨l, ⟨A2, c2, e2, hl, hC⟩, hg⟩ := ho fuel _ _ hf
  have e3 : [Value.slice A n c] = [.slice A2 l.length c2] := e2
  injection e3 with e4 _
  injection e4 with e5 e6 e7
  subst e5
  subst e7
  exact ⟨l, e6, hl, hC, hg⟩
end
end Go.Proofs.Ytfnhjaiioojbkaa.Q
end
section
namespace Go.Proofs.Ytfnhjaiioojbkaa.Q
open Go.RowKit Go.Proofs.YtfnhjaiioojbkaaW.PrintWords Go.Proofs.YtfnhjaiioojbkaaW.PrintLast Go.Proofs.YtfnhjaiioojbkaaW.PrintMore
attribute [local go_sem] max2_int min2_int max_two min_two max_three min_three max_four min_four
set_option linter.unusedVariables false
set_option linter.unusedSimpArgs false
set_option maxHeartbeats 8000000 in
set_option maxRecDepth 100000 in
theorem toD_calls (a0_0 : Int) (a0_1 : Int) (A0_2 : Option Addr) (c0_2 : Nat) (l0_2 : List ByteArray) (a1 : Bool) (w : World) (hr0_2 : Kd.C Kd.string w A0_2 l0_2.length l0_2) (hl : l0_2.length ≤ 1000000) :
    Calls Try.prog 63 #[.agg #[.int .i64 a0_0, .int .i64 a0_1, .slice A0_2 l0_2.length c0_2], .bool a1] w fun e w' => ∃ A c, e = .returned (.agg #[.int .i64 a0_0, .int .i64 a0_1, .slice A (fulS a1 l0_2).2 c]) ∧ (fulS a1 l0_2).2 ≤ (fulS a1 l0_2).1.length ∧ Kd.R Kd.string 9 w' w.heap.size (fun k => w.heap.size ≤ k) (.slice A (fulS a1 l0_2).1.length c) (fulS a1 l0_2).1 ∧ Below w.heap.size w w' := by
  have hu72 := Try.underlying72
  have hu39 := Try.underlying39
  have HR0_2 := Aside0.mk hr0_2
  have HL := Aside0.mk hl
  clear hr0_2 hl
  have HB := Aside0.mk (Below.refl w.heap.size w)
  go_enter Try.func63, Try.ntmps63
  go_wp2_with (first | ((with_reducible refine gate_dst (N := 2) rfl ?_); refine box_event ?hg (N := 2) ?hd (cs := #[.int .i64 a0_0, .int .i64 a0_1, .slice A0_2 l0_2.length c0_2]) (t := 72) ?hr ?_; (case hd => rfl); (case hg => rfl); (case hr => first | (go_simp; done) | (go_simp; rfl)); intro gb119 hg w4 hbox hb; have n0_ := Aside0.mk (below_step (by repeat (first | (with_reducible first | exact HB.out | apply below_alloc | apply pw_below_drewN | apply below_drew1) | exact HB.out)) hb); have n1_ := Aside0.mk (hbox); have n2_ := Aside0.mk ((by rw [hg]; exact (below_size (by repeat (first | (with_reducible first | exact HB.out | apply below_alloc | apply pw_below_drewN | apply below_drew1) | exact HB.out))) : w.heap.size ≤ gb119)); have n3_ := Aside0.mk ((by rw [hg]; exact (below_size (by repeat (first | (with_reducible first | exact HB.out | apply below_alloc | apply pw_below_drewN | apply below_drew1) | exact HB.out))) : w.heap.size ≤ gb119)); clear HB; have HB := n0_; have BK119 := n1_; have GW119 := n2_; have GE119 := n3_; clear n0_ n1_ n2_ n3_; clear hb hbox hg) | ((with_reducible refine gate_dst (N := 4) rfl ?_); refine box_event ?hg (N := 4) ?hd (cs := #[.int .i64 0, .int .i64 0, .slice none 0 0]) (t := 39) ?hr ?_; (case hd => rfl); (case hg => rfl); (case hr => first | (go_simp; done) | (go_simp; rfl)); intro gb120 hg w5 hbox hb; have n0_ := Aside0.mk (blk_below (g := gb119) (o := .cells #[.int .i64 a0_0, .int .i64 a0_1, .slice A0_2 l0_2.length c0_2] 72 (0, 0)) (by (with_reducible repeat (first | refine blk_drewN ?_ _ | refine blk_drew ?_ | refine blk_alloc ?_ _)); exact BK119.out) hb); have n1_ := Aside0.mk (below_step (by repeat (first | (with_reducible first | exact HB.out | apply below_alloc | apply pw_below_drewN | apply below_drew1 | refine below_set ?_ GE119.out) | exact HB.out)) hb); have n2_ := Aside0.mk (hbox); have n3_ := Aside0.mk ((by rw [hg]; exact (below_size (by repeat (first | (with_reducible first | exact HB.out | apply below_alloc | apply pw_below_drewN | apply below_drew1 | refine below_set ?_ GE119.out) | exact HB.out))) : w.heap.size ≤ gb120)); have n4_ := Aside0.mk ((by rw [hg]; exact (below_size (by repeat (first | (with_reducible first | exact HB.out | apply below_alloc | apply pw_below_drewN | apply below_drew1 | refine below_set ?_ GE119.out) | exact HB.out))) : w.heap.size ≤ gb120)); have n5_ := Aside0.mk ((by rw [hg]; exact Nat.ne_of_lt (blk_lt (g := gb119) (o := .cells #[.int .i64 a0_0, .int .i64 a0_1, .slice A0_2 l0_2.length c0_2] 72 (0, 0)) (by (with_reducible repeat (first | refine blk_drewN ?_ _ | refine blk_drew ?_ | refine blk_alloc ?_ _)); exact BK119.out)) : gb119 ≠ gb120)); have n6_ := Aside0.mk ((by rw [hg]; exact Nat.ne_of_gt (blk_lt (g := gb119) (o := .cells #[.int .i64 a0_0, .int .i64 a0_1, .slice A0_2 l0_2.length c0_2] 72 (0, 0)) (by (with_reducible repeat (first | refine blk_drewN ?_ _ | refine blk_drew ?_ | refine blk_alloc ?_ _)); exact BK119.out)) : gb120 ≠ gb119)); clear BK119; clear HB; have BK119 := n0_; have HB := n1_; have BK120 := n2_; have GW120 := n3_; have GE120 := n4_; have NB119_120 := n5_; have NB120_119 := n6_; clear n0_ n1_ n2_ n3_ n4_ n5_ n6_; clear hb hbox hg) | ((with_reducible refine gate_dst (N := 5) rfl ?_); refine box_event ?hg (N := 5) ?hd (cs := #[.int .i64 0, .int .i64 0, .slice none 0 0]) (t := 39) ?hr ?_; (case hd => rfl); (case hg => rfl); (case hr => first | (go_simp; done) | (go_simp; rfl)); intro gb121 hg w6 hbox hb; have n0_ := Aside0.mk (blk_below (g := gb119) (o := .cells #[.int .i64 a0_0, .int .i64 a0_1, .slice A0_2 l0_2.length c0_2] 72 (0, 0)) (by (with_reducible repeat (first | refine blk_drewN ?_ _ | refine blk_drew ?_ | refine blk_alloc ?_ _)); exact BK119.out) hb); have n1_ := Aside0.mk (blk_below (g := gb120) (o := .cells #[.int .i64 0, .int .i64 0, .slice none 0 0] 39 (0, 0)) (by (with_reducible repeat (first | refine blk_drewN ?_ _ | refine blk_drew ?_ | refine blk_alloc ?_ _)); exact BK120.out) hb); have n2_ := Aside0.mk (below_step (by repeat (first | (with_reducible first | exact HB.out | apply below_alloc | apply pw_below_drewN | apply below_drew1 | refine below_set ?_ GE119.out | refine below_set ?_ GE120.out) | exact HB.out)) hb); have n3_ := Aside0.mk (hbox); have n4_ := Aside0.mk ((by rw [hg]; exact (below_size (by repeat (first | (with_reducible first | exact HB.out | apply below_alloc | apply pw_below_drewN | apply below_drew1 | refine below_set ?_ GE119.out | refine below_set ?_ GE120.out) | exact HB.out))) : w.heap.size ≤ gb121)); have n5_ := Aside0.mk ((by rw [hg]; exact (below_size (by repeat (first | (with_reducible first | exact HB.out | apply below_alloc | apply pw_below_drewN | apply below_drew1 | refine below_set ?_ GE119.out | refine below_set ?_ GE120.out) | exact HB.out))) : w.heap.size ≤ gb121)); have n6_ := Aside0.mk ((by rw [hg]; exact Nat.ne_of_lt (blk_lt (g := gb119) (o := .cells #[.int .i64 a0_0, .int .i64 a0_1, .slice A0_2 l0_2.length c0_2] 72 (0, 0)) (by (with_reducible repeat (first | refine blk_drewN ?_ _ | refine blk_drew ?_ | refine blk_alloc ?_ _)); exact BK119.out)) : gb119 ≠ gb121)); have n7_ := Aside0.mk ((by rw [hg]; exact Nat.ne_of_gt (blk_lt (g := gb119) (o := .cells #[.int .i64 a0_0, .int .i64 a0_1, .slice A0_2 l0_2.length c0_2] 72 (0, 0)) (by (with_reducible repeat (first | refine blk_drewN ?_ _ | refine blk_drew ?_ | refine blk_alloc ?_ _)); exact BK119.out)) : gb121 ≠ gb119)); have n8_ := Aside0.mk ((by rw [hg]; exact Nat.ne_of_lt (blk_lt (g := gb120) (o := .cells #[.int .i64 0, .int .i64 0, .slice none 0 0] 39 (0, 0)) (by (with_reducible repeat (first | refine blk_drewN ?_ _ | refine blk_drew ?_ | refine blk_alloc ?_ _)); exact BK120.out)) : gb120 ≠ gb121)); have n9_ := Aside0.mk ((by rw [hg]; exact Nat.ne_of_gt (blk_lt (g := gb120) (o := .cells #[.int .i64 0, .int .i64 0, .slice none 0 0] 39 (0, 0)) (by (with_reducible repeat (first | refine blk_drewN ?_ _ | refine blk_drew ?_ | refine blk_alloc ?_ _)); exact BK120.out)) : gb121 ≠ gb120)); clear BK119; clear BK120; clear HB; have BK119 := n0_; have BK120 := n1_; have HB := n2_; have BK121 := n3_; have GW121 := n4_; have GE121 := n5_; have NB119_121 := n6_; have NB121_119 := n7_; have NB120_121 := n8_; have NB121_120 := n9_; clear n0_ n1_ n2_ n3_ n4_ n5_ n6_ n7_ n8_ n9_; clear hb hbox hg; have hnb7 := NB119_120.out; have hnc7 := NB120_119.out; have hnb8 := NB119_121.out; have hnc8 := NB121_119.out; have hcz9_0 : w6.cell? ⟨gb119, 0, none⟩ = some (.int .i64 a0_0) := (blk_cell BK119.out 0).trans rfl; have hcz9_1 : w6.cell? ⟨gb119, 1, none⟩ = some (.int .i64 a0_1) := (blk_cell BK119.out 1).trans rfl; have hcz9_2 : w6.cell? ⟨gb119, 2, none⟩ = some (.slice A0_2 l0_2.length c0_2) := (blk_cell BK119.out 2).trans rfl; have hfz9_0 := blk_frozen BK119.out 0; have hfz9_1 := blk_frozen BK119.out 1; have hfz9_2 := blk_frozen BK119.out 2; have hnb10 := NB121_120.out; have hnc10 := NB120_121.out; have hcz11_0 : w6.cell? ⟨gb121, 0, none⟩ = some (.int .i64 0) := (blk_cell BK121.out 0).trans rfl; have hcz11_1 : w6.cell? ⟨gb121, 1, none⟩ = some (.int .i64 0) := (blk_cell BK121.out 1).trans rfl; have hcz11_2 : w6.cell? ⟨gb121, 2, none⟩ = some (.slice none 0 0) := (blk_cell BK121.out 2).trans rfl; have hfz11_0 := blk_frozen BK121.out 0; have hfz11_1 := blk_frozen BK121.out 1; have hfz11_2 := blk_frozen BK121.out 2) | ((with_reducible refine gate_callee (f := 28) rfl ?_); refine goesL_ (some 15) rfl rfl Try.func28 (by kernel_rfl) rfl #[.slice A0_2 l0_2.length c0_2, .bool a1] rfl (by (try simp only [List.map_toArray, List.map_cons, List.map_nil]); first | done | rfl | (simp only [List.length_drop, List.length_take]; rfl)) ?_; (with_reducible refine (toS_calls _ _ l0_2 a1 _ ?side1 ?side2).mono ?_); (case side1 => exact Kd.C_below HR0_2.out (by repeat (first | (with_reducible first | exact HB.out | apply below_alloc | apply pw_below_drewN | apply below_drew1 | refine below_set ?_ GE119.out | refine below_set ?_ GE120.out | refine below_set ?_ GE121.out) | exact HB.out))); (case side2 => exact HL.out); rintro e w12 ⟨Ao13, co13, rfl, hle_, ho0, hb⟩; have HLE := Aside0.mk hle_; clear hle_; refine ⟨_, rfl, ?_⟩; have n0_ := Aside0.mk (Kd.R_lower ho0 (below_size (by repeat (first | (with_reducible first | exact HB.out | apply below_alloc | apply pw_below_drewN | apply below_drew1 | refine below_set ?_ GE119.out | refine below_set ?_ GE120.out | refine below_set ?_ GE121.out) | exact HB.out)))); have n1_ := Aside0.mk (blk_below (g := gb119) (o := .cells #[.int .i64 a0_0, .int .i64 a0_1, .slice A0_2 l0_2.length c0_2] 72 (0, 0)) (by (with_reducible repeat (first | refine blk_drewN ?_ _ | refine blk_drew ?_ | refine blk_alloc ?_ _)); refine blk_far ?_ NB119_121.out _; (with_reducible repeat (first | refine blk_drewN ?_ _ | refine blk_drew ?_ | refine blk_alloc ?_ _)); refine blk_far ?_ NB119_121.out _; (with_reducible repeat (first | refine blk_drewN ?_ _ | refine blk_drew ?_ | refine blk_alloc ?_ _)); exact BK119.out) hb); have n2_ := Aside0.mk (blk_below (g := gb120) (o := .cells #[.int .i64 0, .int .i64 0, .slice none 0 0] 39 (0, 0)) (by (with_reducible repeat (first | refine blk_drewN ?_ _ | refine blk_drew ?_ | refine blk_alloc ?_ _)); refine blk_far ?_ NB120_121.out _; (with_reducible repeat (first | refine blk_drewN ?_ _ | refine blk_drew ?_ | refine blk_alloc ?_ _)); refine blk_far ?_ NB120_121.out _; (with_reducible repeat (first | refine blk_drewN ?_ _ | refine blk_drew ?_ | refine blk_alloc ?_ _)); exact BK120.out) hb); have n3_ := Aside0.mk (blk_below (g := gb121) (o := .cells #[.int .i64 a0_0, .int .i64 a0_1, .slice none 0 0] 39 (0, 0)) (by (with_reducible repeat (first | refine blk_drewN ?_ _ | refine blk_drew ?_ | refine blk_alloc ?_ _)); refine blk_put (cs := #[.int .i64 a0_0, .int .i64 0, .slice none 0 0]) ?_ 1 _ rfl; (with_reducible repeat (first | refine blk_drewN ?_ _ | refine blk_drew ?_ | refine blk_alloc ?_ _)); refine blk_put (cs := #[.int .i64 0, .int .i64 0, .slice none 0 0]) ?_ 0 _ rfl; (with_reducible repeat (first | refine blk_drewN ?_ _ | refine blk_drew ?_ | refine blk_alloc ?_ _)); exact BK121.out) hb); have n4_ := Aside0.mk (below_step (by repeat (first | (with_reducible first | exact HB.out | apply below_alloc | apply pw_below_drewN | apply below_drew1 | refine below_set ?_ GE119.out | refine below_set ?_ GE120.out | refine below_set ?_ GE121.out) | exact HB.out)) hb); clear BK119; clear BK120; clear BK121; clear HB; have HO124 := n0_; have BK119 := n1_; have BK120 := n2_; have BK121 := n3_; have HB := n4_; clear n0_ n1_ n2_ n3_ n4_; (try clear hb); (try clear hb2); (try clear hk); (try clear hi); (try clear ho0); have hcz14_0 : w12.cell? ⟨gb121, 0, none⟩ = some (.int .i64 a0_0) := (blk_cell BK121.out 0).trans rfl; have hcz14_1 : w12.cell? ⟨gb121, 1, none⟩ = some (.int .i64 a0_1) := (blk_cell BK121.out 1).trans rfl; have hcz14_2 : w12.cell? ⟨gb121, 2, none⟩ = some (.slice none 0 0) := (blk_cell BK121.out 2).trans rfl; have hfz14_0 := blk_frozen BK121.out 0; have hfz14_1 := blk_frozen BK121.out 1; have hfz14_2 := blk_frozen BK121.out 2; have hcz15_0 : w12.cell? ⟨gb120, 0, none⟩ = some (.int .i64 0) := (blk_cell BK120.out 0).trans rfl; have hcz15_1 : w12.cell? ⟨gb120, 1, none⟩ = some (.int .i64 0) := (blk_cell BK120.out 1).trans rfl; have hcz15_2 : w12.cell? ⟨gb120, 2, none⟩ = some (.slice none 0 0) := (blk_cell BK120.out 2).trans rfl; have hfz15_0 := blk_frozen BK120.out 0; have hfz15_1 := blk_frozen BK120.out 1; have hfz15_2 := blk_frozen BK120.out 2))
  refine bodyPost_ret (results_cell_row rfl _ _ gb120 39 #[.int .i64 a0_0, .int .i64 a0_1, .slice Ao13 (fulS a1 l0_2).2 co13] (0, 0) _ rfl (by (with_reducible repeat (first | refine blk_drewN ?_ _ | refine blk_drew ?_ | refine blk_alloc ?_ _)); refine blk_put (cs := #[.int .i64 a0_0, .int .i64 a0_1, .slice none 0 0]) ?_ 2 _ rfl; (with_reducible repeat (first | refine blk_drewN ?_ _ | refine blk_drew ?_ | refine blk_alloc ?_ _)); refine blk_put (cs := #[.int .i64 a0_0, .int .i64 0, .slice none 0 0]) ?_ 1 _ rfl; (with_reducible repeat (first | refine blk_drewN ?_ _ | refine blk_drew ?_ | refine blk_alloc ?_ _)); refine blk_put (cs := #[.int .i64 0, .int .i64 0, .slice none 0 0]) ?_ 0 _ rfl; (with_reducible repeat (first | refine blk_drewN ?_ _ | refine blk_drew ?_ | refine blk_alloc ?_ _)); refine blk_far ?_ NB120_121.out _; (with_reducible repeat (first | refine blk_drewN ?_ _ | refine blk_drew ?_ | refine blk_alloc ?_ _)); exact BK120.out) Try.underlying39 rfl (by kernel_rfl)) rfl ?_
  exact ⟨Ao13, co13, by first | rfl | (simp <;> rfl) | (simp [*] <;> rfl), HLE.out, by (with_reducible repeat (first | apply Kd.R_alloc | apply Kd.R_drewN | apply Kd.R_drew)); exact Kd.R_mono (Kd.R_bound (Kd.R_far (p := ⟨gb120, 2, none⟩) (Kd.R_far (p := ⟨gb120, 1, none⟩) (Kd.R_far (p := ⟨gb120, 0, none⟩) (Kd.R_far (p := ⟨gb121, 2, none⟩) (Kd.R_types (Kd.R_types HO124.out BK121.out (by decide)) BK120.out (by decide)) (fun _ hk => hk.1.2) (.slice Ao13 (fulS a1 l0_2).2 co13)) (fun _ hk => hk.2) (.int .i64 a0_0)) (fun _ hk => hk.2) (.int .i64 a0_1)) (fun _ hk => hk.2) (.slice Ao13 (fulS a1 l0_2).2 co13))) (fun _ hk => hk.2.1), by repeat (first | (with_reducible first | exact HB.out | apply below_alloc | apply pw_below_drewN | apply below_drew1 | refine below_set ?_ GE119.out | refine below_set ?_ GE120.out | refine below_set ?_ GE121.out) | exact HB.out)⟩
set_option maxHeartbeats 8000000 in
set_option maxRecDepth 100000 in
theorem intD_calls (a0_0 : Int) (a0_1 : Int) (A0_2 A1_2 : Option Addr) (c0_2 c1_2 : Nat) (l0_2 : List ByteArray) (n : Nat) (w : World) (hr0 : Kd.C Kd.string w A0_2 l0_2.length l0_2) (hc0 : l0_2.length ≤ c0_2) (hr1 : Kd.C Kd.string w A1_2 l0_2.length l0_2) (hc1 : l0_2.length ≤ c1_2) (hN : FulN l0_2.length n) :
    Calls Try.prog 68 #[.agg #[.int .i64 a0_0, .int .i64 a0_1, .slice A0_2 n c0_2], .agg #[.int .i64 a0_0, .int .i64 a0_1, .slice A1_2 n c1_2]] w fun e w' => e = .returned (.bool true) ∧ Below w.heap.size w w' := by
  have hu39 := Try.underlying39
  have HR0_2 := Aside0.mk hr0
  have HC0_2 := Aside0.mk hc0
  have HR1_2 := Aside0.mk hr1
  have HC1_2 := Aside0.mk hc1
  have HN := Aside0.mk hN
  clear hr0 hc0 hr1 hc1 hN
  have HB := Aside0.mk (Below.refl w.heap.size w)
  have e00 : (a0_0 == a0_0) = true := by simp
  have e01 : (a0_0 != a0_0) = false := by simp
  have e10 : (a0_1 == a0_1) = true := by simp
  have e11 : (a0_1 != a0_1) = false := by simp
  go_enter Try.func68, Try.ntmps68
  go_wp2_with (first | ((with_reducible refine gate_dst (N := 2) rfl ?_); refine box_event ?hg (N := 2) ?hd (cs := #[.int .i64 a0_0, .int .i64 a0_1, .slice A0_2 n c0_2]) (t := 39) ?hr ?_; (case hd => rfl); (case hg => rfl); (case hr => first | (go_simp; done) | (go_simp; rfl)); intro gb168 hg w7 hbox hb; have n0_ := Aside0.mk (below_step (by repeat (first | (with_reducible first | exact HB.out | apply below_alloc | apply pw_below_drewN | apply below_drew1) | exact HB.out)) hb); have n1_ := Aside0.mk (hbox); have n2_ := Aside0.mk ((by rw [hg]; exact (below_size (by repeat (first | (with_reducible first | exact HB.out | apply below_alloc | apply pw_below_drewN | apply below_drew1) | exact HB.out))) : w.heap.size ≤ gb168)); have n3_ := Aside0.mk ((by rw [hg]; exact (below_size (by repeat (first | (with_reducible first | exact HB.out | apply below_alloc | apply pw_below_drewN | apply below_drew1) | exact HB.out))) : w.heap.size ≤ gb168)); clear HB; have HB := n0_; have BK168 := n1_; have GW168 := n2_; have GE168 := n3_; clear n0_ n1_ n2_ n3_; clear hb hbox hg) | ((with_reducible refine gate_dst (N := 3) rfl ?_); refine box_event ?hg (N := 3) ?hd (cs := #[.int .i64 a0_0, .int .i64 a0_1, .slice A1_2 n c1_2]) (t := 39) ?hr ?_; (case hd => rfl); (case hg => rfl); (case hr => first | (go_simp; done) | (go_simp; rfl)); intro gb169 hg w8 hbox hb; have n0_ := Aside0.mk (blk_below (g := gb168) (o := .cells #[.int .i64 a0_0, .int .i64 a0_1, .slice A0_2 n c0_2] 39 (0, 0)) (by (with_reducible repeat (first | refine blk_drewN ?_ _ | refine blk_drew ?_ | refine blk_alloc ?_ _)); exact BK168.out) hb); have n1_ := Aside0.mk (below_step (by repeat (first | (with_reducible first | exact HB.out | apply below_alloc | apply pw_below_drewN | apply below_drew1 | refine below_set ?_ GE168.out) | exact HB.out)) hb); have n2_ := Aside0.mk (hbox); have n3_ := Aside0.mk ((by rw [hg]; exact (below_size (by repeat (first | (with_reducible first | exact HB.out | apply below_alloc | apply pw_below_drewN | apply below_drew1 | refine below_set ?_ GE168.out) | exact HB.out))) : w.heap.size ≤ gb169)); have n4_ := Aside0.mk ((by rw [hg]; exact (below_size (by repeat (first | (with_reducible first | exact HB.out | apply below_alloc | apply pw_below_drewN | apply below_drew1 | refine below_set ?_ GE168.out) | exact HB.out))) : w.heap.size ≤ gb169)); have n5_ := Aside0.mk ((by rw [hg]; exact Nat.ne_of_lt (blk_lt (g := gb168) (o := .cells #[.int .i64 a0_0, .int .i64 a0_1, .slice A0_2 n c0_2] 39 (0, 0)) (by (with_reducible repeat (first | refine blk_drewN ?_ _ | refine blk_drew ?_ | refine blk_alloc ?_ _)); exact BK168.out)) : gb168 ≠ gb169)); have n6_ := Aside0.mk ((by rw [hg]; exact Nat.ne_of_gt (blk_lt (g := gb168) (o := .cells #[.int .i64 a0_0, .int .i64 a0_1, .slice A0_2 n c0_2] 39 (0, 0)) (by (with_reducible repeat (first | refine blk_drewN ?_ _ | refine blk_drew ?_ | refine blk_alloc ?_ _)); exact BK168.out)) : gb169 ≠ gb168)); clear BK168; clear HB; have BK168 := n0_; have HB := n1_; have BK169 := n2_; have GW169 := n3_; have GE169 := n4_; have NB168_169 := n5_; have NB169_168 := n6_; clear n0_ n1_ n2_ n3_ n4_ n5_ n6_; clear hb hbox hg; have hnb9 := NB168_169.out; have hnc9 := NB169_168.out; have hcz10_0 : w8.cell? ⟨gb168, 0, none⟩ = some (.int .i64 a0_0) := (blk_cell BK168.out 0).trans rfl; have hcz10_1 : w8.cell? ⟨gb168, 1, none⟩ = some (.int .i64 a0_1) := (blk_cell BK168.out 1).trans rfl; have hcz10_2 : w8.cell? ⟨gb168, 2, none⟩ = some (.slice A0_2 n c0_2) := (blk_cell BK168.out 2).trans rfl; have hfz10_0 := blk_frozen BK168.out 0; have hfz10_1 := blk_frozen BK168.out 1; have hfz10_2 := blk_frozen BK168.out 2; have hcz11_0 : w8.cell? ⟨gb169, 0, none⟩ = some (.int .i64 a0_0) := (blk_cell BK169.out 0).trans rfl; have hcz11_1 : w8.cell? ⟨gb169, 1, none⟩ = some (.int .i64 a0_1) := (blk_cell BK169.out 1).trans rfl; have hcz11_2 : w8.cell? ⟨gb169, 2, none⟩ = some (.slice A1_2 n c1_2) := (blk_cell BK169.out 2).trans rfl; have hfz11_0 := blk_frozen BK169.out 0; have hfz11_1 := blk_frozen BK169.out 1; have hfz11_2 := blk_frozen BK169.out 2) | ((with_reducible refine gate_callee (f := 30) rfl ?_); refine goesL_ (some 19) rfl rfl Try.func30 (by kernel_rfl) rfl #[.slice A0_2 n c0_2, .slice A1_2 n c1_2] rfl (by (try simp only [List.map_toArray, List.map_cons, List.map_nil]); first | done | rfl | (simp only [List.length_drop, List.length_take]; rfl)) ?_; (with_reducible refine (intS_calls _ _ _ _ l0_2 n _ ?side1 ?side2 ?side3 ?side4 HN.out).mono ?_); (case side1 => repeat (first | exact (Kd.C_below HR0_2.out HB.out) | (with_reducible refine Kd.C_alloc ?_ _) | (with_reducible refine Kd.C_drewN ?_ _) | (with_reducible refine Kd.C_drew ?_))); (case side2 => exact HC0_2.out); (case side3 => repeat (first | exact (Kd.C_below HR1_2.out HB.out) | (with_reducible refine Kd.C_alloc ?_ _) | (with_reducible refine Kd.C_drewN ?_ _) | (with_reducible refine Kd.C_drew ?_))); (case side4 => exact HC1_2.out); rintro e w' ⟨rfl, ⟨nd, rfl⟩⟩; refine ⟨_, rfl, ?_⟩))
  go_ret
  exact ⟨by first | rfl | (simp <;> rfl) | (simp [*] <;> rfl), by repeat (first | (with_reducible first | exact HB.out | apply below_alloc | apply pw_below_drewN | apply below_drew1 | refine below_set ?_ GE168.out | refine below_set ?_ GE169.out) | exact HB.out)⟩
end Go.Proofs.Ytfnhjaiioojbkaa.Q
end
section
namespace Go.Proofs.Ytfnhjaiioojbkaa.Q
open Go.RowKit Go.Proofs.YtfnhjaiioojbkaaW.PrintWords Go.Proofs.YtfnhjaiioojbkaaW.PrintLast Go.Proofs.YtfnhjaiioojbkaaW.PrintMore
attribute [local go_sem] max2_int min2_int max_two min_two max_three min_three max_four min_four   -- for this text's walks alone
set_option linter.unusedVariables false
set_option linter.unusedSimpArgs false
def laws_fillerDelta.f  : Option (Int × Int × List ByteArray) := some ((-7000000000000000101), (-7000000000000000101), (([(⟨#[126, 115, 112, 97, 114, 101, 126]⟩ : ByteArray)] : List ByteArray)))
set_option maxHeartbeats 8000000 in
set_option maxRecDepth 100000 in
theorem laws_fillerDelta.calls  (r1 : Int) (r2 : Int) (r3 : List ByteArray) (w : World) (h : laws_fillerDelta.f  = some (r1, r2, r3)) :
 Calls Try.prog 64 #[] w fun e w' => ∃ v2_ : Value, e = .returned (.agg #[.int .i64 r1, .int .i64 r2, v2_]) ∧ Kd.R Kd.string 9 w' w.heap.size (fun _ => True) v2_ r3 ∧ Below w.heap.size w w' := by
 have hu39 := Try.underlying39; have HB := Aside0.mk (Below.refl w.heap.size w); have H : (some ((-7000000000000000101), (-7000000000000000101), (([(⟨#[126, 115, 112, 97, 114, 101, 126]⟩ : ByteArray)] : List ByteArray)))) = some (r1, r2, r3) := h; clear h; obtain ⟨y126, hy126⟩ : ∃ y_ : List ByteArray, y_ = (([(⟨#[126, 115, 112, 97, 114, 101, 126]⟩ : ByteArray)] : List ByteArray)) := ⟨_, rfl⟩; (replace H : (some ((-7000000000000000101), (-7000000000000000101), y126)) = some (r1, r2, r3) := by first | (rw [hy126]; with_reducible exact H) | (have H2_ := (Option.bind_some _ _).symm.trans H; rw [hy126]; with_reducible exact H2_) | (have H2_ := (Option.bind_some _ _).symm.trans H; with_reducible exact H2_) | with_reducible exact H | (rw [hy126]; exact H) | exact H); have Ny126 := Aside0.mk hy126; clear hy126; simp only [Option.some.injEq, Prod.mk.injEq] at H; obtain ⟨rfl, rfl, rfl⟩ := H; go_enter Try.func64, Try.ntmps64; go_wp2_with (first | ((with_reducible refine gate_dst (N := 0) rfl ?_); refine box_event ?hg (N := 0) ?hd (cs := #[.int .i64 0, .int .i64 0, .slice none 0 0]) (t := 39) ?hr ?_; (case hd => rfl); (case hg => rfl); (case hr => first | (go_simp; done) | (go_simp; rfl)); intro gb125 hg w1 hbox hb; have n0_ := Aside0.mk (below_step (by repeat (first | (with_reducible first | exact HB.out | apply below_alloc | apply pw_below_drewN | apply below_drew1) | exact HB.out)) hb); have n1_ := Aside0.mk (hbox); have n2_ := Aside0.mk ((by rw [hg]; exact (below_size (by repeat (first | (with_reducible first | exact HB.out | apply below_alloc | apply pw_below_drewN | apply below_drew1) | exact HB.out))) : w.heap.size ≤ gb125)); have n3_ := Aside0.mk ((by rw [hg]; exact (below_size (by repeat (first | (with_reducible first | exact HB.out | apply below_alloc | apply pw_below_drewN | apply below_drew1) | exact HB.out))) : w.heap.size ≤ gb125)); clear HB; have HB := n0_; have BK125 := n1_; have GW125 := n2_; have GE125 := n3_; clear n0_ n1_ n2_ n3_; clear hb hbox hg) | ((with_reducible refine gate_dst (N := 1) rfl ?_); refine Kd.R_lit Kd.string _ 9 ?hg (N := 1) ?hd (xs := ([(⟨#[126, 115, 112, 97, 114, 101, 126]⟩ : ByteArray)] : List ByteArray)) (inner := [.string (⟨#[126, 115, 112, 97, 114, 101, 126]⟩ : ByteArray)]) (ok := fun _ => True) (okp := fun _ => True) ?hr ?hp (fun _ hk => hk) trivial (Below.refl _ _) (Nat.le_refl _) (by simp) ?_; (case hd => rfl); (case hg => rfl); (case hr => first | (go_simp; done) | (go_simp; rfl)); (case hp => exact (Reps.one (show Kd.M Kd.string _ _ _ (⟨#[126, 115, 112, 97, 114, 101, 126]⟩ : ByteArray) [.string (⟨#[126, 115, 112, 97, 114, 101, 126]⟩ : ByteArray)] from rfl) (Reps.none _ _))); intro v127 w2 ho3 hb hg_ hnew_; clear hg_ hnew_; (first | rw [← Ny126.out] at ho3 | (simp only [Int.reduceToNat] at ho3; rw [← Ny126.out] at ho3)); have n0_ := Aside0.mk (Kd.R_lower ho3 (below_size (by repeat (first | (with_reducible first | exact HB.out | apply below_alloc | apply pw_below_drewN | apply below_drew1 | refine below_set ?_ GE125.out) | exact HB.out)))); have n1_ := Aside0.mk (blk_below (g := gb125) (o := .cells #[.int .i64 0, .int .i64 0, .slice none 0 0] 39 (0, 0)) (by (with_reducible repeat (first | refine blk_drewN ?_ _ | refine blk_drew ?_ | refine blk_alloc ?_ _)); exact BK125.out) hb); have n2_ := Aside0.mk (below_step (by repeat (first | (with_reducible first | exact HB.out | apply below_alloc | apply pw_below_drewN | apply below_drew1 | refine below_set ?_ GE125.out) | exact HB.out)) hb); clear BK125; clear HB; have HO128 := n0_; have BK125 := n1_; have HB := n2_; clear n0_ n1_ n2_; clear hb ho3; obtain ⟨Ao4, co4, eo4⟩ := Kd.R_slice HO128.out; subst eo4; have hcz5_0 : w2.cell? ⟨gb125, 0, none⟩ = some (.int .i64 0) := (blk_cell BK125.out 0).trans rfl; have hcz5_1 : w2.cell? ⟨gb125, 1, none⟩ = some (.int .i64 0) := (blk_cell BK125.out 1).trans rfl; have hcz5_2 : w2.cell? ⟨gb125, 2, none⟩ = some (.slice none 0 0) := (blk_cell BK125.out 2).trans rfl; have hfz5_0 := blk_frozen BK125.out 0; have hfz5_1 := blk_frozen BK125.out 1; have hfz5_2 := blk_frozen BK125.out 2))
 refine bodyPost_ret (results_cell_row rfl _ _ gb125 39 #[.int .i64 (-7000000000000000101), .int .i64 (-7000000000000000101), .slice Ao4 y126.length co4] (0, 0) _ rfl (by (with_reducible repeat (first | refine blk_drewN ?_ _ | refine blk_drew ?_ | refine blk_alloc ?_ _)); refine blk_put (cs := #[.int .i64 (-7000000000000000101), .int .i64 (-7000000000000000101), .slice none 0 0]) ?_ 2 _ rfl; (with_reducible repeat (first | refine blk_drewN ?_ _ | refine blk_drew ?_ | refine blk_alloc ?_ _)); refine blk_put (cs := #[.int .i64 (-7000000000000000101), .int .i64 0, .slice none 0 0]) ?_ 1 _ rfl; (with_reducible repeat (first | refine blk_drewN ?_ _ | refine blk_drew ?_ | refine blk_alloc ?_ _)); refine blk_put (cs := #[.int .i64 0, .int .i64 0, .slice none 0 0]) ?_ 0 _ rfl; (with_reducible repeat (first | refine blk_drewN ?_ _ | refine blk_drew ?_ | refine blk_alloc ?_ _)); exact BK125.out) Try.underlying39 rfl (by kernel_rfl)) rfl ?_; exact ⟨_, by first | rfl | (simp <;> rfl) | (simp [*] <;> rfl), by (with_reducible repeat (first | apply Kd.R_alloc | apply Kd.R_drewN | apply Kd.R_drew)); exact Kd.R_mono (Kd.R_far (p := ⟨gb125, 2, none⟩) (Kd.R_far (p := ⟨gb125, 1, none⟩) (Kd.R_far (p := ⟨gb125, 0, none⟩) (Kd.R_types HO128.out BK125.out (by decide)) (fun _ hk => hk.2) (.int .i64 (-7000000000000000101))) (fun _ hk => hk.2) (.int .i64 (-7000000000000000101))) (fun _ hk => hk.2) (.slice Ao4 y126.length co4)) (fun _ hk => trivial), by repeat (first | (with_reducible first | exact HB.out | apply below_alloc | apply pw_below_drewN | apply below_drew1 | refine below_set ?_ GE125.out) | exact HB.out)⟩
end Go.Proofs.Ytfnhjaiioojbkaa.Q
end
section
namespace Go.Proofs.Ytfnhjaiioojbkaa.Q
open Go.RowKit Go.Proofs.YtfnhjaiioojbkaaW.PrintWords Go.Proofs.YtfnhjaiioojbkaaW.PrintLast Go.Proofs.YtfnhjaiioojbkaaW.PrintMore
attribute [local go_sem] max2_int min2_int max_two min_two max_three min_three max_four min_four
set_option linter.unusedVariables false
set_option linter.unusedSimpArgs false
/-- A fresh element is stored into a row that is older. -/
theorem S_putnew {α : Type} {d : Kd α} {e g n cap : Nat} {W w1 : World} {base : Nat} {ok : Nat → Prop} {xs : List α} (h : Kd.S d e W base ok (.slice (some ⟨g, 0, none⟩) n cap) xs) (hg : g < W.heap.size) (z : α) (i : Int) (h0 : 0 ≤ i) (h1 : i < n)
    {x' : α} {cs : List Value} (hM : d.M w1 W.heap.size (fun k => W.heap.size ≤ k) x' cs) (hb : Below W.heap.size W w1) (hbase : base ≤ W.heap.size) (hok : ∀ k, W.heap.size ≤ k → ok k) :
    ∃ c : List Value, c.length = d.sz ∧ (∀ j u, c[j]? = some u → w1.cell? ⟨g, i.toNat * d.sz + j, none⟩ = some u) ∧ (∀ j, w1.frozen? ⟨g, i.toNat * d.sz + j, none⟩ = false) ∧
      Kd.S d e (w1.setCells g (i.toNat * d.sz) cs) base ok (.slice (some ⟨g, 0, none⟩) n cap) (xs.set i.toNat x') ∧ w1.grownBy (w1.setCells g (i.toNat * d.sz) cs) (some g) := by
  have h2 : Kd.S d e w1 base (fun k => ok k ∧ ¬ W.heap.size ≤ k) (.slice (some ⟨g, 0, none⟩) n cap) xs :=
    Kd.S_below (Kd.S_mono (Kd.S_bound h) (fun k hk => ⟨hk.1, Nat.not_le.mpr hk.2.2.1⟩)) hb
  obtain ⟨oki, c, hcl, _, hcc, hfr, hoki, hH⟩ := Kd.S_elem h2 z i h0 h1
  have hl : cs.length = d.sz := d.K_len (d.K_of_M hM)
  obtain ⟨p1, p2⟩ := Kd.S_seg (okp := fun k => W.heap.size ≤ k) hH h0 h1 (seg := cs) (j := 0) (by omega) (x' := x') (by
    have e : c.take 0 ++ cs ++ c.drop (0 + cs.length) = cs := by rw [Nat.zero_add, hl, ← hcl]; simp
    rw [e]
    exact d.M_lower hbase hM) (fun k hk => .inr hk) (fun k hk => ⟨hok k hk, by omega⟩)
  exact ⟨c, hcl, hcc, hfr, p1, p2⟩
def kDF : Kd (Int × Int × (List ByteArray × Nat)) := Kd.pair (Kd.int .i64) (Kd.pair (Kd.int .i64) (fsl 9 Kd.string))
theorem kDF_mk {w : World} {base : Nat} {ok : Nat → Prop} {a b : Int} {F : List ByteArray × Nat} {A : Option Addr} {c : Nat} (hn : F.2 ≤ F.1.length) (h : Kd.R Kd.string 9 w base ok (.slice A F.1.length c) F.1) :
    kDF.M w base ok (a, b, F) [.int .i64 a, .int .i64 b, .slice A F.2 c] :=
  ⟨[.int .i64 a], [.int .i64 b, .slice A F.2 c], rfl, rfl, ⟨[.int .i64 b], [.slice A F.2 c], rfl, rfl, ⟨A, c, rfl, hn, h⟩⟩⟩
def zDF : Int × Int × (List ByteArray × Nat) := (0, 0, [], 0)
def fillDF : Int × Int × (List ByteArray × Nat) := (-7000000000000000101, -7000000000000000101, [spareS], 1)
def toDF (b : Bool) (x : S72) : Int × Int × (List ByteArray × Nat) := (x.f0, x.f1, fulS b x.f2)
def fulDS (b : Bool) (l : List S72) : List (Int × Int × (List ByteArray × Nat)) × Nat := if b = true ∧ l = [] then ([], 0) else (l.map (toDF b) ++ List.replicate (room l.length) fillDF, l.length)
theorem fillD_calls (w : World) :
    Calls Try.prog 64 #[] w fun e w' => ∃ A c, e = .returned (.agg #[.int .i64 (-7000000000000000101), .int .i64 (-7000000000000000101), .slice A ([spareS], 1).2 c]) ∧ ([spareS], 1).2 ≤ ([spareS], 1).1.length ∧
      Kd.R Kd.string 9 w' w.heap.size (fun k => w.heap.size ≤ k) (.slice A ([spareS], 1).1.length c) ([spareS], 1).1 ∧ Below w.heap.size w w' :=
  (laws_fillerDelta.calls _ _ _ w rfl).mono fun e w' ⟨v, he, ho, hb⟩ => by
    obtain ⟨A, c, rfl⟩ := Kd.R_slice ho
    exact ⟨A, c, he, Nat.le_refl _, Kd.R_mono (Kd.R_bound ho) (fun k hk => hk.2.1), hb⟩
set_option maxHeartbeats 4000000 in
set_option maxRecDepth 100000 in
theorem toDS_calls (A0 : Option Addr) (c0 : Nat) (l0 : List S72) (b : Bool) (w : World) (hr0 : Kd.C k72 w A0 l0.length l0) (hl : l0.length ≤ 1000000) (hx : ∀ x ∈ l0, x.f2.length ≤ 1000000) :
    Calls Try.prog 17 #[.slice A0 l0.length c0, .bool b] w fun e w' => ∃ A c, e = .returned (.slice A (fulDS b l0).2 c) ∧ (fulDS b l0).2 ≤ (fulDS b l0).1.length ∧
      Kd.S kDF 39 w' w.heap.size (fun k => w.heap.size ≤ k) (.slice A (fulDS b l0).1.length c) (fulDS b l0).1 ∧ Below w.heap.size w w' := by
  have hu72 := Try.underlying72
  have hu39 := Try.underlying39
  have HR0 := Aside0.mk hr0
  have HL := Aside0.mk hl
  have HX := Aside0.mk hx
  have HB := Aside0.mk (Below.refl w.heap.size w)
  clear hr0 hl hx
  obtain ⟨F, hF⟩ : ∃ F, fulDS b l0 = F := ⟨_, rfl⟩
  rw [hF]
  have HF := Aside0.mk hF
  clear hF
  go_enter Try.func17, Try.ntmps17
  go_upto_region 1 with (fail)
  go_cut [13] (fun v13 wc => v13 = .bool (b && ((l0.length : Int) == 0)) ∧ Aside0 (Below w.heap.size w wc))
  case first =>
    cases b
    · go_wp2
      go_meet
      case rel => exact ⟨rfl, ⟨by repeat (first | (with_reducible first | exact HB.out | apply below_alloc | apply pw_below_drewN | apply below_drew1) | exact HB.out)⟩⟩
    · go_wp2
      go_meet
      case rel => exact ⟨rfl, ⟨by repeat (first | (with_reducible first | exact HB.out | apply below_alloc | apply pw_below_drewN | apply below_drew1) | exact HB.out)⟩⟩
  case rest =>
    clear HB
    obtain ⟨rfl, HB⟩ := hcut
    by_cases hb : b = true ∧ l0 = []
    · have hf : fulDS b l0 = ([], 0) := if_pos hb
      have hF := HF.out.symm.trans hf
      subst hF
      obtain ⟨rfl, rfl⟩ := hb
      go_wp2
      go_ret
      exact ⟨none, 0, rfl, Kd.S_nil _ _ _ _ _, HB.out⟩
    · have hf : fulDS b l0 = (l0.map (toDF b) ++ List.replicate (room l0.length) fillDF, l0.length) := if_neg hb
      have HF2 := Aside0.mk (HF.out.symm.trans hf)
      have hc : (b && ((l0.length : Int) == 0)) = false := by
        cases b
        · rfl
        · simp only [Bool.true_and, beq_eq_false_iff_ne, ne_eq]
          intro h
          exact hb ⟨rfl, List.length_eq_zero_iff.mp (by omega)⟩
      rw [hc]
      clear hc hb hf HF
      have hrl := room_le l0.length
      obtain ⟨N, hN⟩ : ∃ N, l0.length + room l0.length = N := ⟨_, rfl⟩
      have HN := Aside0.mk hN
      have HNb := Aside0.mk (show N ≤ 2000001 by have := HL.out; omega)
      have hw : wrap64 ((l0.length : Int) + (room l0.length : Int)) = (N : Int) := by
        have := HL.out
        unfold wrap64; omega
      have hw2 : (IntKind.i64.wrap ((l0.length : Int) + (room l0.length : Int))) = (N : Int) := (i64_w _).trans hw
      have hN2 : (N : Int).toNat ≤ 7036874417766 := by have := HL.out; omega
      have h0 : 0 ≤ (N : Int) := by omega
      have R9 := Aside0.mk (room_ev l0.length)
      clear hrl hN
      go_wp2_with (first | ((with_reducible refine gate_callee (f := 62) rfl ?_); refine goesL_ (some 18) rfl rfl Try.func62 (by kernel_rfl) rfl #[.int .i64 (l0.length : Int)] rfl (by (try simp only [List.map_toArray, List.map_cons, List.map_nil]); first | done | rfl) ?_; (with_reducible refine (laws_roomBehind.calls (l0.length : Int) _ _ R9.out).mono ?_); rintro e w' ⟨rfl, ⟨nd, rfl⟩⟩; refine ⟨_, rfl, ?_⟩) | ((with_reducible refine gate_dst (N := 20) rfl ?_); (try (refine gate_guard (by rfl) ?_; dsimp only)); refine Kd.S_make kDF _ 39 rfl (N := 20) rfl 25 _ _ rfl (N : Int) rfl rfl Try.underlying25 (.agg #[(.int .i64 0), (.int .i64 0), (.slice none 0 0)]) 40 info39 rfl (by decide) (by omega) zDF (ok := fun _ => True) (okp := fun _ => True) (kDF_mk (Nat.le_refl _) (Kd.R_nil _ _ _ _ _)) (fun _ hk => hk) trivial h0 (Nat.le_trans (Nat.mul_le_mul_right _ hN2) (by omega)) (Below.refl _ _) (Nat.le_refl _) ?_; intro v111 w10 ho11 hb hg_ hnew_; clear hg_ hnew_; have n0_ := Aside0.mk (Kd.S_lower ho11 (below_size (by repeat (first | (with_reducible first | exact HB.out | apply below_alloc | apply pw_below_drewN | apply below_drew1) | exact HB.out)))); have n1_ := Aside0.mk (below_step (by repeat (first | (with_reducible first | exact HB.out | apply below_alloc | apply pw_below_drewN | apply below_drew1) | exact HB.out)) hb); clear HB; have HO := n0_; have HB := n1_; clear n0_ n1_; clear hb ho11))
      clear hw hw2 hN2 h0 R9
      rw [show List.replicate (N : Int).toNat zDF = (l0.take 0).map (toDF b) ++ List.replicate (N - 0) zDF by simp] at HO
      obtain ⟨Ao, co, eo⟩ := Kd.S_slice HO.out
      subst eo
      rw [show ((l0.take 0).map (toDF b) ++ List.replicate (N - 0) zDF).length = N by simp] at HO ⊢
      go_loopg [6] l0.length (fun gg v6 wr => ∃ i : Nat, v6 = .int .i64 i ∧ i ≤ l0.length ∧ l0.length - i ≤ gg ∧ Aside0 (Kd.S kDF 39 wr w.heap.size (fun _ => True) (.slice Ao N co) ((l0.take i).map (toDF b) ++ List.replicate (N - i) zDF)) ∧ Aside0 (Below w.heap.size w wr))
      case atStart => exact ⟨0, rfl, Nat.zero_le _, by omega, HO, HB⟩
      case round =>
        clear HO HB
        obtain ⟨i, rfl, hi, hg, HO, HB⟩ := hrel
        by_cases hlt : i < l0.length
        · have HLT := Aside0.mk hlt
          have hib : i ≤ 1000000 := by have := HL.out; omega
          have hlN : i < N := by have := HN.out; omega
          have hltz : (i : Int) < (l0.length : Int) := by omega
          have hlen : ((l0.take i).map (toDF b) ++ List.replicate (N - i) zDF).length = N := by simp; omega
          obtain ⟨ad, A2, c2, rfl, hx0, hx1, hx2, hl2, hi2⟩ := at_T72 HR0.out (i : Int) (by omega) hltz
          replace hx0 := (HB.out.cell (World.block_lt_of_cell? w _ hx0)).trans hx0
          replace hx1 := (HB.out.cell (World.block_lt_of_cell? w _ hx1)).trans hx1
          replace hx2 := (HB.out.cell (World.block_lt_of_cell? w _ hx2)).trans hx2
          have HI2 := Aside0.mk (Kd.C_below hi2 HB.out)
          have hrd : rd_T72 l0 (i : Int) = l0[i] := by simp [rd_T72, List.getD_eq_getElem?_getD, hlt]
          have HX2 := Aside0.mk (show ((rd_T72 l0 (i : Int)).f2).length ≤ 1000000 by rw [hrd]; exact HX.out _ (List.getElem_mem hlt))
          obtain ⟨go, co', eo, gb, gl, cl, HG⟩ := Kd.S_form HO.out (by omega)
          injection eo with ea en ec
          subst ea
          subst ec
          have GB := Aside0.mk gb
          have GL := Aside0.mk gl
          clear gb gl HG en hi2 hl2
          have hNz : (i : Int) < (N : Int) := by omega
          have h0 : 0 ≤ (i : Int) := by omega
          have hset : ((l0.take i).map (toDF b) ++ List.replicate (N - i) zDF).set i (toDF b (rd_T72 l0 (i : Int))) = (l0.take (i + 1)).map (toDF b) ++ List.replicate (N - (i + 1)) zDF := by
            rw [fill_set _ _ _ _ _ (by simp; omega) (by omega), hrd, ← List.take_append_getElem hlt]
            simp only [List.map_append, List.map_cons, List.map_nil]
            rfl
          have HS := Aside0.mk hset
          simp only [Int.toNat_natCast] at hx0 hx1 hx2
          clear hset hlen hrd
          go_wp2_with (first | ((with_reducible refine gate_callee (f := 63) rfl ?_); refine goesL_ (some 34) rfl rfl Try.func63 (by kernel_rfl) rfl #[.agg #[.int .i64 ((rd_T72 l0 (i : Int)).f0), .int .i64 ((rd_T72 l0 (i : Int)).f1), .slice A2 ((rd_T72 l0 (i : Int)).f2).length c2], .bool b] rfl (by (try simp only [List.map_toArray, List.map_cons, List.map_nil]); first | done | rfl) ?_; (refine (toD_calls ((rd_T72 l0 (i : Int)).f0) ((rd_T72 l0 (i : Int)).f1) A2 c2 ((rd_T72 l0 (i : Int)).f2) b _ ?side1 HX2.out).mono ?_); (case side1 => repeat (first | exact HI2.out | (with_reducible refine Kd.C_alloc ?_ _) | (with_reducible refine Kd.C_drewN ?_ _) | (with_reducible refine Kd.C_drew ?_))); rintro e w17 ⟨A3, c3, rfl, hle, ho0, hb⟩; refine ⟨_, rfl, ?_⟩; obtain ⟨cc, hcl, hcc, hfr, p1, p2⟩ := S_putnew (by (with_reducible repeat (first | apply Kd.S_alloc | apply Kd.S_drewN | apply Kd.S_drew)); exact HO.out) (by exact GL.out) zDF (i : Int) h0 hNz (kDF_mk (a := ((rd_T72 l0 (i : Int)).f0)) (b := ((rd_T72 l0 (i : Int)).f1)) (F := (fulS b ((rd_T72 l0 (i : Int)).f2))) hle ho0) hb (below_size (by repeat (first | (with_reducible first | exact HB.out | apply below_alloc | apply pw_below_drewN | apply below_drew1) | exact HB.out))) (fun _ _ => trivial); obtain ⟨u0, u1, u2, rfl⟩ : ∃ u0 u1 u2, cc = [u0, u1, u2] := (by match cc, hcl with | [a, b, c], _ => exact ⟨a, b, c, rfl⟩); have hz0 := hcc 0 _ rfl; have hz1 := hcc 1 _ rfl; have hz2 := hcc 2 _ rfl; have hf0 := hfr 0; have hf1 := hfr 1; have hf2 := hfr 2; simp only [show kDF.sz = 3 from rfl, Int.toNat_natCast, Nat.add_zero] at hz0 hz1 hz2 hf0 hf1 hf2; have P1 := Aside0.mk (show Kd.S kDF 39 (w17.setCells go (i * 3) _) w.heap.size (fun _ => True) (.slice (some ⟨go, 0, none⟩) N co) ((l0.take (i + 1)).map (toDF b) ++ List.replicate (N - (i + 1)) zDF) from (by rw [← HS.out]; exact p1)); have HB2 := Aside0.mk (below_step (by repeat (first | (with_reducible first | exact HB.out | apply below_alloc | apply pw_below_drewN | apply below_drew1) | exact HB.out)) hb); clear HB hcc hfr p1 p2 hb ho0 hle; have HB := HB2; clear HB2) | ((with_reducible refine gate_store (t := 39) (p := 35) rfl ?_); refine store_event (t := 39) (p := 35) (v := ?vo1) (w1 := (((w17.setCell ⟨go, i * 3, none⟩ (.int .i64 ((rd_T72 l0 (i : Int)).f0))).setCell ⟨go, i * 3 + 1, none⟩ (.int .i64 ((rd_T72 l0 (i : Int)).f1))).setCell ⟨go, i * 3 + 2, none⟩ (.slice A3 (fulS b ((rd_T72 l0 (i : Int)).f2)).2 c3))) ?hg ?ho ?hn ?hr ?_; (case ho => rfl); (case hg => rfl); (case hn => rfl); (case hr => first | (go_simp; done) | (go_simp; rfl)); intro w18 hw; have n0_ := Aside0.mk (show Kd.S kDF 39 w18 w.heap.size (fun _ => True) (.slice (some ⟨go, 0, none⟩) N co) ((l0.take (i + 1)).map (toDF b) ++ List.replicate (N - (i + 1)) zDF) from (by rw [hw]; exact P1.out)); have n1_ := Aside0.mk ((by rw [hw]; exact below_set (below_set (below_set (HB.out) GB.out) GB.out) GB.out : Below w.heap.size w w18)); clear P1 HO HB; have HO := n0_; have HB := n1_; clear n0_ n1_; clear hw))
          go_roundg (l0.length - (i + 1))
          case measure => have := HLT.out; omega
          case rel => exact ⟨i + 1, by go_num, HLT.out, by omega, HO, HB⟩
        · obtain rfl : i = l0.length := by omega
          have hltz : ¬ (l0.length : Int) < (l0.length : Int) := by omega
          rw [List.take_length] at HO
          have HO2 : Aside0 (Kd.S kDF 39 wr w.heap.size (fun _ => True) (.slice Ao N co) (l0.map (toDF b) ++ List.replicate (l0.length - l0.length) fillDF ++ List.replicate (N - l0.length) zDF)) := ⟨by rw [Nat.sub_self]; simpa using HO.out⟩
          clear HO
          go_wp2
          go_loopg [7] N (fun gg v7 wr => ∃ i : Nat, v7 = .int .i64 i ∧ l0.length ≤ i ∧ i ≤ N ∧ N - i ≤ gg ∧ Aside0 (Kd.S kDF 39 wr w.heap.size (fun _ => True) (.slice Ao N co) (l0.map (toDF b) ++ List.replicate (i - l0.length) fillDF ++ List.replicate (N - i) zDF)) ∧ Aside0 (Below w.heap.size w wr))
          case atStart => exact ⟨l0.length, rfl, Nat.le_refl _, by have := HN.out; omega, by omega, HO2, HB⟩
          case round =>
            clear HO2 HB hltz hg hi
            obtain ⟨i, rfl, hi, hiN, hg, HO, HB⟩ := hrel
            by_cases hlt : i < N
            · have HLT := Aside0.mk hlt
              have hib : i ≤ 2000001 := by have := HNb.out; omega
              have hlen : (l0.map (toDF b) ++ List.replicate (i - l0.length) fillDF ++ List.replicate (N - i) zDF).length = N := by simp; omega
              obtain ⟨go, co', eo, gb, gl, cl, HG⟩ := Kd.S_form HO.out (by omega)
              injection eo with ea en ec
              subst ea
              subst ec
              have GB := Aside0.mk gb
              have GL := Aside0.mk gl
              clear gb gl HG en
              have hNz : (i : Int) < (N : Int) := by omega
              have h0 : 0 ≤ (i : Int) := by omega
              have hset : (l0.map (toDF b) ++ List.replicate (i - l0.length) fillDF ++ List.replicate (N - i) zDF).set i fillDF = l0.map (toDF b) ++ List.replicate (i + 1 - l0.length) fillDF ++ List.replicate (N - (i + 1)) zDF := by
                rw [fill_set _ _ _ _ _ (by simp; omega) (by omega), List.append_assoc (l0.map (toDF b)), show i + 1 - l0.length = i - l0.length + 1 by omega, List.replicate_succ']
                rfl
              have HS := Aside0.mk hset
              clear hset hlen
              go_wp2_with (first | ((with_reducible refine gate_callee (f := 64) rfl ?_); refine goesL_ (some 46) rfl rfl Try.func64 (by kernel_rfl) rfl #[] rfl (by (try simp only [List.map_toArray, List.map_cons, List.map_nil]); first | done | rfl) ?_; (refine (fillD_calls _).mono ?_); rintro e w17 ⟨A3, c3, rfl, hle, ho0, hb⟩; refine ⟨_, rfl, ?_⟩; obtain ⟨cc, hcl, hcc, hfr, p1, p2⟩ := S_putnew (by (with_reducible repeat (first | apply Kd.S_alloc | apply Kd.S_drewN | apply Kd.S_drew)); exact HO.out) (by exact GL.out) zDF (i : Int) h0 hNz (kDF_mk (a := -7000000000000000101) (b := -7000000000000000101) (F := ([spareS], 1)) hle ho0) hb (below_size (by repeat (first | (with_reducible first | exact HB.out | apply below_alloc | apply pw_below_drewN | apply below_drew1) | exact HB.out))) (fun _ _ => trivial); obtain ⟨u0, u1, u2, rfl⟩ : ∃ u0 u1 u2, cc = [u0, u1, u2] := (by match cc, hcl with | [a, b, c], _ => exact ⟨a, b, c, rfl⟩); have hz0 := hcc 0 _ rfl; have hz1 := hcc 1 _ rfl; have hz2 := hcc 2 _ rfl; have hf0 := hfr 0; have hf1 := hfr 1; have hf2 := hfr 2; simp only [show kDF.sz = 3 from rfl, Int.toNat_natCast, Nat.add_zero] at hz0 hz1 hz2 hf0 hf1 hf2; have P1 := Aside0.mk (show Kd.S kDF 39 (w17.setCells go (i * 3) _) w.heap.size (fun _ => True) (.slice (some ⟨go, 0, none⟩) N co) (l0.map (toDF b) ++ List.replicate (i + 1 - l0.length) fillDF ++ List.replicate (N - (i + 1)) zDF) from (by rw [← HS.out]; exact p1)); have HB2 := Aside0.mk (below_step (by repeat (first | (with_reducible first | exact HB.out | apply below_alloc | apply pw_below_drewN | apply below_drew1) | exact HB.out)) hb); clear HB hcc hfr p1 p2 hb ho0 hle; have HB := HB2; clear HB2) | ((with_reducible refine gate_store (t := 39) (p := 47) rfl ?_); refine store_event (t := 39) (p := 47) (v := ?vo2) (w1 := (((w17.setCell ⟨go, i * 3, none⟩ (.int .i64 (-7000000000000000101))).setCell ⟨go, i * 3 + 1, none⟩ (.int .i64 (-7000000000000000101))).setCell ⟨go, i * 3 + 2, none⟩ (.slice A3 ([spareS], 1).2 c3))) ?hg ?ho ?hn ?hr ?_; (case ho => rfl); (case hg => rfl); (case hn => rfl); (case hr => first | (go_simp; done) | (go_simp; rfl)); intro w18 hw; have n0_ := Aside0.mk (show Kd.S kDF 39 w18 w.heap.size (fun _ => True) (.slice (some ⟨go, 0, none⟩) N co) (l0.map (toDF b) ++ List.replicate (i + 1 - l0.length) fillDF ++ List.replicate (N - (i + 1)) zDF) from (by rw [hw]; exact P1.out)); have n1_ := Aside0.mk ((by rw [hw]; exact below_set (below_set (below_set (HB.out) GB.out) GB.out) GB.out : Below w.heap.size w w18)); clear P1 HO HB; have HO := n0_; have HB := n1_; clear n0_ n1_; clear hw))
              go_roundg (N - (i + 1))
              case measure => have := HLT.out; omega
              case rel => exact ⟨i + 1, by go_num, by omega, HLT.out, by omega, HO, HB⟩
            · obtain rfl : i = N := by omega
              have hltz : ¬ (i : Int) < (i : Int) := by omega
              have hnb : 0 ≤ (l0.length : Int) := by omega
              have hle : (l0.length : Int) ≤ (i : Int) := by omega
              obtain ⟨i0, hi0, _, hsz, _⟩ := info_parts info39
              have hcut := cut_to (P := Try.prog) 25 39 .i64 Try.underlying25 hi0 Ao i co (l0.length : Int) hnb hle (Kd.S_reads' HO.out).2.1
              simp only [Int.toNat_natCast] at hcut
              have hlen : (l0.map (toDF b) ++ List.replicate (i - l0.length) fillDF ++ List.replicate (i - i) zDF) = l0.map (toDF b) ++ List.replicate (room l0.length) fillDF := by have := HN.out; rw [show i - l0.length = room l0.length by omega]; simp
              rw [hlen] at HO
              clear hlen hi0 hsz
              go_wp2
              go_ret
              have hF := HF2.out
              subst hF
              refine ⟨Ao, co, rfl, ?_⟩
              have h2 := HN.out
              simp only [List.length_append, List.length_replicate, List.length_map, h2]
              exact ⟨by omega, Kd.S_mono (Kd.S_bound HO.out) (fun k hk => hk.2.1), HB.out⟩
end Go.Proofs.Ytfnhjaiioojbkaa.Q
end
section
namespace Go.Proofs.Ytfnhjaiioojbkaa.Q
open Go.RowKit Go.Proofs.YtfnhjaiioojbkaaW.PrintWords Go.Proofs.YtfnhjaiioojbkaaW.PrintLast Go.Proofs.YtfnhjaiioojbkaaW.PrintMore
attribute [local go_sem] max2_int min2_int max_two min_two max_three min_three max_four min_four
set_option linter.unusedVariables false
set_option linter.unusedSimpArgs false
theorem C_map {α β : Type} {d : Kd α} {d' : Kd β} {f : α → β} (hs : d'.sz = d.sz) (hf : ∀ w x cs, d.K w x cs → d'.K w (f x) cs) {w : World} {A : Option Addr} {n m : Nat} {xs : List α} (h : d.C w A n xs) (hm : m = n) : d'.C w A m (xs.map f) := by
  subst hm
  refine ⟨by rw [List.length_map]; exact h.1, h.2.1, fun hn => ?_⟩
  obtain ⟨ad, e, hc⟩ := h.2.2 hn
  refine ⟨ad, e, fun j p hj => ?_⟩
  rw [List.getElem?_map] at hj
  obtain ⟨q, hq, rfl⟩ := Option.map_eq_some_iff.mp hj
  obtain ⟨c, h1, h2, h3⟩ := hc j q hq
  exact ⟨c, by rw [hs]; exact h1, hf _ _ _ h2, by rw [hs]; exact h3⟩
theorem fsl_plain {α : Type} {d : Kd α} {e : Nat} {w : World} {x : List α × Nat} {cs : List Value} (h : (fsl e d).K w x cs) : (Kd.slice e d).K w (x.1.take x.2) cs := by
  obtain ⟨A, c, rfl, hn, hl, hC⟩ := h
  have e1 : (x.1.take x.2).length = x.2 := by rw [List.length_take]; omega
  exact ⟨A, c, by rw [e1], by omega, Kd.C_take hC hn⟩
def plD (x : Int × Int × (List ByteArray × Nat)) : S39 := ⟨x.1, x.2.1, x.2.2.1.take x.2.2.2⟩
theorem kDF_plain (w : World) (x : Int × Int × (List ByteArray × Nat)) (cs : List Value) (h : kDF.K w x cs) : k39.K w (plD x) cs := by
  obtain ⟨c0, c1, rfl, h0, ⟨c2, c3, rfl, h1, h2⟩⟩ := h
  exact ⟨c0, _, rfl, h0, ⟨c2, _, rfl, h1, fsl_plain h2⟩⟩
theorem C_plD {w : World} {A : Option Addr} {xs : List (Int × Int × (List ByteArray × Nat))} (h : Kd.C kDF w A xs.length xs) : Kd.C k39 w A (xs.map plD).length (xs.map plD) := by
  rw [List.length_map]
  exact C_map (d := kDF) (d' := k39) (f := plD) rfl kDF_plain h rfl
def rd_DF (xs : List (Int × Int × (List ByteArray × Nat))) (i : Int) : Int × Int × (List ByteArray × Nat) := xs.getD i.toNat zDF
theorem at_DF {w : World} {A : Option Addr} {n : Nat} {xs : List (Int × Int × (List ByteArray × Nat))} (h : Kd.C kDF w A n xs) (i : Int) (h0 : 0 ≤ i) (h1 : i < n) : ∃ ad A2 c2, A = some ad ∧ w.cell? (ad.add (i.toNat * 3)) = some (.int .i64 (rd_DF xs i).1) ∧ w.cell? ⟨(ad.add (i.toNat * 3)).block, (ad.add (i.toNat * 3)).off + 1, none⟩ = some (.int .i64 (rd_DF xs i).2.1) ∧ w.cell? ⟨(ad.add (i.toNat * 3)).block, (ad.add (i.toNat * 3)).off + 2, none⟩ = some (.slice A2 (rd_DF xs i).2.2.2 c2) ∧ (rd_DF xs i).2.2.1.length ≤ c2 ∧ Kd.string.C w A2 (rd_DF xs i).2.2.1.length (rd_DF xs i).2.2.1 := by
  obtain ⟨ad, c, e, _, hK, hc0⟩ := Kd.C_get h zDF i h0 h1
  have hc : ∀ j u, c[j]? = some u → w.cell? (ad.add (i.toNat * 3 + j)) = some u := hc0
  obtain ⟨_, _, rfl, rfl, ⟨_, _, rfl, rfl, ⟨A2, c2, rfl, _, l2, g2⟩⟩⟩ := hK
  exact ⟨ad, A2, c2, e, hc 0 _ rfl, by rw [← add_field _ _ 1 (by omega)]; exact hc 1 _ rfl, by rw [← add_field _ _ 2 (by omega)]; exact hc 2 _ rfl, l2, g2⟩
def intDS_calls_T7 : Bool × List (List Nat × List Nat) := (true, [([], []), ([], []), ([0, 1], [0, 1]), ([2], [2]), ([], []), ([], []), ([4, 5], [4, 5]), ([6], [6]), ([3, 7], [3, 7]), ([8], [8])])
def intDS_calls_B7 : List Nat := [0, 0, 3, 7, 0, 0, 48, 112, 255, 511]
theorem intDS_calls_tab7 : rtab .any (opsOf Try.f19 7) = intDS_calls_T7 := by kernel_rfl
theorem intDS_calls_bits7 : waitsOk intDS_calls_T7.2 intDS_calls_B7 = true := by kernel_rfl
def intDS_calls_T9 : Bool × List (List Nat × List Nat) := (true, [([], []), ([], []), ([1], [1]), ([], []), ([0, 2, 3], [0, 2, 3]), ([], []), ([], []), ([6], [6]), ([], []), ([5, 7, 8], [5, 7, 8]), ([4, 9], [4, 9]), ([10, 10, 0, 1, 2, 3, 4, 5, 6, 7, 8, 9, 10], [10])])
def intDS_calls_B9 : List Nat := [0, 0, 2, 0, 15, 0, 0, 64, 0, 480, 1023, 2047]
theorem intDS_calls_tab9 : rtab .any (opsOf Try.f19 9) = intDS_calls_T9 := by kernel_rfl
theorem intDS_calls_bits9 : waitsOk intDS_calls_T9.2 intDS_calls_B9 = true := by kernel_rfl
set_option maxHeartbeats 8000000 in
set_option maxRecDepth 100000 in
theorem intDS_calls (A0 A1 : Option Addr) (c0 c1 : Nat) (F : List (Int × Int × (List ByteArray × Nat))) (n : Nat) (w : World) (hr0 : Kd.C kDF w A0 F.length F) (hc0 : F.length ≤ c0) (hr1 : Kd.C kDF w A1 F.length F) (hc1 : F.length ≤ c1) (hN : FulN F.length n)
    (hE : ∀ i : Nat, i < n → FulN (rd_DF F i).2.2.1.length (rd_DF F i).2.2.2) (hQ : ∃ K, laws_eqDeltaS.f K ((F.drop n).map plD) ((F.drop n).map plD) = some true) :
    Calls Try.prog 19 #[.slice A0 n c0, .slice A1 n c1] w fun e w' => e = .returned (.bool true) ∧ Below w.heap.size w w' := by
  have hu39 := Try.underlying39
  obtain ⟨KQ, hK⟩ := hQ
  obtain ⟨Y, hY⟩ : ∃ Y, (F.drop n).map plD = Y := ⟨_, rfl⟩
  rw [hY] at hK
  have HQ := Aside0.mk hK
  have HYe := Aside0.mk hY
  have HR0 := Aside0.mk hr0
  have HC0 := Aside0.mk hc0
  have HR1 := Aside0.mk hr1
  have HC1 := Aside0.mk hc1
  have HN := Aside0.mk hN
  have HE := Aside0.mk hE
  have HNl := Aside0.mk (show n ≤ F.length by have := hN.1; omega)
  have HNb := Aside0.mk hN.2
  have hw : wrap64 ((n : Int) + (room n : Int)) = (F.length : Int) := by have := hN.1; have := hN.2; have := room_le n; unfold wrap64; omega
  have hw2 : (IntKind.i64.wrap ((n : Int) + (room n : Int))) = (F.length : Int) := (i64_w _).trans hw
  have R9 := Aside0.mk (room_ev n)
  have e0 : ((n : Int) == (n : Int)) = true := by simp
  have e1 : ((n : Int) != (n : Int)) = false := by simp
  clear hK hY hr0 hc0 hr1 hc1 hN hE
  have HB := Aside0.mk (Below.refl w.heap.size w)
  go_enter Try.func19, Try.ntmps19
  go_wp2_with (first | ((with_reducible refine gate_callee (f := 62) rfl ?_); refine goesL_ (some 11) rfl rfl Try.func62 (by kernel_rfl) rfl #[.int .i64 (n : Int)] rfl (by (try simp only [List.map_toArray, List.map_cons, List.map_nil]); first | done | rfl) ?_; (with_reducible refine (laws_roomBehind.calls (n : Int) _ _ R9.out).mono ?_); rintro e w' ⟨rfl, ⟨nd, rfl⟩⟩; refine ⟨_, rfl, ?_⟩))
  clear hw hw2 e0 e1 R9
  go_loopg [6] n (fun gg v6 w' => ∃ (x6_1 : Int), v6 = .int .i64 x6_1 ∧ 0 ≤ x6_1 ∧ x6_1 ≤ (n : Int) ∧ ((n : Int) - x6_1).toNat ≤ gg ∧ Aside0 (Below w.heap.size w w'))
  case atStart => exact ⟨0, rfl, Int.le_refl _, by omega, by omega, ⟨by repeat (first | (with_reducible first | exact HB.out | apply below_alloc | apply pw_below_drewN | apply below_drew1) | exact HB.out)⟩⟩
  case round =>
    clear HB
    obtain ⟨x6_1, rfl, x0, xn, hg, HB⟩ := hrel
    by_cases c5 : x6_1 < (n : Int)
    · have c5b0 : decide (x6_1 < (n : Int)) = true := decide_eq_true c5
      have c6b0 : decide (0 ≤ x6_1) = true := decide_eq_true x0
      have HEi := Aside0.mk (HE.out x6_1.toNat (by omega))
      have HX := Aside0.mk x0
      have HX2 := Aside0.mk c5
      have HG := Aside0.mk hg
      clear c5 xn hg x0
      · ·
          try go_wp2
          have n0_ := Aside0.mk (below_drew1 HB.out)
          clear HB
          have HB := n0_
          clear n0_
          have p172 : 0 ≤ (x6_1 : Int) := of_decide_eq_true (by assumption)
          have q172 : x6_1 < (n : Int) := of_decide_eq_true (by assumption)
          obtain ⟨ad172, A172_2, c172_2, e172, hx172_0, hx172_1, hx172_2, hl172_2, hi172_2⟩ := at_DF HR0.out x6_1 p172 (by have := HNl.out; omega)
          have hw172_2 := hx172_2
          have hw172_1 := hx172_1
          have hw172_0 := hx172_0
          cases e172
          replace hx172_0 := (HB.out.cell (World.block_lt_of_cell? w _ hx172_0)).trans hx172_0
          replace hx172_1 := (HB.out.cell (World.block_lt_of_cell? w _ hx172_1)).trans hx172_1
          replace hx172_2 := (HB.out.cell (World.block_lt_of_cell? w _ hx172_2)).trans hx172_2
          have HR172_2 := Aside0.mk hi172_2
          have HC172_2 := Aside0.mk hl172_2
          clear hi172_2 hl172_2
          replace p172 := eq_true p172
          replace q172 := eq_true q172
          have p173 : 0 ≤ (x6_1 : Int) := of_decide_eq_true (by assumption)
          have q173 : x6_1 < (n : Int) := of_decide_eq_true (by assumption)
          obtain ⟨ad173, A173_2, c173_2, e173, hx173_0, hx173_1, hx173_2, hl173_2, hi173_2⟩ := at_DF HR1.out x6_1 p173 (by have := HNl.out; omega)
          have hw173_2 := hx173_2
          have hw173_1 := hx173_1
          have hw173_0 := hx173_0
          cases e173
          replace hx173_0 := (HB.out.cell (World.block_lt_of_cell? w _ hx173_0)).trans hx173_0
          replace hx173_1 := (HB.out.cell (World.block_lt_of_cell? w _ hx173_1)).trans hx173_1
          replace hx173_2 := (HB.out.cell (World.block_lt_of_cell? w _ hx173_2)).trans hx173_2
          have HR173_2 := Aside0.mk hi173_2
          have HC173_2 := Aside0.mk hl173_2
          clear hi173_2 hl173_2
          replace p173 := eq_true p173
          replace q173 := eq_true q173
          refine start_ (n := 10) (S := fun w' => w'.cell? (ad172.add ((x6_1).toNat * 3)) = some (.int .i64 ((rd_DF F x6_1).1)) ∧ w'.cell? ⟨(ad172.add ((x6_1).toNat * 3)).block, (ad172.add ((x6_1).toNat * 3)).off + 1, none⟩ = some (.int .i64 ((rd_DF F x6_1).2.1)) ∧ w'.cell? ⟨(ad172.add ((x6_1).toNat * 3)).block, (ad172.add ((x6_1).toNat * 3)).off + 2, none⟩ = some (.slice A172_2 ((rd_DF F x6_1).2.2.2) c172_2) ∧ w'.cell? (ad173.add ((x6_1).toNat * 3)) = some (.int .i64 ((rd_DF F x6_1).1)) ∧ w'.cell? ⟨(ad173.add ((x6_1).toNat * 3)).block, (ad173.add ((x6_1).toNat * 3)).off + 1, none⟩ = some (.int .i64 ((rd_DF F x6_1).2.1)) ∧ w'.cell? ⟨(ad173.add ((x6_1).toNat * 3)).block, (ad173.add ((x6_1).toNat * 3)).off + 2, none⟩ = some (.slice A173_2 ((rd_DF F x6_1).2.2.2) c173_2)) (ds := []) #[f_, f_, f_, f_, f_, f_, f_, f_, f_, f_] (by kernel_rfl) rfl rfl ⟨((HB.out.cell (World.block_lt_of_cell? w _ hw172_0)).trans hw172_0), ((HB.out.cell (World.block_lt_of_cell? w _ hw172_1)).trans hw172_1), ((HB.out.cell (World.block_lt_of_cell? w _ hw172_2)).trans hw172_2), ((HB.out.cell (World.block_lt_of_cell? w _ hw173_0)).trans hw173_0), ((HB.out.cell (World.block_lt_of_cell? w _ hw173_1)).trans hw173_1), ((HB.out.cell (World.block_lt_of_cell? w _ hw173_2)).trans hw173_2)⟩ (fun hHeld => ?_); refine with_tabW intDS_calls_tab7 intDS_calls_bits7 (fun HT_ HW_ => ?_)
          generalize wr.drew = w10 at HB HR172_2 HR173_2 hx172_0 hx172_1 hx172_2 hx173_0 hx173_1 hx173_2 hHeld ⊢
          refine pure_ (i := 0) (N := some 24) (v := ?_) (a' := ?_) #[t_, f_, f_, f_, f_, f_, f_, f_, f_, f_] rfl rfl (any_of HT_.out (by kernel_rfl)) (fun _ _ _ h => h) (Or.inl ⟨by rfl, ?_⟩) ?_ ?_
          rotate_left
          · intro w'
            go_simp
            with_reducible rfl
          rotate_left
          · simp only [Act.put, List.setIfInBounds_toArray, List.set_cons_zero, List.set_cons_succ, i64_w, i32_w]
            rfl
          refine pure_ (i := 1) (N := some 25) (v := ?_) (a' := ?_) #[t_, t_, f_, f_, f_, f_, f_, f_, f_, f_] rfl rfl (any_of HT_.out (by kernel_rfl)) (fun _ _ _ h => h) (Or.inl ⟨by rfl, ?_⟩) ?_ ?_
          rotate_left
          · intro w'
            go_simp
            with_reducible rfl
          rotate_left
          · simp only [Act.put, List.setIfInBounds_toArray, List.set_cons_zero, List.set_cons_succ, i64_w, i32_w]
            rfl
          refine pure_ (i := 2) (N := some 26) (v := ?_) (a' := ?_) #[t_, t_, t_, f_, f_, f_, f_, f_, f_, f_] rfl rfl (any_of HT_.out (by kernel_rfl)) (fun _ _ _ h => h) (Or.inl ⟨by rfl, ?_⟩) ?_ ?_
          rotate_left
          · intro w'
            go_simp
            with_reducible rfl
          rotate_left
          · simp only [Act.put, List.setIfInBounds_toArray, List.set_cons_zero, List.set_cons_succ, i64_w, i32_w]
            rfl
          refine pure_ (i := 4) (N := some 28) (v := ?_) (a' := ?_) #[t_, t_, t_, f_, t_, f_, f_, f_, f_, f_] rfl rfl (any_of HT_.out (by kernel_rfl)) (fun _ _ _ h => h) (Or.inl ⟨by rfl, ?_⟩) ?_ ?_
          rotate_left
          · intro w'
            go_simp
            with_reducible rfl
          rotate_left
          · simp only [Act.put, List.setIfInBounds_toArray, List.set_cons_zero, List.set_cons_succ, i64_w, i32_w]
            rfl
          refine pure_ (i := 5) (N := some 29) (v := ?_) (a' := ?_) #[t_, t_, t_, f_, t_, t_, f_, f_, f_, f_] rfl rfl (any_of HT_.out (by kernel_rfl)) (fun _ _ _ h => h) (Or.inl ⟨by rfl, ?_⟩) ?_ ?_
          rotate_left
          · intro w'
            go_simp
            with_reducible rfl
          rotate_left
          · simp only [Act.put, List.setIfInBounds_toArray, List.set_cons_zero, List.set_cons_succ, i64_w, i32_w]
            rfl
          refine pure_ (i := 6) (N := some 30) (v := ?_) (a' := ?_) #[t_, t_, t_, f_, t_, t_, t_, f_, f_, f_] rfl rfl (any_of HT_.out (by kernel_rfl)) (fun _ _ _ h => h) (Or.inl ⟨by rfl, ?_⟩) ?_ ?_
          rotate_left
          · intro w'
            go_simp
            with_reducible rfl
          rotate_left
          · simp only [Act.put, List.setIfInBounds_toArray, List.set_cons_zero, List.set_cons_succ, i64_w, i32_w]
            rfl
          refine take_ (i := 3) (N := some 27) (v := ?_) (a' := ?_) #[t_, t_, t_, t_, t_, t_, t_, f_, f_, f_] rfl rfl (take_ofW HT_.out HW_.out (by kernel_rfl)) (fun _ _ _ h => h) (Or.inl ⟨by rfl, ?_⟩) hHeld ?_ ?_
          rotate_left
          · rintro w' ⟨s0, s1, s2, s3, s4, s5⟩
            go_simp
            with_reducible rfl
          rotate_left
          · simp only [Act.put, List.setIfInBounds_toArray, List.set_cons_zero, List.set_cons_succ, i64_w, i32_w]
            rfl
          refine take_ (i := 7) (N := some 31) (v := ?_) (a' := ?_) #[t_, t_, t_, t_, t_, t_, t_, t_, f_, f_] rfl rfl (take_ofW HT_.out HW_.out (by kernel_rfl)) (fun _ _ _ h => h) (Or.inl ⟨by rfl, ?_⟩) hHeld ?_ ?_
          rotate_left
          · rintro w' ⟨s0, s1, s2, s3, s4, s5⟩
            go_simp
            with_reducible rfl
          rotate_left
          · simp only [Act.put, List.setIfInBounds_toArray, List.set_cons_zero, List.set_cons_succ, i64_w, i32_w]
            rfl
          refine one_ (i := 8) (N := some 32) #[t_, t_, t_, t_, t_, t_, t_, t_, t_, f_] rfl rfl (one_of HT_.out (by kernel_rfl)) (by decide) (fun K hK => ?_)
          refine goes_ Try.func68 (by kernel_rfl) rfl #[.agg #[.int .i64 ((rd_DF F x6_1).1), .int .i64 ((rd_DF F x6_1).2.1), .slice A172_2 ((rd_DF F x6_1).2.2.2) c172_2], .agg #[.int .i64 ((rd_DF F x6_1).1), .int .i64 ((rd_DF F x6_1).2.1), .slice A173_2 ((rd_DF F x6_1).2.2.2) c173_2]] (by rfl) rfl rfl (by (try simp only [List.map_toArray, List.map_cons, List.map_nil]); first | done | rfl | (simp only [List.length_drop, List.length_take]; rfl)) ?_
          refine (intD_calls ((rd_DF F x6_1).1) ((rd_DF F x6_1).2.1) _ _ _ _ ((rd_DF F x6_1).2.2.1) ((rd_DF F x6_1).2.2.2) _ ?side1 ?side2 ?side3 ?side4 HEi.out).mono ?_
          (case side1 => repeat (first | exact (Kd.C_below HR172_2.out HB.out) | (with_reducible refine Kd.C_alloc ?_ _) | (with_reducible refine Kd.C_drewN ?_ _) | (with_reducible refine Kd.C_drew ?_)))
          (case side2 => exact HC172_2.out)
          (case side3 => repeat (first | exact (Kd.C_below HR173_2.out HB.out) | (with_reducible refine Kd.C_alloc ?_ _) | (with_reducible refine Kd.C_drewN ?_ _) | (with_reducible refine Kd.C_drew ?_)))
          (case side4 => exact HC173_2.out)
          rintro e w11 ⟨rfl, hb⟩
          refine ⟨_, rfl, ?_⟩
          have n0_ := Aside0.mk (below_step (by repeat (first | (with_reducible first | exact HB.out | apply below_alloc | apply pw_below_drewN | apply below_drew1) | exact HB.out)) hb)
          clear HB
          have HB := n0_
          clear n0_
          (try clear hb)
          (try clear hb2)
          (try clear hk)
          (try clear hi)
          refine hK.out _ _ ⟨((HB.out.cell (World.block_lt_of_cell? w _ hw172_0)).trans hw172_0), ((HB.out.cell (World.block_lt_of_cell? w _ hw172_1)).trans hw172_1), ((HB.out.cell (World.block_lt_of_cell? w _ hw172_2)).trans hw172_2), ((HB.out.cell (World.block_lt_of_cell? w _ hw173_0)).trans hw173_0), ((HB.out.cell (World.block_lt_of_cell? w _ hw173_1)).trans hw173_1), ((HB.out.cell (World.block_lt_of_cell? w _ hw173_2)).trans hw173_2)⟩ (fun hHeld => ?_)
          clear hK K
          refine norm_ (a' := ?_) ?_ ?_
          rotate_left
          · show Act.put _ (some 32) _ = _
            simp only [Act.put, List.setIfInBounds_toArray, List.set_cons_zero, List.set_cons_succ, i64_w, i32_w]
            rfl
          refine pure_ (i := 9) (N := some 33) (v := ?_) (a' := ?_) #[t_, t_, t_, t_, t_, t_, t_, t_, t_, t_] rfl rfl (any_of HT_.out (by kernel_rfl)) (fun _ _ _ h => h) (Or.inl ⟨by rfl, ?_⟩) ?_ ?_
          rotate_left
          · intro w'
            go_simp
            with_reducible rfl
          rotate_left
          · simp only [Act.put, List.setIfInBounds_toArray, List.set_cons_zero, List.set_cons_succ, i64_w, i32_w]
            rfl
          refine done_ (done_of HT_.out (by kernel_rfl)) ?_
          try go_wp2
          have x0 := HX.out
          have c5 := HX2.out
          have hg := HG.out
          have nb := HNb.out
          have hw : wrap64 (x6_1 + 1) = x6_1 + 1 := by unfold wrap64; omega
          go_roundg (n - (x6_1.toNat + 1))
          case measure => omega
          case rel => exact ⟨(wrap64 (x6_1 + 1)), (by first | rfl | (simp; done) | (simp [*]; done)), by rw [hw]; omega, by rw [hw]; omega, by rw [hw]; omega, ⟨by repeat (first | (with_reducible first | exact HB.out | apply below_alloc | apply pw_below_drewN | apply below_drew1) | exact HB.out)⟩⟩
    · obtain rfl : x6_1 = (n : Int) := by omega
      have c5b0 : decide ((n : Int) < (n : Int)) = false := decide_eq_false (by omega)
      have nl := HNl.out
      obtain ⟨i0, hi0, _, hsz, _⟩ := info_parts info39
      have hcut0 := up_mid (P := Try.prog) 25 39 .i64 .i64 Try.underlying25 hi0 3 hsz A0 n c0 (n : Int) (F.length : Int) (by omega) (by omega) (by have := HC0.out; omega)
      have hcut1 := up_mid (P := Try.prog) 25 39 .i64 .i64 Try.underlying25 hi0 3 hsz A1 n c1 (n : Int) (F.length : Int) (by omega) (by omega) (by have := HC1.out; omega)
      simp only [Int.toNat_natCast] at hcut0 hcut1
      have hYl : Y.length = F.length - n := by rw [← HYe.out]; simp
      obtain ⟨AY0, hA0⟩ : ∃ A, A = (if c0 = n then A0 else A0.map (·.add (n * 3))) := ⟨_, rfl⟩
      obtain ⟨AY1, hA1⟩ : ∃ A, A = (if c1 = n then A1 else A1.map (·.add (n * 3))) := ⟨_, rfl⟩
      obtain ⟨CY0, hC0⟩ : ∃ c, c = c0 - n := ⟨_, rfl⟩
      obtain ⟨CY1, hC1⟩ : ∃ c, c = c1 - n := ⟨_, rfl⟩
      have HY0 : Aside0 (Kd.C k39 w AY0 Y.length Y) := ⟨by rw [hA0, ← HYe.out]; exact C_plD (Kd.C_drop HR0.out nl HC0.out)⟩
      have HY1 : Aside0 (Kd.C k39 w AY1 Y.length Y) := ⟨by rw [hA1, ← HYe.out]; exact C_plD (Kd.C_drop HR1.out nl HC1.out)⟩
      have HCY0 : Aside0 (Y.length ≤ CY0) := ⟨by have := HC0.out; omega⟩
      have HCY1 : Aside0 (Y.length ≤ CY1) := ⟨by have := HC1.out; omega⟩
      rw [← hYl, ← hA0, ← hC0] at hcut0
      rw [← hYl, ← hA1, ← hC1] at hcut1
      clear hYl hA0 hA1 hC0 hC1 hi0 hsz nl hg xn x0
      · ·
          try go_wp2
          have n0_ := Aside0.mk (below_drew1 HB.out)
          clear HB
          have HB := n0_
          clear n0_
          refine start_ (n := 12) (S := fun w' => True) (ds := []) #[f_, f_, f_, f_, f_, f_, f_, f_, f_, f_, f_, f_] (by kernel_rfl) rfl rfl trivial (fun hHeld => ?_); refine with_tabW intDS_calls_tab9 intDS_calls_bits9 (fun HT_ HW_ => ?_)
          generalize wr.drew = w21 at HB hHeld ⊢
          refine pure_ (i := 0) (N := some 34) (v := ?_) (a' := ?_) #[t_, f_, f_, f_, f_, f_, f_, f_, f_, f_, f_, f_] rfl rfl (any_of HT_.out (by kernel_rfl)) (fun _ _ _ h => h) (Or.inl ⟨by rfl, ?_⟩) ?_ ?_
          rotate_left
          · intro w'
            go_simp
            with_reducible rfl
          rotate_left
          · simp only [Act.put, List.setIfInBounds_toArray, List.set_cons_zero, List.set_cons_succ, i64_w, i32_w]
            rfl
          refine pure_ (i := 1) (N := some 35) (v := ?_) (a' := ?_) #[t_, t_, f_, f_, f_, f_, f_, f_, f_, f_, f_, f_] rfl rfl (any_of HT_.out (by kernel_rfl)) (fun _ _ _ h => h) (Or.inl ⟨by rfl, ?_⟩) ?_ ?_
          rotate_left
          · intro w'
            go_simp
            with_reducible rfl
          rotate_left
          · simp only [Act.put, List.setIfInBounds_toArray, List.set_cons_zero, List.set_cons_succ, i64_w, i32_w]
            rfl
          refine pure_ (i := 2) (N := some 36) (v := ?_) (a' := ?_) #[t_, t_, t_, f_, f_, f_, f_, f_, f_, f_, f_, f_] rfl rfl (any_of HT_.out (by kernel_rfl)) (fun _ _ _ h => h) (Or.inl ⟨by rfl, ?_⟩) ?_ ?_
          rotate_left
          · intro w'
            go_simp
            with_reducible rfl
          rotate_left
          · simp only [Act.put, List.setIfInBounds_toArray, List.set_cons_zero, List.set_cons_succ, i64_w, i32_w]
            rfl
          refine pure_ (i := 3) (N := some 37) (v := ?_) (a' := ?_) #[t_, t_, t_, t_, f_, f_, f_, f_, f_, f_, f_, f_] rfl rfl (any_of HT_.out (by kernel_rfl)) (fun _ _ _ h => h) (Or.inl ⟨by rfl, ?_⟩) ?_ ?_
          rotate_left
          · intro w'
            go_simp
            with_reducible rfl
          rotate_left
          · simp only [Act.put, List.setIfInBounds_toArray, List.set_cons_zero, List.set_cons_succ, i64_w, i32_w]
            rfl
          refine pure_ (i := 4) (N := some 38) (v := ?_) (a' := ?_) #[t_, t_, t_, t_, t_, f_, f_, f_, f_, f_, f_, f_] rfl rfl (any_of HT_.out (by kernel_rfl)) (fun _ _ _ h => h) (Or.inl ⟨by rfl, ?_⟩) ?_ ?_
          rotate_left
          · intro w'
            go_simp
            with_reducible rfl
          rotate_left
          · simp only [Act.put, List.setIfInBounds_toArray, List.set_cons_zero, List.set_cons_succ, i64_w, i32_w]
            rfl
          refine pure_ (i := 5) (N := some 39) (v := ?_) (a' := ?_) #[t_, t_, t_, t_, t_, t_, f_, f_, f_, f_, f_, f_] rfl rfl (any_of HT_.out (by kernel_rfl)) (fun _ _ _ h => h) (Or.inl ⟨by rfl, ?_⟩) ?_ ?_
          rotate_left
          · intro w'
            go_simp
            with_reducible rfl
          rotate_left
          · simp only [Act.put, List.setIfInBounds_toArray, List.set_cons_zero, List.set_cons_succ, i64_w, i32_w]
            rfl
          refine pure_ (i := 6) (N := some 40) (v := ?_) (a' := ?_) #[t_, t_, t_, t_, t_, t_, t_, f_, f_, f_, f_, f_] rfl rfl (any_of HT_.out (by kernel_rfl)) (fun _ _ _ h => h) (Or.inl ⟨by rfl, ?_⟩) ?_ ?_
          rotate_left
          · intro w'
            go_simp
            with_reducible rfl
          rotate_left
          · simp only [Act.put, List.setIfInBounds_toArray, List.set_cons_zero, List.set_cons_succ, i64_w, i32_w]
            rfl
          refine pure_ (i := 7) (N := some 41) (v := ?_) (a' := ?_) #[t_, t_, t_, t_, t_, t_, t_, t_, f_, f_, f_, f_] rfl rfl (any_of HT_.out (by kernel_rfl)) (fun _ _ _ h => h) (Or.inl ⟨by rfl, ?_⟩) ?_ ?_
          rotate_left
          · intro w'
            go_simp
            with_reducible rfl
          rotate_left
          · simp only [Act.put, List.setIfInBounds_toArray, List.set_cons_zero, List.set_cons_succ, i64_w, i32_w]
            rfl
          refine pure_ (i := 8) (N := some 42) (v := ?_) (a' := ?_) #[t_, t_, t_, t_, t_, t_, t_, t_, t_, f_, f_, f_] rfl rfl (any_of HT_.out (by kernel_rfl)) (fun _ _ _ h => h) (Or.inl ⟨by rfl, ?_⟩) ?_ ?_
          rotate_left
          · intro w'
            go_simp
            with_reducible rfl
          rotate_left
          · simp only [Act.put, List.setIfInBounds_toArray, List.set_cons_zero, List.set_cons_succ, i64_w, i32_w]
            rfl
          refine pure_ (i := 9) (N := some 43) (v := ?_) (a' := ?_) #[t_, t_, t_, t_, t_, t_, t_, t_, t_, t_, f_, f_] rfl rfl (any_of HT_.out (by kernel_rfl)) (fun _ _ _ h => h) (Or.inl ⟨by rfl, ?_⟩) ?_ ?_
          rotate_left
          · intro w'
            go_simp
            with_reducible rfl
          rotate_left
          · simp only [Act.put, List.setIfInBounds_toArray, List.set_cons_zero, List.set_cons_succ, i64_w, i32_w]
            rfl
          refine one_ (i := 10) (N := some 44) #[t_, t_, t_, t_, t_, t_, t_, t_, t_, t_, t_, f_] rfl rfl (one_of HT_.out (by kernel_rfl)) (by decide) (fun K hK => ?_)
          refine goes_ Try.func29 (by kernel_rfl) rfl #[.slice AY0 Y.length CY0, .slice AY1 Y.length CY1] (by rfl) rfl rfl (by (try simp only [List.map_toArray, List.map_cons, List.map_nil]); first | done | rfl | (simp only [List.length_drop, List.length_take]; rfl)) ?_
          with_reducible refine (laws_eqDeltaS.calls KQ _ _ Y _ _ Y true _ ?side1 ?side2 ?side3 ?side4 HQ.out).mono ?_
          (case side1 => repeat (first | exact (Kd.C_below HY0.out HB.out) | (with_reducible refine Kd.C_alloc ?_ _) | (with_reducible refine Kd.C_drewN ?_ _) | (with_reducible refine Kd.C_drew ?_)))
          (case side2 => exact HCY0.out)
          (case side3 => repeat (first | exact (Kd.C_below HY1.out HB.out) | (with_reducible refine Kd.C_alloc ?_ _) | (with_reducible refine Kd.C_drewN ?_ _) | (with_reducible refine Kd.C_drew ?_)))
          (case side4 => exact HCY1.out)
          rintro e w24 ⟨rfl, hb⟩
          refine ⟨_, rfl, ?_⟩
          have n0_ := Aside0.mk (below_step (by repeat (first | (with_reducible first | exact HB.out | apply below_alloc | apply pw_below_drewN | apply below_drew1) | exact HB.out)) hb)
          clear HB
          have HB := n0_
          clear n0_
          (try clear hb)
          (try clear hb2)
          (try clear hk)
          (try clear hi)
          refine hK.out _ _ trivial (fun hHeld => ?_)
          clear hK K
          refine norm_ (a' := ?_) ?_ ?_
          rotate_left
          · show Act.put _ (some 44) _ = _
            simp only [Act.put, List.setIfInBounds_toArray, List.set_cons_zero, List.set_cons_succ, i64_w, i32_w]
            rfl
          refine pure_ (i := 11) (N := some 4) (v := ?_) (a' := ?_) #[t_, t_, t_, t_, t_, t_, t_, t_, t_, t_, t_, t_] rfl rfl (any_of HT_.out (by kernel_rfl)) (fun _ _ _ h => h) (Or.inl ⟨by rfl, ?_⟩) ?_ ?_
          rotate_left
          · intro w'
            go_simp
            with_reducible rfl
          rotate_left
          · simp only [Act.put, List.setIfInBounds_toArray, List.set_cons_zero, List.set_cons_succ, i64_w, i32_w]
            rfl
          refine done_ (done_of HT_.out (by kernel_rfl)) ?_
          try go_wp2
          go_ret
          exact ⟨by first | rfl | (simp; done), by repeat (first | (with_reducible first | exact HB.out | apply below_alloc | apply pw_below_drewN | apply below_drew1) | exact HB.out)⟩
end Go.Proofs.Ytfnhjaiioojbkaa.Q
end
section
namespace Go.Proofs.Ytfnhjaiioojbkaa.Q
open Go.RowKit Go.Proofs.YtfnhjaiioojbkaaW.PrintWords Go.Proofs.YtfnhjaiioojbkaaW.PrintLast Go.Proofs.YtfnhjaiioojbkaaW.PrintMore
attribute [local go_sem] max2_int min2_int max_two min_two max_three min_three max_four min_four
set_option linter.unusedVariables false
set_option linter.unusedSimpArgs false
def toP (x : Dq) : Dl := ⟨x.f0, x.f1, x.f2⟩
theorem fulS_take (b : Bool) (l : Tx) : (fulS b l).1.take (fulS b l).2 = l := by
  unfold fulS
  split
  case isTrue h => rw [h.2]; rfl
  case isFalse h => simp
theorem fulS_ful (l : Tx) (h : l.length ≤ 1000000) : FulN (fulS false l).1.length (fulS false l).2 := by
  unfold fulS
  rw [if_neg (fun h => by cases h.1)]
  exact ⟨by simp, h⟩
theorem fulDS_len (b : Bool) (l : List Dq) : (fulDS b l).2 = l.length := by
  unfold fulDS
  split
  case isTrue h => rw [h.2]; rfl
  case isFalse h => rfl
theorem fulDS_false (l : List Dq) : fulDS false l = (l.map (toDF false) ++ List.replicate (room l.length) fillDF, l.length) := by
  unfold fulDS
  rw [if_neg (fun h => by cases h.1)]
theorem fulDS_take (b : Bool) (l : List Dq) : ((fulDS b l).1.take (fulDS b l).2).map plD = l.map toP := by
  have e : plD ∘ toDF b = toP := by funext x; show (⟨x.f0, x.f1, (fulS b x.f2).1.take (fulS b x.f2).2⟩ : Dl) = ⟨x.f0, x.f1, x.f2⟩; rw [fulS_take]
  unfold fulDS
  split
  case isTrue h => rw [h.2]; rfl
  case isFalse h => simp [e]
theorem okD_eq (l : List Dq) (hq : SmQ l) : SmD (l.map toP) := ⟨by rw [List.length_map]; exact hq.1, fun x hx => by
  obtain ⟨y, hy, rfl⟩ := List.mem_map.mp hx
  exact hq.2 y hy⟩
theorem rdDF_ful (l : List Dq) (hq : SmQ l) (i : Nat) (hi : i < l.length) : FulN (rd_DF (fulDS false l).1 i).2.2.1.length (rd_DF (fulDS false l).1 i).2.2.2 := by
  rw [fulDS_false]
  have e : rd_DF (l.map (toDF false) ++ List.replicate (room l.length) fillDF) (i : Int) = toDF false l[i] := by
    simp [rd_DF, List.getD_eq_getElem?_getD, List.getElem?_append_left, hi]
  rw [e]
  exact fulS_ful _ (hq.2 _ (List.getElem_mem hi)).1
theorem spare_ev (l : List Dq) (hq : SmQ l) : ∃ K, laws_eqDeltaS.f K (((fulDS false l).1.drop l.length).map plD) (((fulDS false l).1.drop l.length).map plD) = some true := by
  have e : (fulDS false l).1.drop l.length = List.replicate (room l.length) fillDF := by rw [fulDS_false]; simp
  rw [e]
  have := room_le l.length
  have h1 := hq.1
  obtain ⟨K, hK⟩ := eqD_refl ((List.replicate (room l.length) fillDF).map plD) (by simp; omega) (fun x hx => by
    obtain ⟨y, hy, rfl⟩ := List.mem_map.mp hx
    obtain rfl := List.eq_of_mem_replicate hy
    decide)
  exact ⟨K, hK K (Nat.le_refl _)⟩
end Go.Proofs.Ytfnhjaiioojbkaa.Q
end
section
namespace Go.Proofs.Ytfnhjaiioojbkaa.Q
open Go.RowKit Go.Proofs.YtfnhjaiioojbkaaW.PrintWords Go.Proofs.YtfnhjaiioojbkaaW.PrintLast Go.Proofs.YtfnhjaiioojbkaaW.PrintMore
attribute [local go_sem] max2_int min2_int max_two min_two max_three min_three max_four min_four   -- for this text's walks alone
set_option linter.unusedVariables false
set_option linter.unusedSimpArgs false
def laws_markText.l0 : Nat → Int → ByteArray → Option (ByteArray)
 | 0, _, _ => none
 | k + 1, x0, x3 => if x0 > 0 then ((some (([(wrap64 (48 + (Int.tmod x0 10))) % 256] : List Int) : List Int)).bind fun y491 => (if (strOfNums y491).size + x3.size ≤ 9223372036854775807 then (laws_markText.l0 k (wrap64 (Int.tdiv x0 10)) ((strOfNums y491) ++ x3)) else (none))) else (if 1 + x3.size ≤ 9223372036854775807 then (some ((⟨#[109]⟩ : ByteArray) ++ x3)) else (none))
def laws_markText.f (k : Nat) (a0 : Int) : Option (ByteArray) := if a0 ≤ 0 then (some (⟨#[109, 48]⟩ : ByteArray)) else (laws_markText.l0 k a0 (⟨#[]⟩ : ByteArray))
set_option maxHeartbeats 8000000 in
set_option maxRecDepth 100000 in
theorem laws_markText.calls (k : Nat) (a0 : Int) (r : ByteArray) (w : World) (h : laws_markText.f k a0 = some r) :
 Calls Try.prog 77 #[.int .i64 a0] w fun e w' => e = .returned (.string r) ∧ Below w.heap.size w w' := by
 have HB := Aside0.mk (Below.refl w.heap.size w); have H : (if a0 ≤ 0 then (some (⟨#[109, 48]⟩ : ByteArray)) else (laws_markText.l0 k a0 (⟨#[]⟩ : ByteArray))) = some r := h; clear h; by_cases c2 : a0 ≤ 0
 ·rw [if_pos c2] at H; have c2b0 : decide (a0 ≤ 0) = true := decide_eq_true c2; clear c2; obtain rfl := Option.some.inj H; go_enter Try.func77, Try.ntmps77; go_wp2; go_ret; exact ⟨by first | rfl | (simp <;> rfl) | (simp [*] <;> rfl), by repeat (first | (with_reducible first | exact HB.out | apply below_alloc | apply pw_below_drewN | apply below_drew1) | exact HB.out)⟩
 ·rw [if_neg c2] at H; have c2b0 : decide (a0 ≤ 0) = false := decide_eq_false c2; clear c2; have H' := Aside0.mk H; clear H; go_enter Try.func77, Try.ntmps77; go_wp2; go_loopg [0, 3] k (fun kq v0 v3 w' => ∃ (x0_1 : Int) (x3_1 : ByteArray), v0 = .int .i64 x0_1 ∧ v3 = .string x3_1 ∧ Aside0 (laws_markText.l0 kq x0_1 x3_1 = some r) ∧ Aside0 (kq ≤ k) ∧ Aside0 (Below w.heap.size w w'))
  case atStart => exact ⟨(a0), ((⟨#[]⟩ : ByteArray)), (by first | rfl | (simp; done) | (simp [*]; done)), (by first | rfl | (simp; done) | (simp [*]; done)), H', ⟨Nat.le_refl _⟩, ⟨by repeat (first | (with_reducible first | exact HB.out | apply below_alloc | apply pw_below_drewN | apply below_drew1) | exact HB.out)⟩⟩
  case round =>
   clear H'; (try clear c2); (try clear c2b0); (try clear p2); obtain ⟨x0_1, x3_1, rfl, rfl, HA, HK1, HB⟩ := hrel
   cases gk with
   | zero => exact absurd HA.out (by simp [laws_markText.l0])
   | succ k1 =>
    have H := HA.out; clear HA; simp only [laws_markText.l0] at H; by_cases c3 : x0_1 > 0
    ·rw [if_pos c3] at H; have c3b0 : decide (0 < x0_1) = true := decide_eq_true c3; clear c3; obtain ⟨y491, hy491⟩ : ∃ y_ : List Int, y_ = (([(wrap64 (48 + (Int.tmod x0_1 10))) % 256] : List Int)) := ⟨_, rfl⟩; (replace H : (if (strOfNums y491).size + x3_1.size ≤ 9223372036854775807 then (laws_markText.l0 k1 (wrap64 (Int.tdiv x0_1 10)) ((strOfNums y491) ++ x3_1)) else (none)) = some r := by first | (rw [hy491]; with_reducible exact H) | (have H2_ := (Option.bind_some _ _).symm.trans H; rw [hy491]; with_reducible exact H2_) | (have H2_ := (Option.bind_some _ _).symm.trans H; with_reducible exact H2_) | with_reducible exact H | (rw [hy491]; exact H) | exact H); have Ny491 := Aside0.mk hy491; clear hy491; by_cases c4 : (strOfNums y491).size + x3_1.size ≤ 9223372036854775807
     ·rw [if_pos c4] at H; have c4b0 := eq_true c4; have c4b1 : decide ((strOfNums y491).size + x3_1.size ≤ 9223372036854775807) = true := decide_eq_true c4; (try have c4b2 : (9223372036854775807 < (strOfNums y491).size + x3_1.size) = False := eq_false (Nat.not_lt.2 c4)); have H' := Aside0.mk H; clear H; go_wp2_with (first | ((with_reducible refine gate_dst (N := 12) rfl ?_); refine Kd.R_lit (Kd.int .u8) _ 5 ?hg (N := 12) ?hd (xs := ([(wrap64 (48 + (Int.tmod x0_1 10))) % 256] : List Int)) (inner := [.int .u8 ((wrap64 (48 + (Int.tmod x0_1 10))) % 256)]) (ok := fun _ => True) (okp := fun _ => True) ?hr ?hp (fun _ hk => hk) trivial (Below.refl _ _) (Nat.le_refl _) (by simp) ?_; (case hd => rfl); (case hg => rfl); (case hr => first | (go_simp; done) | (go_simp; rfl)); (case hp => exact (Reps.one (show Kd.M (Kd.int .u8) _ _ _ ((wrap64 (48 + (Int.tmod x0_1 10))) % 256) [.int .u8 ((wrap64 (48 + (Int.tmod x0_1 10))) % 256)] from rfl) (Reps.none _ _))); intro v492 w5 ho6 hb hg_ hnew_; clear hg_ hnew_; (first | rw [← Ny491.out] at ho6 | (simp only [Int.reduceToNat] at ho6; rw [← Ny491.out] at ho6)); have n0_ := Aside0.mk (Kd.R_lower ho6 (below_size (by repeat (first | (with_reducible first | exact HB.out | apply below_alloc | apply pw_below_drewN | apply below_drew1) | exact HB.out)))); have n1_ := Aside0.mk (below_step (by repeat (first | (with_reducible first | exact HB.out | apply below_alloc | apply pw_below_drewN | apply below_drew1) | exact HB.out)) hb); clear HB; have HO493 := n0_; have HB := n1_; clear n0_ n1_; clear hb ho6; have hcv7 := own_string (P := Try.prog) Try.underlying29 Try.underlying5 Try.underlying9 (Kd.own_of_R HO493.out))); go_roundg k1
      case measure => have := HK1.out; omega
      case rel => exact ⟨(wrap64 (Int.tdiv x0_1 10)), ((strOfNums y491) ++ x3_1), (by first | rfl | (simp; done) | (simp [*]; done)), (by first | rfl | (simp; done) | (simp [*]; done)), H', ⟨by have := HK1.out; omega⟩, ⟨by repeat (first | (with_reducible first | exact HB.out | apply below_alloc | apply pw_below_drewN | apply below_drew1) | exact HB.out)⟩⟩
     ·rw [if_neg c4] at H; exact absurd H (by simp)
    ·rw [if_neg c3] at H; have c3b0 : decide (0 < x0_1) = false := decide_eq_false c3; clear c3; by_cases c8 : 1 + x3_1.size ≤ 9223372036854775807
     ·rw [if_pos c8] at H; have c8b0 := eq_true c8; have c8b1 : decide (1 + x3_1.size ≤ 9223372036854775807) = true := decide_eq_true c8; (try have c8b2 : (9223372036854775807 < 1 + x3_1.size) = False := eq_false (Nat.not_lt.2 c8)); obtain rfl := Option.some.inj H; go_wp2; go_ret; exact ⟨by first | rfl | (simp <;> rfl) | (simp [*] <;> rfl), by repeat (first | (with_reducible first | exact HB.out | apply below_alloc | apply pw_below_drewN | apply below_drew1) | exact HB.out)⟩
     ·rw [if_neg c8] at H; exact absurd H (by simp)
end Go.Proofs.Ytfnhjaiioojbkaa.Q
end
section
namespace Go.Proofs.Ytfnhjaiioojbkaa.Q
open Go.RowKit Go.Proofs.YtfnhjaiioojbkaaW.PrintWords Go.Proofs.YtfnhjaiioojbkaaW.PrintLast Go.Proofs.YtfnhjaiioojbkaaW.PrintMore
attribute [local go_sem] max2_int min2_int max_two min_two max_three min_three max_four min_four   -- for this text's walks alone
set_option linter.unusedVariables false
set_option linter.unusedSimpArgs false
def laws_markStringS.l0 : Nat → List ByteArray → Int → Int → Option (Int × List ByteArray)
 | 0, _, _, _ => none
 | k + 1, x0, x1, x5 => if x5 < (x0.length : Int) then ((laws_markText.f k x1).bind fun t494 => (if 0 ≤ x5 then (laws_markStringS.l0 k (x0.set (x5 : Int).toNat t494) (wrap64 (x1 + 1)) (wrap64 (x5 + 1))) else (none))) else (some (x1, x0))
def laws_markStringS.f (k : Nat) (l0 : List ByteArray) (a1 : Int) : Option (Int × List ByteArray) := laws_markStringS.l0 k l0 a1 0
set_option maxHeartbeats 8000000 in
set_option maxRecDepth 100000 in
theorem laws_markStringS.calls (k : Nat) (P0_ : Nat → Prop) (u9000_ : Value) (l0 : List ByteArray) (a1 : Int) (r1 : Int) (r2 : List ByteArray) (w0 w : World) (hB : Below w0.heap.size w0 w) (ho0 : Kd.R Kd.string 9 w w0.heap.size P0_ u9000_ l0) (h : laws_markStringS.f k l0 a1 = some (r1, r2)) :
 Calls Try.prog 31 #[u9000_, .int .i64 a1] w fun e w' => e = .returned (.int .i64 r1) ∧ Kd.R Kd.string 9 w' w0.heap.size (fun k_ => (P0_ k_ ∨ w.heap.size ≤ k_)) u9000_ r2 ∧ Below w0.heap.size w0 w' ∧ Kept w w' (fun k_ => P0_ k_) := by
 have HO0 := Aside0.mk (show Kd.R Kd.string 9 w w0.heap.size (fun k_ => (P0_ k_ ∨ w.heap.size ≤ k_)) u9000_ l0 from Kd.R_mono ho0 (fun k_ hk => (.inl hk))); have HK := Aside0.mk (Kept.refl w (fun k_ => P0_ k_)); have HW0 := Aside0.mk hB.size; have HB := Aside0.mk hB; clear hB; have H : (laws_markStringS.l0 k l0 a1 0) = some (r1, r2) := h; clear h; have H' := Aside0.mk H; clear H; go_enter Try.func31, Try.ntmps31; go_wp2; go_loopg [1, 5] k (fun kq v1 v5 w' => ∃ (x0_1 : List ByteArray) (x1_1 : Int) (x5_1 : Int), v1 = .int .i64 x1_1 ∧ v5 = .int .i64 x5_1 ∧ Aside0 (laws_markStringS.l0 kq x0_1 x1_1 x5_1 = some (r1, r2)) ∧ Aside0 (kq ≤ k) ∧ Aside0 (Kd.R Kd.string 9 w' w0.heap.size (fun k_ => (P0_ k_ ∨ w.heap.size ≤ k_)) u9000_ x0_1) ∧ Aside0 (Kept w w' (fun k_ => P0_ k_)) ∧ Aside0 (Below w0.heap.size w0 w'))
 case atStart => exact ⟨(l0), (a1), (0), (by first | rfl | (simp; done) | (simp [*]; done)), (by first | rfl | (simp; done) | (simp [*]; done)), H', ⟨Nat.le_refl _⟩, ⟨by (with_reducible repeat (first | apply Kd.R_alloc | apply Kd.R_drewN | apply Kd.R_drew)); exact HO0.out⟩, ⟨by repeat (first | (with_reducible first | exact HK.out | apply Kept.alloc | apply Kept.drewN | apply Kept.drew) | exact HK.out)⟩, ⟨by repeat (first | (with_reducible first | exact HB.out | apply below_alloc | apply pw_below_drewN | apply below_drew1) | exact HB.out)⟩⟩
 case round =>
  clear H'; (try clear p2); obtain ⟨x0_1, x1_1, x5_1, rfl, rfl, HA, HK1, HO_0, HK, HB⟩ := hrel
  cases gk with
  | zero => exact absurd HA.out (by simp [laws_markStringS.l0])
  | succ k1 =>
   have H := HA.out; clear HA; simp only [laws_markStringS.l0] at H; by_cases c3 : x5_1 < (x0_1.length : Int)
   ·rw [if_pos c3] at H; have c3b0 : decide (x5_1 < (x0_1.length : Int)) = true := decide_eq_true c3; clear c3; replace H := Option.bind_eq_some_iff.mp H; obtain ⟨t494, A40, H⟩ := H; replace H : (if 0 ≤ x5_1 then (laws_markStringS.l0 k1 (x0_1.set (x5_1 : Int).toNat t494) (wrap64 (x1_1 + 1)) (wrap64 (x5_1 + 1))) else (none)) = some (r1, r2) := H; have A4 := Aside0.mk A40; clear A40; by_cases c5 : 0 ≤ x5_1
    ·rw [if_pos c5] at H; have c5b0 : decide (0 ≤ x5_1) = true := decide_eq_true c5; clear c5; obtain ⟨y495, hy495⟩ : ∃ y_ : List ByteArray, y_ = (x0_1.set (x5_1 : Int).toNat t494) := ⟨_, rfl⟩; (replace H : (laws_markStringS.l0 k1 y495 (wrap64 (x1_1 + 1)) (wrap64 (x5_1 + 1))) = some (r1, r2) := by first | (rw [hy495]; with_reducible exact H) | (have H2_ := (Option.bind_some _ _).symm.trans H; rw [hy495]; with_reducible exact H2_) | (have H2_ := (Option.bind_some _ _).symm.trans H; with_reducible exact H2_) | with_reducible exact H | (rw [hy495]; exact H) | exact H); have Ny495 := Aside0.mk hy495; clear hy495; have H' := Aside0.mk H; clear H; obtain ⟨Ao7, co7, eo7⟩ := Kd.R_slice HO_0.out; subst eo7; go_wp2_with (first | ((with_reducible refine gate_callee (f := 77) rfl ?_); refine goesL_ (some 15) rfl rfl Try.func77 (by kernel_rfl) rfl #[.int .i64 x1_1] rfl (by (try simp only [List.map_toArray, List.map_cons, List.map_nil]); first | done | rfl | (simp only [List.length_drop, List.length_take]; rfl)) ?_; (with_reducible refine (laws_markText.calls k1 x1_1 t494 _ A4.out).mono ?_); rintro e w8 ⟨rfl, hb⟩; refine ⟨_, rfl, ?_⟩; have n0_ := Aside0.mk (Kd.R_below (by (with_reducible repeat (first | apply Kd.R_alloc | apply Kd.R_drewN | apply Kd.R_drew)); exact HO_0.out) hb); have n1_ := Aside0.mk (Kept.below (S := (fun k_ => P0_ k_)) (by repeat (first | (with_reducible first | exact HK.out | apply Kept.alloc | apply Kept.drewN | apply Kept.drew) | exact HK.out)) hb); have n2_ := Aside0.mk (below_step (by repeat (first | (with_reducible first | exact HB.out | apply below_alloc | apply pw_below_drewN | apply below_drew1) | exact HB.out)) hb); clear HO_0; clear HK; clear HB; have HO_0 := n0_; have HK := n1_; have HB := n2_; clear n0_ n1_ n2_; (try clear hb); (try clear hb2); (try clear hk); (try clear hi); have p6 : 0 ≤ (x5_1 : Int) := of_decide_eq_true (by assumption); have q6 : (x5_1 : Int) < ((x0_1.length : Int) : Int) := of_decide_eq_true (by assumption); obtain ⟨go6, co6, eo6, gb6, gl6, cl6, HG6⟩ := Kd.R_form HO_0.out (by omega); (first | cases eo6 | (injection eo6 with ea_ en_ ec_; (first | subst ea_ | (injection ea_ with ea_; subst ea_)); subst ec_; clear en_)); have GB6 := Aside0.mk gb6; have GG6 := Aside0.mk HG6; clear gb6 gl6 HG6; have HMgo6 := Aside0.mk (show (P0_ go6 ∨ w.heap.size ≤ go6) from (HO_0.out.1 _ rfl)); obtain ⟨hx6_0, hf6_0⟩ := Kd.R_celln (⟨#[]⟩ : ByteArray) HO_0.out (x5_1 : Int) p6 q6; replace p6 := eq_true p6; replace q6 := eq_true q6; obtain ⟨hy9_, hz9_⟩ := Kd.R_celln (⟨#[]⟩ : ByteArray) HO_0.out (x5_1 : Int) (of_decide_eq_true (by assumption)) (of_decide_eq_true (by assumption)); have HP9 := Kd.R_putg HO_0.out (x5_1 : Int) t494) | ((with_reducible refine gate_store (t := 9) (p := 16) rfl ?_); refine store_event (t := 9) (p := 16) (v := ?vo_w10) (w1 := (w8.setCell ⟨go6, (x5_1 : Int).toNat, none⟩ (.string t494))) ?hg ?ho ?hn ?hr ?_; (case ho => rfl); (case hg => rfl); (case hn => rfl); (case hr => first | (go_simp; done) | (go_simp; rfl)); intro w10 hw; have hg : w8.grownBy w10 (some go6) := (by rw [hw]; exact HP9.2); have hp_ : Kd.R Kd.string 9 w10 w0.heap.size (fun k_ => (P0_ k_ ∨ w.heap.size ≤ k_)) (.slice (some ⟨go6, 0, none⟩) x0_1.length co7) y495 := (by rw [hw, Ny495.out]; exact HP9.1); clear HP9; have n0_ := Aside0.mk (hp_); have n1_ := Aside0.mk ((by rw [hw]; exact below_set (HB.out) GB6.out : Below w0.heap.size w0 w10)); have n2_ := Aside0.mk (Kept.of_grown (S := (fun k_ => P0_ k_)) hg (by repeat (first | (with_reducible first | exact HK.out | apply Kept.alloc | apply Kept.drewN | apply Kept.drew) | exact HK.out)) (fun k_ e_ => (HO_0.out.1 k_ e_))); clear HO_0; clear HB; clear HK; have HO_0 := n0_; have HB := n1_; have HK := n2_; clear n0_ n1_ n2_; clear hg hw hp_))
     go_roundg k1
     case measure => have := HK1.out; omega
     case rel => exact ⟨(y495), (wrap64 (x1_1 + 1)), (wrap64 (x5_1 + 1)), (by first | rfl | (simp; done) | (simp [*]; done)), (by first | rfl | (simp; done) | (simp [*]; done)), H', ⟨by have := HK1.out; omega⟩, ⟨by (with_reducible repeat (first | apply Kd.R_alloc | apply Kd.R_drewN | apply Kd.R_drew)); exact HO_0.out⟩, ⟨by repeat (first | (with_reducible first | exact HK.out | apply Kept.alloc | apply Kept.drewN | apply Kept.drew) | exact HK.out)⟩, ⟨by repeat (first | (with_reducible first | exact HB.out | apply below_alloc | apply pw_below_drewN | apply below_drew1) | exact HB.out)⟩⟩
    ·rw [if_neg c5] at H; exact absurd H (by simp)
   ·rw [if_neg c3] at H; have c3b0 : decide (x5_1 < (x0_1.length : Int)) = false := decide_eq_false c3; clear c3; simp only [Option.some.injEq, Prod.mk.injEq] at H; obtain ⟨rfl, rfl⟩ := H; obtain ⟨Ao11, co11, eo11⟩ := Kd.R_slice HO_0.out; subst eo11; go_wp2; go_ret; exact ⟨by first | rfl | (simp <;> rfl) | (simp [*] <;> rfl), by (with_reducible repeat (first | apply Kd.R_alloc | apply Kd.R_drewN | apply Kd.R_drew)); exact HO_0.out, by repeat (first | (with_reducible first | exact HB.out | apply below_alloc | apply pw_below_drewN | apply below_drew1) | exact HB.out), by repeat (first | (with_reducible first | exact HK.out | apply Kept.alloc | apply Kept.drewN | apply Kept.drew) | exact HK.out)⟩
end Go.Proofs.Ytfnhjaiioojbkaa.Q
end
section
namespace Go.Proofs.Ytfnhjaiioojbkaa.Q
open Go.RowKit Go.Proofs.YtfnhjaiioojbkaaW.PrintWords Go.Proofs.YtfnhjaiioojbkaaW.PrintLast Go.Proofs.YtfnhjaiioojbkaaW.PrintMore
attribute [local go_sem] max2_int min2_int max_two min_two max_three min_three max_four min_four   -- for this text's walks alone
set_option linter.unusedVariables false
set_option linter.unusedSimpArgs false
def laws_heldStringS.l0 : Nat → List ByteArray → Int → Int → Option (Int)
 | 0, _, _, _ => none
 | k + 1, x0, x1, x5 => if x5 < (x0.length : Int) then (if 0 ≤ x5 then ((laws_markText.f k x1).bind fun t497 => (if (rdOf ByteArray.empty x0 x5).toList = t497.toList then (laws_heldStringS.l0 k x0 (wrap64 (x1 + 1)) (wrap64 (x5 + 1))) else (some (-1)))) else (none)) else (some x1)
def laws_heldStringS.f (k : Nat) (l0 : List ByteArray) (a1 : Int) : Option (Int) := laws_heldStringS.l0 k l0 a1 0
set_option maxHeartbeats 8000000 in
set_option maxRecDepth 100000 in
theorem laws_heldStringS.calls (k : Nat) (A0 : Option Addr) (c0 : Nat) (l0 : List ByteArray) (a1 : Int) (r : Int) (w : World) (hr0 : Kd.C Kd.string w A0 l0.length l0) (hc0 : l0.length ≤ c0) (h : laws_heldStringS.f k l0 a1 = some r) :
 Calls Try.prog 37 #[.slice A0 l0.length c0, .int .i64 a1] w fun e w' => e = .returned (.int .i64 r) ∧ Below w.heap.size w w' := by
 have HR0 := Aside0.mk hr0; have HC0 := Aside0.mk hc0; clear hr0 hc0; have HB := Aside0.mk (Below.refl w.heap.size w); have H : (laws_heldStringS.l0 k l0 a1 0) = some r := h; clear h; have H' := Aside0.mk H; clear H; go_enter Try.func37, Try.ntmps37; go_wp2; go_loopg [1, 5] k (fun kq v1 v5 w' => ∃ (x1_1 : Int) (x5_1 : Int), v1 = .int .i64 x1_1 ∧ v5 = .int .i64 x5_1 ∧ Aside0 (laws_heldStringS.l0 kq l0 x1_1 x5_1 = some r) ∧ Aside0 (kq ≤ k) ∧ Aside0 (Below w.heap.size w w'))
 case atStart => exact ⟨(a1), (0), (by first | rfl | (simp; done) | (simp [*]; done)), (by first | rfl | (simp; done) | (simp [*]; done)), H', ⟨Nat.le_refl _⟩, ⟨by repeat (first | (with_reducible first | exact HB.out | apply below_alloc | apply pw_below_drewN | apply below_drew1) | exact HB.out)⟩⟩
 case round =>
  clear H'; (try clear p2); obtain ⟨x1_1, x5_1, rfl, rfl, HA, HK1, HB⟩ := hrel
  cases gk with
  | zero => exact absurd HA.out (by simp [laws_heldStringS.l0])
  | succ k1 =>
   have H := HA.out; clear HA; simp only [laws_heldStringS.l0] at H; by_cases c3 : x5_1 < (l0.length : Int)
   ·rw [if_pos c3] at H; have c3b0 : decide (x5_1 < (l0.length : Int)) = true := decide_eq_true c3; clear c3; by_cases c4 : 0 ≤ x5_1
    ·rw [if_pos c4] at H; have c4b0 : decide (0 ≤ x5_1) = true := decide_eq_true c4; clear c4; replace H := Option.bind_eq_some_iff.mp H; obtain ⟨t497, A50, H⟩ := H; replace H : (if (rdOf ByteArray.empty l0 x5_1).toList = t497.toList then (laws_heldStringS.l0 k1 l0 (wrap64 (x1_1 + 1)) (wrap64 (x5_1 + 1))) else (some (-1))) = some r := H; have A5 := Aside0.mk A50; clear A50; by_cases c6 : (rdOf ByteArray.empty l0 x5_1).toList = t497.toList
     ·rw [if_pos c6] at H; have c6b0 : ((rdOf ByteArray.empty l0 x5_1).toList == t497.toList) = true := beq_iff_eq.mpr c6; have c6b1 : ((rdOf ByteArray.empty l0 x5_1).toList != t497.toList) = false := bne_eq_false_iff_eq.mpr c6; clear c6; have H' := Aside0.mk H; clear H; (try go_wp2); have n0_ := Aside0.mk (below_drew1 HB.out); clear HB; have HB := n0_; clear n0_; have p496 : 0 ≤ (x5_1 : Int) := of_decide_eq_true (by assumption); have q496 : x5_1 < (l0.length : Int) := of_decide_eq_true (by assumption); obtain ⟨ad496, e496, hx496_0⟩ := Kd.at_string HR0.out x5_1 p496 q496; have hw496_0 := hx496_0; cases e496; replace hx496_0 := (HB.out.cell (World.block_lt_of_cell? w _ hx496_0)).trans hx496_0; replace p496 := eq_true p496; replace q496 := eq_true q496; refine start_ (n := 7) (S := fun w' => w'.cell? (ad496.add (x5_1).toNat) = some (.string (rdOf ByteArray.empty l0 x5_1))) (ds := []) #[f_, f_, f_, f_, f_, f_, f_] (by kernel_rfl) rfl rfl (((HB.out.cell (World.block_lt_of_cell? w _ hw496_0)).trans hw496_0)) (fun hHeld => ?_); generalize wr.drew = w7 at HB hx496_0 hHeld ⊢; refine pure_ (i := 0) (N := some 12) (v := ?_) (a' := ?_) #[t_, f_, f_, f_, f_, f_, f_] rfl rfl (by kernel_rfl) (fun _ _ _ h => h) (Or.inl ⟨by rfl, ?_⟩) ?_ ?_
      rotate_left
      ·intro w'; go_simp
       with_reducible rfl
      rotate_left
      ·simp only [Act.put, List.setIfInBounds_toArray, List.set_cons_zero, List.set_cons_succ, i64_w, i32_w]
       rfl
      refine pure_ (i := 1) (N := some 13) (v := ?_) (a' := ?_) #[t_, t_, f_, f_, f_, f_, f_] rfl rfl (by kernel_rfl) (fun _ _ _ h => h) (Or.inl ⟨by rfl, ?_⟩) ?_ ?_
      rotate_left
      ·intro w'; go_simp
       with_reducible rfl
      rotate_left
      ·simp only [Act.put, List.setIfInBounds_toArray, List.set_cons_zero, List.set_cons_succ, i64_w, i32_w]
       rfl
      refine pure_ (i := 2) (N := some 14) (v := ?_) (a' := ?_) #[t_, t_, t_, f_, f_, f_, f_] rfl rfl (by kernel_rfl) (fun _ _ _ h => h) (Or.inl ⟨by rfl, ?_⟩) ?_ ?_
      rotate_left
      ·intro w'; go_simp
       with_reducible rfl
      rotate_left
      ·simp only [Act.put, List.setIfInBounds_toArray, List.set_cons_zero, List.set_cons_succ, i64_w, i32_w]
       rfl
      refine pure_ (i := 4) (N := some 16) (v := ?_) (a' := ?_) #[t_, t_, t_, f_, t_, f_, f_] rfl rfl (by kernel_rfl) (fun _ _ _ h => h) (Or.inl ⟨by rfl, ?_⟩) ?_ ?_
      rotate_left
      ·intro w'; go_simp
       with_reducible rfl
      rotate_left
      ·simp only [Act.put, List.setIfInBounds_toArray, List.set_cons_zero, List.set_cons_succ, i64_w, i32_w]
       rfl
      refine take_ (i := 3) (N := some 15) (v := ?_) (a' := ?_) #[t_, t_, t_, t_, t_, f_, f_] rfl rfl (by kernel_rfl) (fun _ _ _ h => h) (Or.inl ⟨by rfl, ?_⟩) hHeld ?_ ?_
      rotate_left
      ·intro w' s0; go_simp
       with_reducible rfl
      rotate_left
      ·simp only [Act.put, List.setIfInBounds_toArray, List.set_cons_zero, List.set_cons_succ, i64_w, i32_w]
       rfl
      refine one_ (i := 5) (N := some 17) #[t_, t_, t_, t_, t_, t_, f_] rfl rfl (by kernel_rfl) (by decide) (fun K hK => ?_); refine goes_ Try.func77 (by kernel_rfl) rfl #[.int .i64 x1_1] (by rfl) rfl rfl (by (try simp only [List.map_toArray, List.map_cons, List.map_nil]); first | done | rfl | (simp only [List.length_drop, List.length_take]; rfl)) ?_
      with_reducible refine (laws_markText.calls k1 x1_1 t497 _ A5.out).mono ?_
      rintro e w8 ⟨rfl, hb⟩; refine ⟨_, rfl, ?_⟩; have n0_ := Aside0.mk (below_step (by repeat (first | (with_reducible first | exact HB.out | apply below_alloc | apply pw_below_drewN | apply below_drew1) | exact HB.out)) hb); clear HB; have HB := n0_; clear n0_
      (try clear hb)
      (try clear hb2)
      (try clear hk)
      (try clear hi)
      refine hK.out _ _ (((HB.out.cell (World.block_lt_of_cell? w _ hw496_0)).trans hw496_0)) (fun hHeld => ?_); clear hK K; refine norm_ (a' := ?_) ?_ ?_
      rotate_left
      ·show Act.put _ (some 17) _ = _
       simp only [Act.put, List.setIfInBounds_toArray, List.set_cons_zero, List.set_cons_succ, i64_w, i32_w]
       rfl
      refine pure_ (i := 6) (N := some 18) (v := ?_) (a' := ?_) #[t_, t_, t_, t_, t_, t_, t_] rfl rfl (by kernel_rfl) (fun _ _ _ h => h) (Or.inl ⟨by rfl, ?_⟩) ?_ ?_
      rotate_left
      ·intro w'; go_simp
       with_reducible rfl
      rotate_left
      ·simp only [Act.put, List.setIfInBounds_toArray, List.set_cons_zero, List.set_cons_succ, i64_w, i32_w]
       rfl
      refine done_ (by kernel_rfl) ?_; (try go_wp2); go_roundg k1
      case measure => have := HK1.out; omega
      case rel => exact ⟨(wrap64 (x1_1 + 1)), (wrap64 (x5_1 + 1)), (by first | rfl | (simp; done) | (simp [*]; done)), (by first | rfl | (simp; done) | (simp [*]; done)), H', ⟨by have := HK1.out; omega⟩, ⟨by repeat (first | (with_reducible first | exact HB.out | apply below_alloc | apply pw_below_drewN | apply below_drew1) | exact HB.out)⟩⟩
     ·rw [if_neg c6] at H; have c6b0 : ((rdOf ByteArray.empty l0 x5_1).toList == t497.toList) = false := beq_eq_false_iff_ne.mpr c6; have c6b1 : ((rdOf ByteArray.empty l0 x5_1).toList != t497.toList) = true := bne_iff_ne.mpr c6; obtain rfl := Option.some.inj H; (try go_wp2); have n0_ := Aside0.mk (below_drew1 HB.out); clear HB; have HB := n0_; clear n0_; have p496 : 0 ≤ (x5_1 : Int) := of_decide_eq_true (by assumption); have q496 : x5_1 < (l0.length : Int) := of_decide_eq_true (by assumption); obtain ⟨ad496, e496, hx496_0⟩ := Kd.at_string HR0.out x5_1 p496 q496; have hw496_0 := hx496_0; cases e496; replace hx496_0 := (HB.out.cell (World.block_lt_of_cell? w _ hx496_0)).trans hx496_0; replace p496 := eq_true p496; replace q496 := eq_true q496; refine start_ (n := 7) (S := fun w' => w'.cell? (ad496.add (x5_1).toNat) = some (.string (rdOf ByteArray.empty l0 x5_1))) (ds := []) #[f_, f_, f_, f_, f_, f_, f_] (by kernel_rfl) rfl rfl (((HB.out.cell (World.block_lt_of_cell? w _ hw496_0)).trans hw496_0)) (fun hHeld => ?_); generalize wr.drew = w9 at HB hx496_0 hHeld ⊢; refine pure_ (i := 0) (N := some 12) (v := ?_) (a' := ?_) #[t_, f_, f_, f_, f_, f_, f_] rfl rfl (by kernel_rfl) (fun _ _ _ h => h) (Or.inl ⟨by rfl, ?_⟩) ?_ ?_
      rotate_left
      ·intro w'; go_simp
       with_reducible rfl
      rotate_left
      ·simp only [Act.put, List.setIfInBounds_toArray, List.set_cons_zero, List.set_cons_succ, i64_w, i32_w]
       rfl
      refine pure_ (i := 1) (N := some 13) (v := ?_) (a' := ?_) #[t_, t_, f_, f_, f_, f_, f_] rfl rfl (by kernel_rfl) (fun _ _ _ h => h) (Or.inl ⟨by rfl, ?_⟩) ?_ ?_
      rotate_left
      ·intro w'; go_simp
       with_reducible rfl
      rotate_left
      ·simp only [Act.put, List.setIfInBounds_toArray, List.set_cons_zero, List.set_cons_succ, i64_w, i32_w]
       rfl
      refine pure_ (i := 2) (N := some 14) (v := ?_) (a' := ?_) #[t_, t_, t_, f_, f_, f_, f_] rfl rfl (by kernel_rfl) (fun _ _ _ h => h) (Or.inl ⟨by rfl, ?_⟩) ?_ ?_
      rotate_left
      ·intro w'; go_simp
       with_reducible rfl
      rotate_left
      ·simp only [Act.put, List.setIfInBounds_toArray, List.set_cons_zero, List.set_cons_succ, i64_w, i32_w]
       rfl
      refine pure_ (i := 4) (N := some 16) (v := ?_) (a' := ?_) #[t_, t_, t_, f_, t_, f_, f_] rfl rfl (by kernel_rfl) (fun _ _ _ h => h) (Or.inl ⟨by rfl, ?_⟩) ?_ ?_
      rotate_left
      ·intro w'; go_simp
       with_reducible rfl
      rotate_left
      ·simp only [Act.put, List.setIfInBounds_toArray, List.set_cons_zero, List.set_cons_succ, i64_w, i32_w]
       rfl
      refine take_ (i := 3) (N := some 15) (v := ?_) (a' := ?_) #[t_, t_, t_, t_, t_, f_, f_] rfl rfl (by kernel_rfl) (fun _ _ _ h => h) (Or.inl ⟨by rfl, ?_⟩) hHeld ?_ ?_
      rotate_left
      ·intro w' s0; go_simp
       with_reducible rfl
      rotate_left
      ·simp only [Act.put, List.setIfInBounds_toArray, List.set_cons_zero, List.set_cons_succ, i64_w, i32_w]
       rfl
      refine one_ (i := 5) (N := some 17) #[t_, t_, t_, t_, t_, t_, f_] rfl rfl (by kernel_rfl) (by decide) (fun K hK => ?_); refine goes_ Try.func77 (by kernel_rfl) rfl #[.int .i64 x1_1] (by rfl) rfl rfl (by (try simp only [List.map_toArray, List.map_cons, List.map_nil]); first | done | rfl | (simp only [List.length_drop, List.length_take]; rfl)) ?_
      with_reducible refine (laws_markText.calls k1 x1_1 t497 _ A5.out).mono ?_
      rintro e w10 ⟨rfl, hb⟩; refine ⟨_, rfl, ?_⟩; have n0_ := Aside0.mk (below_step (by repeat (first | (with_reducible first | exact HB.out | apply below_alloc | apply pw_below_drewN | apply below_drew1) | exact HB.out)) hb); clear HB; have HB := n0_; clear n0_
      (try clear hb)
      (try clear hb2)
      (try clear hk)
      (try clear hi)
      refine hK.out _ _ (((HB.out.cell (World.block_lt_of_cell? w _ hw496_0)).trans hw496_0)) (fun hHeld => ?_); clear hK K; refine norm_ (a' := ?_) ?_ ?_
      rotate_left
      ·show Act.put _ (some 17) _ = _
       simp only [Act.put, List.setIfInBounds_toArray, List.set_cons_zero, List.set_cons_succ, i64_w, i32_w]
       rfl
      refine pure_ (i := 6) (N := some 18) (v := ?_) (a' := ?_) #[t_, t_, t_, t_, t_, t_, t_] rfl rfl (by kernel_rfl) (fun _ _ _ h => h) (Or.inl ⟨by rfl, ?_⟩) ?_ ?_
      rotate_left
      ·intro w'; go_simp
       with_reducible rfl
      rotate_left
      ·simp only [Act.put, List.setIfInBounds_toArray, List.set_cons_zero, List.set_cons_succ, i64_w, i32_w]
       rfl
      refine done_ (by kernel_rfl) ?_; (try go_wp2); go_ret; exact ⟨by first | rfl | (simp <;> rfl) | (simp [*] <;> rfl), by repeat (first | (with_reducible first | exact HB.out | apply below_alloc | apply pw_below_drewN | apply below_drew1) | exact HB.out)⟩
    ·rw [if_neg c4] at H; exact absurd H (by simp)
   ·rw [if_neg c3] at H; have c3b0 : decide (x5_1 < (l0.length : Int)) = false := decide_eq_false c3; clear c3; obtain rfl := Option.some.inj H; go_wp2; go_ret; exact ⟨by first | rfl | (simp <;> rfl) | (simp [*] <;> rfl), by repeat (first | (with_reducible first | exact HB.out | apply below_alloc | apply pw_below_drewN | apply below_drew1) | exact HB.out)⟩
end Go.Proofs.Ytfnhjaiioojbkaa.Q
end
section
namespace Go.Proofs.Ytfnhjaiioojbkaa.Q
open Go.RowKit Go.Proofs.YtfnhjaiioojbkaaW.PrintWords
set_option linter.unusedVariables false
set_option linter.unusedSimpArgs false
theorem markText0_ev : ∀ (n : Nat) (a : Int) (s : ByteArray), a.toNat ≤ n → 0 ≤ a → a ≤ 4611686018427387904 → s.size + n ≤ 9223372036854775000 → ∃ r, Ev (fun k => laws_markText.l0 k a s) r
  | n, a, s, hn, h0, h1, hs => by
    by_cases c : a > 0
    · have hd : Int.tdiv a 10 = a / 10 := Int.tdiv_eq_ediv_of_nonneg h0
      have hw : wrap64 (a / 10) = a / 10 := w64 (by omega) (by omega)
      have hz : (strOfNums [wrap64 (48 + Int.tmod a 10) % 256]).size = 1 := by simp [strOfNums]; rfl
      obtain ⟨m, rfl⟩ : ∃ m, n = m + 1 := ⟨n - 1, by omega⟩
      obtain ⟨r, hr⟩ := markText0_ev m (a / 10) (strOfNums [wrap64 (48 + Int.tmod a 10) % 256] ++ s) (by omega) (by omega) (by omega) (by rw [ByteArray.size_append, hz]; omega)
      refine ⟨r, Ev.step' ?_⟩
      simp only [laws_markText.l0, hd, hw]
      exact Ev.posf c (Ev.somef (Ev.posf (by rw [hz]; omega) hr))
    · refine ⟨(⟨#[109]⟩ : ByteArray) ++ s, Ev.step' ?_⟩
      simp only [laws_markText.l0]
      exact Ev.negf c (Ev.posf (by omega) (Ev.now _))
theorem markText_ev (a : Int) (h0 : 0 ≤ a) (h1 : a ≤ 4611686018427387904) : ∃ r, Ev (fun k => laws_markText.f k a) r := by
  unfold laws_markText.f
  by_cases c : a ≤ 0
  · exact ⟨_, Ev.posf c (Ev.now _)⟩
  · obtain ⟨r, hr⟩ := markText0_ev a.toNat a (⟨#[]⟩ : ByteArray) (Nat.le_refl _) h0 h1 (by show 0 + _ ≤ _; omega)
    exact ⟨r, Ev.negf c hr⟩
def Mt (mt : Int → ByteArray) : Prop := ∀ a : Int, 0 ≤ a → a ≤ 4611686018427387904 → Ev (fun k => laws_markText.f k a) (mt a)
theorem exists_mt : ∃ mt, Mt mt := by
  classical
  refine ⟨fun a => if h : 0 ≤ a ∧ a ≤ 4611686018427387904 then Classical.choose (markText_ev a h.1 h.2) else ByteArray.empty, fun a h0 h1 => ?_⟩
  show Ev _ (dite _ _ _)
  rw [dif_pos ⟨h0, h1⟩]
  exact Classical.choose_spec (markText_ev a h0 h1)
def mkS (mt : Int → ByteArray) (l : Tx) (a : Int) : Tx := (List.range l.length).map (fun j : Nat => mt (a + j))
theorem mkS_len (mt : Int → ByteArray) (l : Tx) (a : Int) : (mkS mt l a).length = l.length := by simp [mkS]
theorem markS0_ev {mt : Int → ByteArray} (hm : Mt mt) (l : Tx) (a : Int) (h0 : 0 ≤ a) (h1 : a + l.length ≤ 4000000000000000000) : ∀ (d i : Nat), l.length - i = d → i ≤ l.length →
    Ev (fun k => laws_markStringS.l0 k ((List.range i).map (fun j : Nat => mt (a + j)) ++ l.drop i) (a + i) i) (a + l.length, mkS mt l a)
  | 0, i, hd, hi => by
    obtain rfl : i = l.length := by omega
    refine Ev.step' ?_
    simp only [laws_markStringS.l0]
    exact Ev.negf (by simp) (EvT (Ev.now _) (by simp [mkS]))
  | d + 1, i, hd, hi => by
    have hi' : i < l.length := by omega
    have hs : (((List.range i).map (fun j : Nat => mt (a + j)) ++ l.drop i).set i (mt (a + i))) = (List.range (i + 1)).map (fun j : Nat => mt (a + j)) ++ l.drop (i + 1) := by
      rw [List.set_append_right _ _ (by simp)]
      simp [List.range_succ]
      rw [List.drop_eq_getElem_cons hi']
      rfl
    refine Ev.step' ?_
    have hw : wrap64 (a + (i : Int) + 1) = a + ((i + 1 : Nat) : Int) := by rw [w64 (by omega) (by omega)]; omega
    have hw2 : wrap64 ((i : Int) + 1) = ((i + 1 : Nat) : Int) := by rw [w64 (by omega) (by omega)]; omega
    simp only [laws_markStringS.l0, hw, hw2, Int.toNat_natCast]
    refine Ev.posf (by simp; omega) (Ev.bind (hm (a + i) (by omega) (by omega)) (Ev.posf (by omega) ?_))
    rw [hs]
    exact markS0_ev hm l a h0 h1 d (i + 1) (by omega) (by omega)
theorem markS_ev {mt : Int → ByteArray} (hm : Mt mt) (l : Tx) (a : Int) (h0 : 0 ≤ a) (h1 : a + l.length ≤ 4000000000000000000) : Ev (fun k => laws_markStringS.f k l a) (a + l.length, mkS mt l a) := by
  unfold laws_markStringS.f
  have := markS0_ev hm l a h0 h1 _ 0 rfl (by omega)
  simpa using this
theorem heldS0_ev {mt : Int → ByteArray} (hm : Mt mt) (l : Tx) (a : Int) (h0 : 0 ≤ a) (h1 : a + l.length ≤ 4000000000000000000) : ∀ (d i : Nat), l.length - i = d → i ≤ l.length →
    Ev (fun k => laws_heldStringS.l0 k (mkS mt l a) (a + i) i) (a + l.length)
  | 0, i, hd, hi => by
    obtain rfl : i = l.length := by omega
    refine Ev.step' ?_
    simp only [laws_heldStringS.l0]
    exact Ev.negf (by rw [mkS_len]; omega) (Ev.now _)
  | d + 1, i, hd, hi => by
    have hi' : i < l.length := by omega
    have hl : i < (mkS mt l a).length := by rw [mkS_len]; exact hi'
    have hg : (mkS mt l a)[i] = mt (a + i) := by simp [mkS]
    refine Ev.step' ?_
    have hw : wrap64 (a + (i : Int) + 1) = a + ((i + 1 : Nat) : Int) := by rw [w64 (by omega) (by omega)]; omega
    have hw2 : wrap64 ((i : Int) + 1) = ((i + 1 : Nat) : Int) := by rw [w64 (by omega) (by omega)]; omega
    simp only [laws_heldStringS.l0, hw, hw2, rdAt hl, hg]
    exact Ev.posf (by omega) (Ev.posf (by omega) (Ev.bind (hm (a + i) (by omega) (by omega)) (Ev.posf rfl (heldS0_ev hm l a h0 h1 d (i + 1) (by omega) (by omega)))))
theorem heldS_ev {mt : Int → ByteArray} (hm : Mt mt) (l : Tx) (a : Int) (h0 : 0 ≤ a) (h1 : a + l.length ≤ 4000000000000000000) : Ev (fun k => laws_heldStringS.f k (mkS mt l a) a) (a + l.length) := by
  unfold laws_heldStringS.f
  have := heldS0_ev hm l a h0 h1 _ 0 rfl (by omega)
  simpa using this
def cnD : List Dl → Int
  | [] => 0
  | x :: t => 2 + x.f2.length + cnD t
def mkD (mt : Int → ByteArray) : List Dl → Int → List Dl
  | [], _ => []
  | x :: t, a => ⟨a, a + 1, mkS mt x.f2 (a + 2)⟩ :: mkD mt t (a + (2 + x.f2.length))
theorem cnD_nn : ∀ l, 0 ≤ cnD l
  | [] => by simp [cnD]
  | x :: t => by have := cnD_nn t; simp only [cnD]; omega
theorem cnD_app : ∀ (l : List Dl) (x : Dl), cnD (l ++ [x]) = cnD l + (2 + x.f2.length)
  | [], x => by simp [cnD]
  | y :: t, x => by rw [List.cons_append, cnD, cnD_app t x, cnD]; omega
theorem cnD_apps : ∀ (l m : List Dl), cnD (l ++ m) = cnD l + cnD m
  | [], m => by simp [cnD]
  | y :: t, m => by rw [List.cons_append, cnD, cnD_apps t m, cnD]; omega
theorem mkD_app (mt : Int → ByteArray) : ∀ (l : List Dl) (x : Dl) (a : Int), mkD mt (l ++ [x]) a = mkD mt l a ++ [⟨a + cnD l, a + cnD l + 1, mkS mt x.f2 (a + cnD l + 2)⟩]
  | [], x, a => by simp [mkD, cnD]
  | y :: t, x, a => by
    rw [List.cons_append, mkD, mkD_app mt t x, mkD, cnD, List.cons_append, show a + (2 + (y.f2.length : Int)) + cnD t = a + (2 + y.f2.length + cnD t) by omega]
theorem mkD_len (mt : Int → ByteArray) : ∀ (l : List Dl) (a : Int), (mkD mt l a).length = l.length
  | [], a => rfl
  | x :: t, a => by simp [mkD, mkD_len mt t]
theorem cnD_take {l : List Dl} {i : Nat} (h : i < l.length) : cnD (l.take (i + 1)) = cnD (l.take i) + (2 + l[i].f2.length) := by
  rw [← List.take_append_getElem h, cnD_app]
theorem cnD_le (l : List Dl) (i : Nat) : cnD (l.take i) ≤ cnD l := by
  have h : cnD l = cnD (l.take i) + cnD (l.drop i) := by rw [← cnD_apps, List.take_append_drop]
  have := cnD_nn (l.drop i)
  omega
end Go.Proofs.Ytfnhjaiioojbkaa.Q
end
section
namespace Go.Proofs.Ytfnhjaiioojbkaa.Q
open Go.RowKit Go.Proofs.YtfnhjaiioojbkaaW.PrintWords Go.Proofs.YtfnhjaiioojbkaaW.PrintLast Go.Proofs.YtfnhjaiioojbkaaW.PrintMore
attribute [local go_sem] max2_int min2_int max_two min_two max_three min_three max_four min_four
set_option linter.unusedVariables false
set_option linter.unusedSimpArgs false
/-- One cell of an element is written. -/
theorem S_field {α : Type} {d : Kd α} {e g n cap : Nat} {W : World} {base : Nat} {ok : Nat → Prop} {xs : List α} (h : Kd.S d e W base ok (.slice (some ⟨g, 0, none⟩) n cap) xs) (z : α) (i : Int) (h0 : 0 ≤ i) (h1 : i < n)
    (j : Nat) (hj : j < d.sz) (u : Value) (x' : α) (hM : ∀ (oki : Nat → Prop) (c : List Value), c.length = d.sz → d.M W base oki (xs.getD i.toNat z) c → d.M W base oki x' (c.take j ++ [u] ++ c.drop (j + 1))) :
    (∃ c : List Value, c.length = d.sz ∧ ∀ j u, c[j]? = some u → W.cell? ⟨g, i.toNat * d.sz + j, none⟩ = some u) ∧ (∀ j, W.frozen? ⟨g, i.toNat * d.sz + j, none⟩ = false) ∧
      Kd.S d e (W.setCell ⟨g, i.toNat * d.sz + j, none⟩ u) base ok (.slice (some ⟨g, 0, none⟩) n cap) (xs.set i.toNat x') ∧ W.grownBy (W.setCell ⟨g, i.toNat * d.sz + j, none⟩ u) (some g) := by
  obtain ⟨oki, c, hcl, hMc, hcc, hfr, hoki, hH⟩ := Kd.S_elem (Kd.S_mono (ok' := fun k => ok k ∧ ¬ (fun _ => False) k) h (fun k hk => ⟨hk, fun hf => hf⟩)) z i h0 h1
  obtain ⟨p1, p2⟩ := Kd.S_seg (okp := oki) (okg := fun _ => False) hH h0 h1 (seg := [u]) (j := j) (show j + 1 ≤ d.sz from hj) (x' := x') (hM oki c hcl hMc) (fun k hk => .inl hk) (fun k hk => hk.elim)
  exact ⟨⟨c, hcl, hcc⟩, hfr, p1, p2⟩
theorem set_mid {α : Type} (p : List α) (x y : α) (q : List α) (i : Nat) (h : i = p.length) : (p ++ x :: q).set i y = p ++ y :: q := by
  subst h; simp
theorem get_mid {α : Type} (p : List α) (x z : α) (q : List α) (i : Nat) (h : i = p.length) : (p ++ x :: q).getD i z = x := by
  subst h; simp
theorem k39_f0 {W : World} {base : Nat} {a : Int} {x : Dl} (oki : Nat → Prop) (c : List Value) (hl : c.length = k39.sz) (h : k39.M W base oki x c) : k39.M W base oki ⟨a, x.f1, x.f2⟩ (c.take 0 ++ [.int .i64 a] ++ c.drop (0 + 1)) := by
  obtain ⟨v, rfl, g⟩ := k39_openM h
  exact k39_mkM _ _ _ ⟨a, x.f1, x.f2⟩ g
theorem k39_f1 {W : World} {base : Nat} {a : Int} {x : Dl} (oki : Nat → Prop) (c : List Value) (hl : c.length = k39.sz) (h : k39.M W base oki x c) : k39.M W base oki ⟨x.f0, a, x.f2⟩ (c.take 1 ++ [.int .i64 a] ++ c.drop (1 + 1)) := by
  obtain ⟨v, rfl, g⟩ := k39_openM h
  exact k39_mkM _ _ _ ⟨x.f0, a, x.f2⟩ g
theorem k39_g0 {W : World} {base : Nat} {a : Int} {x : Dl} {p q : List Dl} {i : Nat} (hp : i = p.length) (oki : Nat → Prop) (c : List Value) (hl : c.length = k39.sz) (h : k39.M W base oki ((p ++ x :: q).getD (i : Int).toNat z39) c) : k39.M W base oki ⟨a, x.f1, x.f2⟩ (c.take 0 ++ [.int .i64 a] ++ c.drop (0 + 1)) := by
  rw [Int.toNat_natCast, get_mid _ _ _ _ _ hp] at h
  exact k39_f0 oki c hl h
theorem k39_g1 {W : World} {base : Nat} {a : Int} {x : Dl} {p q : List Dl} {i : Nat} (hp : i = p.length) (oki : Nat → Prop) (c : List Value) (hl : c.length = k39.sz) (h : k39.M W base oki ((p ++ x :: q).getD (i : Int).toNat z39) c) : k39.M W base oki ⟨x.f0, a, x.f2⟩ (c.take 1 ++ [.int .i64 a] ++ c.drop (1 + 1)) := by
  rw [Int.toNat_natCast, get_mid _ _ _ _ _ hp] at h
  exact k39_f1 oki c hl h
/-- The lines of one element, lent: where they lie, and the row without them. -/
theorem lend_lines {W : World} {base : Nat} {ok : Nat → Prop} {g n cap : Nat} {p q : List Dl} {x : Dl} {i : Nat} (hp : i = p.length) (h : Kd.S k39 39 W base ok (.slice (some ⟨g, 0, none⟩) n cap) (p ++ x :: q)) (hi : (i : Int) < (n : Int)) :
    ∃ (oki : Nat → Prop) (A : Option Addr) (c : Nat), Kd.R Kd.string 9 W base oki (.slice A x.f2.length c) x.f2 ∧ W.cell? ⟨g, i * 3 + 2, none⟩ = some (.slice A x.f2.length c) ∧ (∀ k, oki k → ok k) ∧
      Kd.H k39 39 W base ok (.slice (some ⟨g, 0, none⟩) n cap) (p ++ x :: q) (i : Int) oki [.int .i64 x.f0, .int .i64 x.f1, .slice A x.f2.length c] := by
  obtain ⟨oki, c, hcl, hM, hcc, hoki, hH⟩ := Kd.S_lend h z39 (i : Int) (by omega) hi
  rw [Int.toNat_natCast, get_mid _ _ _ _ _ hp] at hM
  obtain ⟨v, rfl, g2⟩ := k39_openM hM
  obtain ⟨A, c2, rfl⟩ := Kd.R_slice g2
  exact ⟨oki, A, c2, g2, hcc 2 _ rfl, fun k hk => (hoki k hk).1, hH⟩
/-- .. and brought back, written. -/
theorem back_lines {W w1 : World} {base : Nat} {ok oki : Nat → Prop} {g n cap c : Nat} {A : Option Addr} {p q : List Dl} {x : Dl} {i : Nat} {m : Nat} {l : Tx} (hp : i = p.length) (hH : Kd.H k39 39 W base ok (.slice (some ⟨g, 0, none⟩) n cap) (p ++ x :: q) (i : Int) oki [.int .i64 x.f0, .int .i64 x.f1, .slice A m c])
    (hr : Kd.R Kd.string 9 w1 base (fun k => oki k ∨ W.heap.size ≤ k) (.slice A m c) l) (hk : Kept W w1 oki) (hok : ∀ k, W.heap.size ≤ k → ok k) :
    Kd.S k39 39 w1 base ok (.slice (some ⟨g, 0, none⟩) n cap) (p ++ ⟨x.f0, x.f1, l⟩ :: q) := by
  have h2 := Kd.H_step (Kd.H_widen hH) (w1 := w1) (fun k _ hn hlt => hk.2 k hlt (fun h => hn (.inl h)))
  have h3 := Kd.H_back h2 (x' := ⟨x.f0, x.f1, l⟩) (k39_mkM _ _ _ ⟨x.f0, x.f1, l⟩ hr) (fun k hk => hk.elim .inl (fun h => .inr ⟨hok k h, h⟩))
  rw [Int.toNat_natCast, set_mid _ _ _ _ _ hp] at h3
  exact h3
set_option maxHeartbeats 8000000 in
set_option maxRecDepth 100000 in
theorem markDS_calls {mt : Int → ByteArray} (hm : Mt mt) (P0 : Nat → Prop) (u : Value) (l : List Dl) (a : Int) (w0 w : World) (hB : Below w0.heap.size w0 w) (ho : Kd.S k39 39 w w0.heap.size P0 u l) (h0 : 0 ≤ a) (hl : l.length ≤ 1000000) (h1 : a + cnD l ≤ 4000000000000000000) :
    Calls Try.prog 32 #[u, .int .i64 a] w fun e w' => e = .returned (.int .i64 (a + cnD l)) ∧ Kd.S k39 39 w' w0.heap.size (fun k => P0 k ∨ w.heap.size ≤ k) u (mkD mt l a) ∧ Below w0.heap.size w0 w' ∧ Kept w w' P0 := by
  have hu39 := Try.underlying39
  obtain ⟨A, c, rfl⟩ := Kd.S_slice ho
  have HO := Aside0.mk (Kd.S_mono (ok' := fun k => P0 k ∨ w.heap.size ≤ k) ho (fun k hk => .inl hk))
  have HB := Aside0.mk hB
  have HK := Aside0.mk (Kept.refl w P0)
  have HM := Aside0.mk hm
  have H0 := Aside0.mk h0
  have H1 := Aside0.mk h1
  have HL := Aside0.mk hl
  clear ho hB hm h0 h1 hl
  go_enter Try.func32, Try.ntmps32
  go_wp2
  go_loopg [1, 5] l.length (fun gg v1 v5 wr => ∃ i : Nat, v1 = .int .i64 (a + cnD (l.take i)) ∧ v5 = .int .i64 i ∧ i ≤ l.length ∧ l.length - i ≤ gg ∧ Aside0 (Kd.S k39 39 wr w0.heap.size (fun k => P0 k ∨ w.heap.size ≤ k) (.slice A l.length c) (mkD mt (l.take i) a ++ l.drop i)) ∧ Aside0 (Kept w wr P0) ∧ Aside0 (Below w0.heap.size w0 wr))
  case atStart => exact ⟨0, by simp [cnD], rfl, Nat.zero_le _, by omega, HO, HK, HB⟩
  case round =>
    clear HO HB HK
    obtain ⟨i, rfl, rfl, hi, hg, HO, HK, HB⟩ := hrel
    by_cases hlt : i < l.length
    · have HLT := Aside0.mk hlt
      have hltz : (i : Int) < (l.length : Int) := by omega
      have hzz : 0 ≤ (i : Int) := by omega
      have hib : i ≤ 1000000 := by have := HL.out; omega
      have hct := cnD_take hlt
      have hle := cnD_le l (i + 1)
      have hnn := cnD_nn (l.take i)
      obtain ⟨kk, hkk⟩ : ∃ kk, a + cnD (l.take i) = kk := ⟨_, rfl⟩
      have HKK := Aside0.mk hkk
      rw [hkk]
      have HR := Aside0.mk (show 0 ≤ kk ∧ kk + 2 + l[i].f2.length ≤ 4000000000000000000 ∧ a + cnD (l.take (i + 1)) = kk + 2 + l[i].f2.length by have := H0.out; have := H1.out; omega)
      have hpl : i = (mkD mt (l.take i) a).length := by rw [mkD_len, List.length_take]; omega
      have HPL := Aside0.mk hpl
      rw [List.drop_eq_getElem_cons hlt] at HO
      obtain ⟨go, co', eo, gb, gl, cl, HG⟩ := Kd.S_form HO.out (by simp; omega)
      injection eo with ea en ec
      subst ea
      subst ec
      have GB := Aside0.mk gb
      clear gb gl HG en hct hle hnn hkk
      have hgo : P0 go ∨ w.heap.size ≤ go := (Kd.S_R HO.out).1 go rfl
      have HGO := Aside0.mk hgo
      obtain ⟨⟨cc, hcl, hcc⟩, hfr, p1, p2⟩ := S_field HO.out z39 (i : Int) hzz hltz 0 (by decide) (.int .i64 kk) ⟨kk, l[i].f1, l[i].f2⟩ (k39_g0 HPL.out)
      obtain ⟨u0, u1, u2, rfl⟩ : ∃ u0 u1 u2, cc = [u0, u1, u2] := (by match cc, hcl with | [a, b, c], _ => exact ⟨a, b, c, rfl⟩)
      have hz0 := hcc 0 _ rfl
      have hf0 := hfr 0
      simp only [show k39.sz = 3 from rfl, Int.toNat_natCast, Nat.add_zero] at hz0 hf0 p1 p2
      rw [set_mid _ _ _ _ _ HPL.out] at p1
      have P1 := Aside0.mk p1
      have P2 := Aside0.mk p2
      clear hcc hfr p1 p2 hcl hpl hgo
      obtain ⟨km, hkm⟩ := markS_ev HM.out l[i].f2 (kk + 2) (by have := HR.out; omega) (by have := HR.out; omega)
      have HMS := Aside0.mk (hkm km (Nat.le_refl _))
      clear hkm
      have hw1 : wrap64 (kk + 1) = kk + 1 := by have := HR.out; exact w64 (by omega) (by omega)
      have hw1b : (IntKind.i64.wrap (kk + 1)) = kk + 1 := (i64_w _).trans hw1
      have hw2 : wrap64 (kk + 1 + 1) = kk + 2 := by have := HR.out; rw [w64 (by omega) (by omega)]; omega
      have hw2b : (IntKind.i64.wrap (kk + 1 + 1)) = kk + 2 := (i64_w _).trans hw2
      go_wp2_with (first | ((with_reducible refine gate_store (t := 3) (p := 16) rfl ?_); refine store_event (t := 3) (p := 16) (v := ?vo1) (w1 := (wr.setCell ⟨go, i * 3, none⟩ (.int .i64 kk))) ?hg ?ho ?hn ?hr ?_; (case ho => rfl); (case hg => rfl); (case hn => rfl); (case hr => first | (go_simp; done) | (go_simp; rfl)); intro w4 hw; rw [← hw] at P1 P2; have nb_ := Aside0.mk ((by rw [hw]; exact below_set (HB.out) GB.out : Below w0.heap.size w0 w4)); have nk_ := Aside0.mk (Kept.of_grown P2.out HK.out (fun k hk => by injection hk with hk; subst hk; exact HGO.out)); clear HB HK HO P2 hw; have HB := nb_; have HK := nk_; clear nb_ nk_; obtain ⟨⟨cc, hcl, hcc⟩, hfr, p1, p2⟩ := S_field P1.out z39 (i : Int) hzz hltz 1 (by decide) (.int .i64 (kk + 1)) ⟨kk, kk + 1, l[i].f2⟩ (k39_g1 HPL.out); obtain ⟨t0, t1, t2, rfl⟩ : ∃ u0 u1 u2, cc = [u0, u1, u2] := (by match cc, hcl with | [a, b, c], _ => exact ⟨a, b, c, rfl⟩); have hz1 := hcc 1 _ rfl; have hf1 := hfr 1; simp only [show k39.sz = 3 from rfl, Int.toNat_natCast, Nat.add_zero] at hz1 hf1 p1 p2; rw [set_mid _ _ _ _ _ HPL.out] at p1; have Q1 := Aside0.mk p1; have Q2 := Aside0.mk p2; clear hcc hfr p1 p2 hcl P1) | ((with_reducible refine gate_store (t := 3) (p := 23) rfl ?_); refine store_event (t := 3) (p := 23) (v := ?vo2) (w1 := (w4.setCell ⟨go, i * 3 + 1, none⟩ (.int .i64 (kk + 1)))) ?hg ?ho ?hn ?hr ?_; (case ho => rfl); (case hg => rfl); (case hn => rfl); (case hr => first | (go_simp; done) | (go_simp; rfl)); intro w5 hw; rw [← hw] at Q1 Q2; have nb_ := Aside0.mk ((by rw [hw]; exact below_set (HB.out) GB.out : Below w0.heap.size w0 w5)); have nk_ := Aside0.mk (Kept.of_grown Q2.out HK.out (fun k hk => by injection hk with hk; subst hk; exact HGO.out)); clear HB HK Q2 hw; have HB := nb_; have HK := nk_; clear nb_ nk_; obtain ⟨oki, A2, c2, g2, hz2, hok2, hH2⟩ := lend_lines HPL.out Q1.out hltz; have G2 := Aside0.mk g2; have OK2 := Aside0.mk hok2; have HH2 := Aside0.mk hH2; clear g2 hok2 hH2 Q1) | ((with_reducible refine gate_callee (f := 31) rfl ?_); refine goesL_ (some 32) rfl rfl Try.func31 (by kernel_rfl) rfl #[.slice A2 l[i].f2.length c2, .int .i64 (kk + 2)] rfl (by (try simp only [List.map_toArray, List.map_cons, List.map_nil]); first | done | rfl) ?_; (refine (laws_markStringS.calls km oki _ l[i].f2 (kk + 2) (kk + 2 + l[i].f2.length) (mkS mt l[i].f2 (kk + 2)) w0 _ (by exact HB.out) (by exact G2.out) HMS.out).mono ?_); rintro e w6 ⟨rfl, hr, hb, hk⟩; refine ⟨_, rfl, ?_⟩; have hS := back_lines HPL.out HH2.out hr hk (fun k h => .inr (Nat.le_trans HK.out.1 h)); have nk_ := Aside0.mk (Kept.then_ HK.out hk (fun k h => OK2.out k h)); clear HK HB; have HK := nk_; have HB := Aside0.mk hb; have HO := Aside0.mk hS; clear nk_ hb hS hr hk))
      have hR := HR.out
      rw [show (⟨kk, kk + 1, mkS mt l[i].f2 (kk + 2)⟩ : Dl) :: l.drop (i + 1) = [⟨kk, kk + 1, mkS mt l[i].f2 (kk + 2)⟩] ++ l.drop (i + 1) from rfl, ← List.append_assoc] at HO
      have hmk : mkD mt (l.take i) a ++ [⟨kk, kk + 1, mkS mt l[i].f2 (kk + 2)⟩] = mkD mt (l.take (i + 1)) a := by
        rw [← List.take_append_getElem HLT.out, mkD_app, HKK.out]
      rw [hmk] at HO
      clear hmk hw1 hw1b hw2 hw2b
      go_roundg (l.length - (i + 1))
      case measure => have := HLT.out; omega
      case rel => exact ⟨i + 1, by rw [hR.2.2], by go_num, HLT.out, by omega, HO, HK, HB⟩
    · obtain rfl : i = l.length := by omega
      have hltz : ¬ (l.length : Int) < (l.length : Int) := by omega
      rw [List.take_length] at HO ⊢
      rw [List.drop_length, List.append_nil] at HO
      go_wp2
      go_ret
      exact ⟨rfl, HO.out, HB.out, HK.out⟩
end Go.Proofs.Ytfnhjaiioojbkaa.Q
end
section
namespace Go.Proofs.Ytfnhjaiioojbkaa.Q
open Go.RowKit Go.Proofs.YtfnhjaiioojbkaaW.PrintWords
set_option linter.unusedVariables false
set_option linter.unusedSimpArgs false
theorem R_span {α : Type} {d : Kd α} {e : Nat} {W w1 : World} {ok : Nat → Prop} {v : Value} {xs : List α} {b prev : Nat} (h : Kd.R d e w1 W.heap.size ok v xs) (hp : prev ≤ W.heap.size) (hb : b ≤ W.heap.size) (hs : W.heap.size ≤ w1.heap.size) :
    ∃ lo hi : Nat, (prev ≤ lo ∧ lo ≤ hi) ∧ hi ≤ w1.heap.size ∧ Kd.R d e w1 b (fun k => lo ≤ k ∧ k < hi) v xs :=
  ⟨W.heap.size, w1.heap.size, ⟨hp, hs⟩, Nat.le_refl _, Kd.R_lower (Kd.R_mono (Kd.R_bound h) (fun k hk => ⟨hk.2.1, hk.2.2.1⟩)) hb⟩
theorem S_span {α : Type} {d : Kd α} {e : Nat} {W w1 : World} {ok : Nat → Prop} {v : Value} {xs : List α} {b prev : Nat} (h : Kd.S d e w1 W.heap.size ok v xs) (hp : prev ≤ W.heap.size) (hb : b ≤ W.heap.size) (hs : W.heap.size ≤ w1.heap.size) :
    ∃ lo hi : Nat, (prev ≤ lo ∧ lo ≤ hi) ∧ hi ≤ w1.heap.size ∧ Kd.S d e w1 b (fun k => lo ≤ k ∧ k < hi) v xs :=
  ⟨W.heap.size, w1.heap.size, ⟨hp, hs⟩, Nat.le_refl _, Kd.S_lower (Kd.S_mono (Kd.S_bound h) (fun k hk => ⟨hk.2.1, hk.2.2.1⟩)) hb⟩
theorem markDSp {mt : Int → ByteArray} (hm : Mt mt) (P0 : Nat → Prop) (u : Value) (l : List Dl) (a m : Int) (w0 w : World) (hB : Below w0.heap.size w0 w) (ho : Kd.S k39 39 w w0.heap.size P0 u l) (h0 : 0 ≤ a) (hl : l.length ≤ 1000000) (h1 : a + cnD l ≤ 4000000000000000000) (he : a + cnD l = m) (X : List Dl) (hX : mkD mt l a = X) :
    Calls Try.prog 32 #[u, .int .i64 a] w fun e w' => e = .returned (.int .i64 m) ∧ Kd.S k39 39 w' w0.heap.size (fun k => P0 k ∨ w.heap.size ≤ k) u X ∧ Below w0.heap.size w0 w' ∧ Kept w w' P0 := by
  subst he
  subst hX
  exact markDS_calls hm P0 u l a w0 w hB ho h0 hl h1
theorem plD_M {w : World} {base : Nat} {ok : Nat → Prop} {x : Int × Int × (List ByteArray × Nat)} {cs : List Value} (h : kDF.M w base ok x cs) : k39.M w base ok (plD x) cs := by
  obtain ⟨c0, c1, rfl, h0, ⟨c2, c3, rfl, h1, ⟨A, c, rfl, hn, hr⟩⟩⟩ := h
  have h2 := Kd.R_take hr hn
  exact ⟨c0, _, rfl, h0, ⟨c2, _, rfl, h1, ⟨_, rfl, h2⟩⟩⟩
theorem R_map {α β : Type} {d : Kd α} {d' : Kd β} {f : α → β} (hsz : d'.sz = d.sz) {e : Nat} {w : World} {base : Nat} {ok : Nat → Prop} {v : Value} {xs : List α} (hf : ∀ ok x cs, d.M w base ok x cs → d'.M w base ok (f x) cs) (h : Kd.R d e w base ok v xs) : Kd.R d' e w base ok v (xs.map f) := by
  obtain ⟨h0, inner, ho, hr⟩ := h
  refine ⟨h0, inner, by rw [List.length_map, hsz]; exact ho, by rw [List.length_map, hsz]; exact hr.1, fun j p hj => ?_⟩
  rw [List.getElem?_map] at hj
  obtain ⟨q, hq, rfl⟩ := Option.map_eq_some_iff.mp hj
  rw [hsz]
  exact hf _ _ _ (hr.2 j q hq)
theorem S_map {α β : Type} {d : Kd α} {d' : Kd β} {f : α → β} (hsz : d'.sz = d.sz) {e : Nat} {w : World} {base : Nat} {ok : Nat → Prop} {v : Value} {xs : List α} (hf : ∀ ok x cs, d.M w base ok x cs → d'.M w base ok (f x) cs) (h : Kd.S d e w base ok v xs) : Kd.S d' e w base ok v (xs.map f) := by
  obtain ⟨g, h⟩ := h
  refine ⟨g, ?_⟩
  have e : (xs.map f).zipIdx = xs.zipIdx.map (fun p => (f p.1, p.2)) := by rw [List.zipIdx_map]; rfl
  rw [e]
  exact R_map (d := Kd.tag g d) (d' := Kd.tag g d') (f := fun p => (f p.1, p.2)) hsz (fun ok x cs hM => hf _ _ _ hM) h
theorem heldSp (k : Nat) (A : Option Addr) (c : Nat) (l : Tx) (n : Nat) (a r : Int) (w : World) (hn : l.length = n) (hr : Kd.C Kd.string w A l.length l) (hc : n ≤ c) (h : laws_heldStringS.f k l a = some r) :
    Calls Try.prog 37 #[.slice A n c, .int .i64 a] w fun e w' => e = .returned (.int .i64 r) ∧ Below w.heap.size w w' := by
  subst hn
  exact laws_heldStringS.calls k A c l a r w hr hc h
end Go.Proofs.Ytfnhjaiioojbkaa.Q
end
section
namespace Go.Proofs.Ytfnhjaiioojbkaa.Q
open Go.RowKit Go.Proofs.YtfnhjaiioojbkaaW.PrintWords Go.Proofs.YtfnhjaiioojbkaaW.PrintLast Go.Proofs.YtfnhjaiioojbkaaW.PrintMore
attribute [local go_sem] max2_int min2_int max_two min_two max_three min_three max_four min_four   -- for this text's walks alone
set_option linter.unusedVariables false
set_option linter.unusedSimpArgs false
def laws_eqPacked.f (k : Nat) (a0_0 : Int) (l0_1 : List (S39)) (a1_0 : Int) (l1_1 : List (S39)) : Option (Bool) := if a0_0 = a1_0 then ((laws_eqDeltaS.f k l0_1 l1_1).bind fun t1026 => (if t1026 = true then (some true) else (some false))) else (some false)
set_option maxHeartbeats 8000000 in
set_option maxRecDepth 100000 in
theorem laws_eqPacked.calls (k : Nat) (a0_0 : Int) (A0_1 : Option Addr) (c0_1 : Nat) (l0_1 : List (S39)) (a1_0 : Int) (A1_1 : Option Addr) (c1_1 : Nat) (l1_1 : List (S39)) (r : Bool) (w : World) (hr0_1 : Kd.C k39 w A0_1 l0_1.length l0_1) (hc0_1 : l0_1.length ≤ c0_1) (hr1_1 : Kd.C k39 w A1_1 l1_1.length l1_1) (hc1_1 : l1_1.length ≤ c1_1) (h : laws_eqPacked.f k a0_0 l0_1 a1_0 l1_1 = some r) :
 Calls Try.prog 99 #[.agg #[.int .i64 a0_0, .slice A0_1 l0_1.length c0_1], .agg #[.int .i64 a1_0, .slice A1_1 l1_1.length c1_1]] w fun e w' => e = .returned (.bool r) ∧ Below w.heap.size w w' := by
 have hu53 := Try.underlying53; have HR0_1 := Aside0.mk hr0_1; have HC0_1 := Aside0.mk hc0_1; clear hr0_1 hc0_1; have HR1_1 := Aside0.mk hr1_1; have HC1_1 := Aside0.mk hc1_1; clear hr1_1 hc1_1; have HB := Aside0.mk (Below.refl w.heap.size w); have H : (if a0_0 = a1_0 then ((laws_eqDeltaS.f k l0_1 l1_1).bind fun t1026 => (if t1026 = true then (some true) else (some false))) else (some false)) = some r := h; clear h; by_cases c3 : a0_0 = a1_0
 ·rw [if_pos c3] at H; have c3b0 : (a0_0 == a1_0) = true := beq_iff_eq.mpr c3; have c3b1 : (a0_0 != a1_0) = false := bne_eq_false_iff_eq.mpr c3; clear c3; replace H := Option.bind_eq_some_iff.mp H; obtain ⟨t1026, A40, H⟩ := H; replace H : (if t1026 = true then (some true) else (some false)) = some r := H; have A4 := Aside0.mk A40; clear A40; by_cases c5 : t1026 = true
  ·subst c5; (have H1 : (some true) = some r := by rw [if_pos rfl] at H; exact H); clear H; have H := H1; clear H1; obtain rfl := Option.some.inj H; go_enter Try.func99, Try.ntmps99; go_wp2_with (first | ((with_reducible refine gate_dst (N := 2) rfl ?_); refine box_event ?hg (N := 2) ?hd (cs := #[.int .i64 a0_0, .slice A0_1 l0_1.length c0_1]) (t := 53) ?hr ?_; (case hd => rfl); (case hg => rfl); (case hr => first | (go_simp; done) | (go_simp; rfl)); intro gb1024 hg w6 hbox hb; have n0_ := Aside0.mk (below_step (by repeat (first | (with_reducible first | exact HB.out | apply below_alloc | apply pw_below_drewN | apply below_drew1) | exact HB.out)) hb); have n1_ := Aside0.mk (hbox); have n2_ := Aside0.mk ((by rw [hg]; exact (below_size (by repeat (first | (with_reducible first | exact HB.out | apply below_alloc | apply pw_below_drewN | apply below_drew1) | exact HB.out))) : w.heap.size ≤ gb1024)); have n3_ := Aside0.mk ((by rw [hg]; exact (below_size (by repeat (first | (with_reducible first | exact HB.out | apply below_alloc | apply pw_below_drewN | apply below_drew1) | exact HB.out))) : w.heap.size ≤ gb1024)); clear HB; have HB := n0_; have BK1024 := n1_; have GW1024 := n2_; have GE1024 := n3_; clear n0_ n1_ n2_ n3_; clear hb hbox hg) | ((with_reducible refine gate_dst (N := 3) rfl ?_); refine box_event ?hg (N := 3) ?hd (cs := #[.int .i64 a1_0, .slice A1_1 l1_1.length c1_1]) (t := 53) ?hr ?_; (case hd => rfl); (case hg => rfl); (case hr => first | (go_simp; done) | (go_simp; rfl)); intro gb1025 hg w7 hbox hb; have n0_ := Aside0.mk (blk_below (g := gb1024) (o := .cells #[.int .i64 a0_0, .slice A0_1 l0_1.length c0_1] 53 (0, 0)) (by (with_reducible repeat (first | refine blk_drewN ?_ _ | refine blk_drew ?_ | refine blk_alloc ?_ _)); exact BK1024.out) hb); have n1_ := Aside0.mk (below_step (by repeat (first | (with_reducible first | exact HB.out | apply below_alloc | apply pw_below_drewN | apply below_drew1 | refine below_set ?_ GE1024.out) | exact HB.out)) hb); have n2_ := Aside0.mk (hbox); have n3_ := Aside0.mk ((by rw [hg]; exact (below_size (by repeat (first | (with_reducible first | exact HB.out | apply below_alloc | apply pw_below_drewN | apply below_drew1 | refine below_set ?_ GE1024.out) | exact HB.out))) : w.heap.size ≤ gb1025)); have n4_ := Aside0.mk ((by rw [hg]; exact (below_size (by repeat (first | (with_reducible first | exact HB.out | apply below_alloc | apply pw_below_drewN | apply below_drew1 | refine below_set ?_ GE1024.out) | exact HB.out))) : w.heap.size ≤ gb1025)); have n5_ := Aside0.mk ((by rw [hg]; exact Nat.ne_of_lt (blk_lt (g := gb1024) (o := .cells #[.int .i64 a0_0, .slice A0_1 l0_1.length c0_1] 53 (0, 0)) (by (with_reducible repeat (first | refine blk_drewN ?_ _ | refine blk_drew ?_ | refine blk_alloc ?_ _)); exact BK1024.out)) : gb1024 ≠ gb1025)); have n6_ := Aside0.mk ((by rw [hg]; exact Nat.ne_of_gt (blk_lt (g := gb1024) (o := .cells #[.int .i64 a0_0, .slice A0_1 l0_1.length c0_1] 53 (0, 0)) (by (with_reducible repeat (first | refine blk_drewN ?_ _ | refine blk_drew ?_ | refine blk_alloc ?_ _)); exact BK1024.out)) : gb1025 ≠ gb1024)); clear BK1024; clear HB; have BK1024 := n0_; have HB := n1_; have BK1025 := n2_; have GW1025 := n3_; have GE1025 := n4_; have NB1024_1025 := n5_; have NB1025_1024 := n6_; clear n0_ n1_ n2_ n3_ n4_ n5_ n6_; clear hb hbox hg; have hnb8 := NB1024_1025.out; have hnc8 := NB1025_1024.out; have hcz9_0 : w7.cell? ⟨gb1024, 0, none⟩ = some (.int .i64 a0_0) := (blk_cell BK1024.out 0).trans rfl; have hcz9_1 : w7.cell? ⟨gb1024, 1, none⟩ = some (.slice A0_1 l0_1.length c0_1) := (blk_cell BK1024.out 1).trans rfl; have hfz9_0 := blk_frozen BK1024.out 0; have hfz9_1 := blk_frozen BK1024.out 1; have hcz10_0 : w7.cell? ⟨gb1025, 0, none⟩ = some (.int .i64 a1_0) := (blk_cell BK1025.out 0).trans rfl; have hcz10_1 : w7.cell? ⟨gb1025, 1, none⟩ = some (.slice A1_1 l1_1.length c1_1) := (blk_cell BK1025.out 1).trans rfl; have hfz10_0 := blk_frozen BK1025.out 0; have hfz10_1 := blk_frozen BK1025.out 1) | ((with_reducible refine gate_callee (f := 29) rfl ?_); refine goesL_ (some 14) rfl rfl Try.func29 (by kernel_rfl) rfl #[.slice A0_1 l0_1.length c0_1, .slice A1_1 l1_1.length c1_1] rfl (by (try simp only [List.map_toArray, List.map_cons, List.map_nil]); first | done | rfl | (simp only [List.length_drop, List.length_take]; rfl)) ?_; (with_reducible refine (laws_eqDeltaS.calls k _ _ l0_1 _ _ l1_1 true _ ?side1 ?side2 ?side3 ?side4 A4.out).mono ?_); (case side1 => repeat (first | exact (Kd.C_below HR0_1.out HB.out) | (with_reducible refine Kd.C_alloc ?_ _) | (with_reducible refine Kd.C_drewN ?_ _) | (with_reducible refine Kd.C_drew ?_))); (case side2 => exact HC0_1.out); (case side3 => repeat (first | exact (Kd.C_below HR1_1.out HB.out) | (with_reducible refine Kd.C_alloc ?_ _) | (with_reducible refine Kd.C_drewN ?_ _) | (with_reducible refine Kd.C_drew ?_))); (case side4 => exact HC1_1.out); rintro e w11 ⟨rfl, hb⟩; refine ⟨_, rfl, ?_⟩; have n0_ := Aside0.mk (blk_below (g := gb1024) (o := .cells #[.int .i64 a0_0, .slice A0_1 l0_1.length c0_1] 53 (0, 0)) (by (with_reducible repeat (first | refine blk_drewN ?_ _ | refine blk_drew ?_ | refine blk_alloc ?_ _)); exact BK1024.out) hb); have n1_ := Aside0.mk (blk_below (g := gb1025) (o := .cells #[.int .i64 a1_0, .slice A1_1 l1_1.length c1_1] 53 (0, 0)) (by (with_reducible repeat (first | refine blk_drewN ?_ _ | refine blk_drew ?_ | refine blk_alloc ?_ _)); exact BK1025.out) hb); have n2_ := Aside0.mk (below_step (by repeat (first | (with_reducible first | exact HB.out | apply below_alloc | apply pw_below_drewN | apply below_drew1 | refine below_set ?_ GE1024.out | refine below_set ?_ GE1025.out) | exact HB.out)) hb); clear BK1024; clear BK1025; clear HB; have BK1024 := n0_; have BK1025 := n1_; have HB := n2_; clear n0_ n1_ n2_; (try clear hb); (try clear hb2); (try clear hk); (try clear hi)))
   go_ret; exact ⟨by first | rfl | (simp <;> rfl) | (simp [*] <;> rfl), by repeat (first | (with_reducible first | exact HB.out | apply below_alloc | apply pw_below_drewN | apply below_drew1 | refine below_set ?_ GE1024.out | refine below_set ?_ GE1025.out) | exact HB.out)⟩
  ·replace c5 := Bool.eq_false_iff.mpr c5; subst c5; (have H1 : (some false) = some r := by rw [if_neg (show ¬ (false = true) by decide)] at H; exact H); clear H; have H := H1; clear H1; obtain rfl := Option.some.inj H; go_enter Try.func99, Try.ntmps99; go_wp2_with (first | ((with_reducible refine gate_dst (N := 2) rfl ?_); refine box_event ?hg (N := 2) ?hd (cs := #[.int .i64 a0_0, .slice A0_1 l0_1.length c0_1]) (t := 53) ?hr ?_; (case hd => rfl); (case hg => rfl); (case hr => first | (go_simp; done) | (go_simp; rfl)); intro gb1024 hg w12 hbox hb; have n0_ := Aside0.mk (below_step (by repeat (first | (with_reducible first | exact HB.out | apply below_alloc | apply pw_below_drewN | apply below_drew1) | exact HB.out)) hb); have n1_ := Aside0.mk (hbox); have n2_ := Aside0.mk ((by rw [hg]; exact (below_size (by repeat (first | (with_reducible first | exact HB.out | apply below_alloc | apply pw_below_drewN | apply below_drew1) | exact HB.out))) : w.heap.size ≤ gb1024)); have n3_ := Aside0.mk ((by rw [hg]; exact (below_size (by repeat (first | (with_reducible first | exact HB.out | apply below_alloc | apply pw_below_drewN | apply below_drew1) | exact HB.out))) : w.heap.size ≤ gb1024)); clear HB; have HB := n0_; have BK1024 := n1_; have GW1024 := n2_; have GE1024 := n3_; clear n0_ n1_ n2_ n3_; clear hb hbox hg) | ((with_reducible refine gate_dst (N := 3) rfl ?_); refine box_event ?hg (N := 3) ?hd (cs := #[.int .i64 a1_0, .slice A1_1 l1_1.length c1_1]) (t := 53) ?hr ?_; (case hd => rfl); (case hg => rfl); (case hr => first | (go_simp; done) | (go_simp; rfl)); intro gb1025 hg w13 hbox hb; have n0_ := Aside0.mk (blk_below (g := gb1024) (o := .cells #[.int .i64 a0_0, .slice A0_1 l0_1.length c0_1] 53 (0, 0)) (by (with_reducible repeat (first | refine blk_drewN ?_ _ | refine blk_drew ?_ | refine blk_alloc ?_ _)); exact BK1024.out) hb); have n1_ := Aside0.mk (below_step (by repeat (first | (with_reducible first | exact HB.out | apply below_alloc | apply pw_below_drewN | apply below_drew1 | refine below_set ?_ GE1024.out) | exact HB.out)) hb); have n2_ := Aside0.mk (hbox); have n3_ := Aside0.mk ((by rw [hg]; exact (below_size (by repeat (first | (with_reducible first | exact HB.out | apply below_alloc | apply pw_below_drewN | apply below_drew1 | refine below_set ?_ GE1024.out) | exact HB.out))) : w.heap.size ≤ gb1025)); have n4_ := Aside0.mk ((by rw [hg]; exact (below_size (by repeat (first | (with_reducible first | exact HB.out | apply below_alloc | apply pw_below_drewN | apply below_drew1 | refine below_set ?_ GE1024.out) | exact HB.out))) : w.heap.size ≤ gb1025)); have n5_ := Aside0.mk ((by rw [hg]; exact Nat.ne_of_lt (blk_lt (g := gb1024) (o := .cells #[.int .i64 a0_0, .slice A0_1 l0_1.length c0_1] 53 (0, 0)) (by (with_reducible repeat (first | refine blk_drewN ?_ _ | refine blk_drew ?_ | refine blk_alloc ?_ _)); exact BK1024.out)) : gb1024 ≠ gb1025)); have n6_ := Aside0.mk ((by rw [hg]; exact Nat.ne_of_gt (blk_lt (g := gb1024) (o := .cells #[.int .i64 a0_0, .slice A0_1 l0_1.length c0_1] 53 (0, 0)) (by (with_reducible repeat (first | refine blk_drewN ?_ _ | refine blk_drew ?_ | refine blk_alloc ?_ _)); exact BK1024.out)) : gb1025 ≠ gb1024)); clear BK1024; clear HB; have BK1024 := n0_; have HB := n1_; have BK1025 := n2_; have GW1025 := n3_; have GE1025 := n4_; have NB1024_1025 := n5_; have NB1025_1024 := n6_; clear n0_ n1_ n2_ n3_ n4_ n5_ n6_; clear hb hbox hg; have hnb14 := NB1024_1025.out; have hnc14 := NB1025_1024.out; have hcz15_0 : w13.cell? ⟨gb1024, 0, none⟩ = some (.int .i64 a0_0) := (blk_cell BK1024.out 0).trans rfl; have hcz15_1 : w13.cell? ⟨gb1024, 1, none⟩ = some (.slice A0_1 l0_1.length c0_1) := (blk_cell BK1024.out 1).trans rfl; have hfz15_0 := blk_frozen BK1024.out 0; have hfz15_1 := blk_frozen BK1024.out 1; have hcz16_0 : w13.cell? ⟨gb1025, 0, none⟩ = some (.int .i64 a1_0) := (blk_cell BK1025.out 0).trans rfl; have hcz16_1 : w13.cell? ⟨gb1025, 1, none⟩ = some (.slice A1_1 l1_1.length c1_1) := (blk_cell BK1025.out 1).trans rfl; have hfz16_0 := blk_frozen BK1025.out 0; have hfz16_1 := blk_frozen BK1025.out 1) | ((with_reducible refine gate_callee (f := 29) rfl ?_); refine goesL_ (some 14) rfl rfl Try.func29 (by kernel_rfl) rfl #[.slice A0_1 l0_1.length c0_1, .slice A1_1 l1_1.length c1_1] rfl (by (try simp only [List.map_toArray, List.map_cons, List.map_nil]); first | done | rfl | (simp only [List.length_drop, List.length_take]; rfl)) ?_; (with_reducible refine (laws_eqDeltaS.calls k _ _ l0_1 _ _ l1_1 false _ ?side1 ?side2 ?side3 ?side4 A4.out).mono ?_); (case side1 => repeat (first | exact (Kd.C_below HR0_1.out HB.out) | (with_reducible refine Kd.C_alloc ?_ _) | (with_reducible refine Kd.C_drewN ?_ _) | (with_reducible refine Kd.C_drew ?_))); (case side2 => exact HC0_1.out); (case side3 => repeat (first | exact (Kd.C_below HR1_1.out HB.out) | (with_reducible refine Kd.C_alloc ?_ _) | (with_reducible refine Kd.C_drewN ?_ _) | (with_reducible refine Kd.C_drew ?_))); (case side4 => exact HC1_1.out); rintro e w17 ⟨rfl, hb⟩; refine ⟨_, rfl, ?_⟩; have n0_ := Aside0.mk (blk_below (g := gb1024) (o := .cells #[.int .i64 a0_0, .slice A0_1 l0_1.length c0_1] 53 (0, 0)) (by (with_reducible repeat (first | refine blk_drewN ?_ _ | refine blk_drew ?_ | refine blk_alloc ?_ _)); exact BK1024.out) hb); have n1_ := Aside0.mk (blk_below (g := gb1025) (o := .cells #[.int .i64 a1_0, .slice A1_1 l1_1.length c1_1] 53 (0, 0)) (by (with_reducible repeat (first | refine blk_drewN ?_ _ | refine blk_drew ?_ | refine blk_alloc ?_ _)); exact BK1025.out) hb); have n2_ := Aside0.mk (below_step (by repeat (first | (with_reducible first | exact HB.out | apply below_alloc | apply pw_below_drewN | apply below_drew1 | refine below_set ?_ GE1024.out | refine below_set ?_ GE1025.out) | exact HB.out)) hb); clear BK1024; clear BK1025; clear HB; have BK1024 := n0_; have BK1025 := n1_; have HB := n2_; clear n0_ n1_ n2_; (try clear hb); (try clear hb2); (try clear hk); (try clear hi)))
   go_ret; exact ⟨by first | rfl | (simp <;> rfl) | (simp [*] <;> rfl), by repeat (first | (with_reducible first | exact HB.out | apply below_alloc | apply pw_below_drewN | apply below_drew1 | refine below_set ?_ GE1024.out | refine below_set ?_ GE1025.out) | exact HB.out)⟩
 ·rw [if_neg c3] at H; have c3b0 : (a0_0 == a1_0) = false := beq_eq_false_iff_ne.mpr c3; have c3b1 : (a0_0 != a1_0) = true := bne_iff_ne.mpr c3; obtain rfl := Option.some.inj H; go_enter Try.func99, Try.ntmps99; go_wp2_with (first | ((with_reducible refine gate_dst (N := 2) rfl ?_); refine box_event ?hg (N := 2) ?hd (cs := #[.int .i64 a0_0, .slice A0_1 l0_1.length c0_1]) (t := 53) ?hr ?_; (case hd => rfl); (case hg => rfl); (case hr => first | (go_simp; done) | (go_simp; rfl)); intro gb1024 hg w18 hbox hb; have n0_ := Aside0.mk (below_step (by repeat (first | (with_reducible first | exact HB.out | apply below_alloc | apply pw_below_drewN | apply below_drew1) | exact HB.out)) hb); have n1_ := Aside0.mk (hbox); have n2_ := Aside0.mk ((by rw [hg]; exact (below_size (by repeat (first | (with_reducible first | exact HB.out | apply below_alloc | apply pw_below_drewN | apply below_drew1) | exact HB.out))) : w.heap.size ≤ gb1024)); have n3_ := Aside0.mk ((by rw [hg]; exact (below_size (by repeat (first | (with_reducible first | exact HB.out | apply below_alloc | apply pw_below_drewN | apply below_drew1) | exact HB.out))) : w.heap.size ≤ gb1024)); clear HB; have HB := n0_; have BK1024 := n1_; have GW1024 := n2_; have GE1024 := n3_; clear n0_ n1_ n2_ n3_; clear hb hbox hg) | ((with_reducible refine gate_dst (N := 3) rfl ?_); refine box_event ?hg (N := 3) ?hd (cs := #[.int .i64 a1_0, .slice A1_1 l1_1.length c1_1]) (t := 53) ?hr ?_; (case hd => rfl); (case hg => rfl); (case hr => first | (go_simp; done) | (go_simp; rfl)); intro gb1025 hg w19 hbox hb; have n0_ := Aside0.mk (blk_below (g := gb1024) (o := .cells #[.int .i64 a0_0, .slice A0_1 l0_1.length c0_1] 53 (0, 0)) (by (with_reducible repeat (first | refine blk_drewN ?_ _ | refine blk_drew ?_ | refine blk_alloc ?_ _)); exact BK1024.out) hb); have n1_ := Aside0.mk (below_step (by repeat (first | (with_reducible first | exact HB.out | apply below_alloc | apply pw_below_drewN | apply below_drew1 | refine below_set ?_ GE1024.out) | exact HB.out)) hb); have n2_ := Aside0.mk (hbox); have n3_ := Aside0.mk ((by rw [hg]; exact (below_size (by repeat (first | (with_reducible first | exact HB.out | apply below_alloc | apply pw_below_drewN | apply below_drew1 | refine below_set ?_ GE1024.out) | exact HB.out))) : w.heap.size ≤ gb1025)); have n4_ := Aside0.mk ((by rw [hg]; exact (below_size (by repeat (first | (with_reducible first | exact HB.out | apply below_alloc | apply pw_below_drewN | apply below_drew1 | refine below_set ?_ GE1024.out) | exact HB.out))) : w.heap.size ≤ gb1025)); have n5_ := Aside0.mk ((by rw [hg]; exact Nat.ne_of_lt (blk_lt (g := gb1024) (o := .cells #[.int .i64 a0_0, .slice A0_1 l0_1.length c0_1] 53 (0, 0)) (by (with_reducible repeat (first | refine blk_drewN ?_ _ | refine blk_drew ?_ | refine blk_alloc ?_ _)); exact BK1024.out)) : gb1024 ≠ gb1025)); have n6_ := Aside0.mk ((by rw [hg]; exact Nat.ne_of_gt (blk_lt (g := gb1024) (o := .cells #[.int .i64 a0_0, .slice A0_1 l0_1.length c0_1] 53 (0, 0)) (by (with_reducible repeat (first | refine blk_drewN ?_ _ | refine blk_drew ?_ | refine blk_alloc ?_ _)); exact BK1024.out)) : gb1025 ≠ gb1024)); clear BK1024; clear HB; have BK1024 := n0_; have HB := n1_; have BK1025 := n2_; have GW1025 := n3_; have GE1025 := n4_; have NB1024_1025 := n5_; have NB1025_1024 := n6_; clear n0_ n1_ n2_ n3_ n4_ n5_ n6_; clear hb hbox hg; have hnb20 := NB1024_1025.out; have hnc20 := NB1025_1024.out; have hcz21_0 : w19.cell? ⟨gb1024, 0, none⟩ = some (.int .i64 a0_0) := (blk_cell BK1024.out 0).trans rfl; have hcz21_1 : w19.cell? ⟨gb1024, 1, none⟩ = some (.slice A0_1 l0_1.length c0_1) := (blk_cell BK1024.out 1).trans rfl; have hfz21_0 := blk_frozen BK1024.out 0; have hfz21_1 := blk_frozen BK1024.out 1; have hcz22_0 : w19.cell? ⟨gb1025, 0, none⟩ = some (.int .i64 a1_0) := (blk_cell BK1025.out 0).trans rfl; have hcz22_1 : w19.cell? ⟨gb1025, 1, none⟩ = some (.slice A1_1 l1_1.length c1_1) := (blk_cell BK1025.out 1).trans rfl; have hfz22_0 := blk_frozen BK1025.out 0; have hfz22_1 := blk_frozen BK1025.out 1))
  go_ret; exact ⟨by first | rfl | (simp <;> rfl) | (simp [*] <;> rfl), by repeat (first | (with_reducible first | exact HB.out | apply below_alloc | apply pw_below_drewN | apply below_drew1 | refine below_set ?_ GE1024.out | refine below_set ?_ GE1025.out) | exact HB.out)⟩
end Go.Proofs.Ytfnhjaiioojbkaa.Q
end
section
namespace Go.Proofs.Ytfnhjaiioojbkaa.Q
open Go.RowKit Go.Proofs.YtfnhjaiioojbkaaW.PrintWords Go.Proofs.YtfnhjaiioojbkaaW.PrintLast Go.Proofs.YtfnhjaiioojbkaaW.PrintMore
attribute [local go_sem] max2_int min2_int max_two min_two max_three min_three max_four min_four   -- for this text's walks alone
set_option linter.unusedVariables false
set_option linter.unusedSimpArgs false
def laws_eqPackedS.l0 : Nat → List (S53) → List (S53) → Int → Option (Bool)
 | 0, _, _, _ => none
 | k + 1, x0, x1, x5 => if x5 < (x0.length : Int) then (if 0 ≤ x5 then (if x5 < (x1.length : Int) then ((laws_eqPacked.f k ((rd_T53 x0 x5).f0) ((rd_T53 x0 x5).f1) ((rd_T53 x1 x5).f0) ((rd_T53 x1 x5).f1)).bind fun t1029 => (if t1029 = true then (laws_eqPackedS.l0 k x0 x1 (wrap64 (x5 + 1))) else (some false))) else (none)) else (none)) else (some true)
def laws_eqPackedS.f (k : Nat) (l0 : List (S53)) (l1 : List (S53)) : Option (Bool) := if (l0.length : Int) = (l1.length : Int) then (laws_eqPackedS.l0 k l0 l1 0) else (some false)
def laws_eqPackedS.T6 : Bool × List (List Nat × List Nat) := (true, [([], []), ([], []), ([0, 1], [0, 1]), ([2], [2]), ([], []), ([], []), ([4, 5], [4, 5]), ([6], [6]), ([3, 7], [3, 7]), ([8], [8])])
def laws_eqPackedS.B6 : List Nat := [0, 0, 3, 7, 0, 0, 48, 112, 255, 511]
theorem laws_eqPackedS.tab6 : rtab .any (opsOf Try.f55 6) = laws_eqPackedS.T6 := by kernel_rfl
theorem laws_eqPackedS.bits6 : waitsOk laws_eqPackedS.T6.2 laws_eqPackedS.B6 = true := by kernel_rfl
set_option maxHeartbeats 8000000 in
set_option maxRecDepth 100000 in
theorem laws_eqPackedS.calls (k : Nat) (A0 : Option Addr) (c0 : Nat) (l0 : List (S53)) (A1 : Option Addr) (c1 : Nat) (l1 : List (S53)) (r : Bool) (w : World) (hr0 : Kd.C k53 w A0 l0.length l0) (hc0 : l0.length ≤ c0) (hr1 : Kd.C k53 w A1 l1.length l1) (hc1 : l1.length ≤ c1) (h : laws_eqPackedS.f k l0 l1 = some r) :
 Calls Try.prog 55 #[.slice A0 l0.length c0, .slice A1 l1.length c1] w fun e w' => e = .returned (.bool r) ∧ Below w.heap.size w w' := by
 have hu53 := Try.underlying53; have HR0 := Aside0.mk hr0; have HC0 := Aside0.mk hc0; clear hr0 hc0; have HR1 := Aside0.mk hr1; have HC1 := Aside0.mk hc1; clear hr1 hc1; have HB := Aside0.mk (Below.refl w.heap.size w); have H : (if (l0.length : Int) = (l1.length : Int) then (laws_eqPackedS.l0 k l0 l1 0) else (some false)) = some r := h; clear h; by_cases c3 : (l0.length : Int) = (l1.length : Int)
 ·rw [if_pos c3] at H; have c3b0 : ((l0.length : Int) == (l1.length : Int)) = true := beq_iff_eq.mpr c3; have c3b1 : ((l0.length : Int) != (l1.length : Int)) = false := bne_eq_false_iff_eq.mpr c3; (have c3b2 : (l0.length == l1.length) = true := by first | simpa using c3 | (simp at c3 ⊢; omega)); clear c3; have H' := Aside0.mk H; clear H; go_enter Try.func55, Try.ntmps55; go_wp2; go_loopg [5] k (fun kq v5 w' => ∃ (x5_1 : Int), v5 = .int .i64 x5_1 ∧ Aside0 (laws_eqPackedS.l0 kq l0 l1 x5_1 = some r) ∧ Aside0 (kq ≤ k) ∧ Aside0 (Below w.heap.size w w'))
  case atStart => exact ⟨(0), (by first | rfl | (simp; done) | (simp [*]; done)), H', ⟨Nat.le_refl _⟩, ⟨by repeat (first | (with_reducible first | exact HB.out | apply below_alloc | apply pw_below_drewN | apply below_drew1) | exact HB.out)⟩⟩
  case round =>
   clear H'; (try clear c1); (try clear p2); (try clear c3); (try clear c3b0); (try clear c3b1); (try clear c3b2); obtain ⟨x5_1, rfl, HA, HK1, HB⟩ := hrel
   cases gk with
   | zero => exact absurd HA.out (by simp [laws_eqPackedS.l0])
   | succ k1 =>
    have H := HA.out; clear HA; simp only [laws_eqPackedS.l0] at H; by_cases c4 : x5_1 < (l0.length : Int)
    ·rw [if_pos c4] at H; have c4b0 : decide (x5_1 < (l0.length : Int)) = true := decide_eq_true c4; clear c4; by_cases c5 : 0 ≤ x5_1
     ·rw [if_pos c5] at H; have c5b0 : decide (0 ≤ x5_1) = true := decide_eq_true c5; clear c5; by_cases c6 : x5_1 < (l1.length : Int)
      ·rw [if_pos c6] at H; have c6b0 : decide (x5_1 < (l1.length : Int)) = true := decide_eq_true c6; clear c6; replace H := Option.bind_eq_some_iff.mp H; obtain ⟨t1029, A70, H⟩ := H; replace H : (if t1029 = true then (laws_eqPackedS.l0 k1 l0 l1 (wrap64 (x5_1 + 1))) else (some false)) = some r := H; have A7 := Aside0.mk A70; clear A70; by_cases c8 : t1029 = true
       ·subst c8; (have H1 : (laws_eqPackedS.l0 k1 l0 l1 (wrap64 (x5_1 + 1))) = some r := by rw [if_pos rfl] at H; exact H); clear H; have H := H1; clear H1; have H' := Aside0.mk H; clear H; (try go_wp2); have n0_ := Aside0.mk (below_drew1 HB.out); clear HB; have HB := n0_; clear n0_; have p1027 : 0 ≤ (x5_1 : Int) := of_decide_eq_true (by assumption); have q1027 : x5_1 < (l0.length : Int) := of_decide_eq_true (by assumption); obtain ⟨ad1027, A1027_1, c1027_1, e1027, hx1027_0, hx1027_1, hl1027_1, hi1027_1⟩ := at_T53 HR0.out x5_1 p1027 q1027; have hw1027_1 := hx1027_1; have hw1027_0 := hx1027_0; cases e1027; replace hx1027_0 := (HB.out.cell (World.block_lt_of_cell? w _ hx1027_0)).trans hx1027_0; replace hx1027_1 := (HB.out.cell (World.block_lt_of_cell? w _ hx1027_1)).trans hx1027_1; have HR1027_1 := Aside0.mk hi1027_1; have HC1027_1 := Aside0.mk hl1027_1; clear hi1027_1 hl1027_1; replace p1027 := eq_true p1027; replace q1027 := eq_true q1027; have p1028 : 0 ≤ (x5_1 : Int) := of_decide_eq_true (by assumption); have q1028 : x5_1 < (l1.length : Int) := of_decide_eq_true (by assumption); obtain ⟨ad1028, A1028_1, c1028_1, e1028, hx1028_0, hx1028_1, hl1028_1, hi1028_1⟩ := at_T53 HR1.out x5_1 p1028 q1028; have hw1028_1 := hx1028_1; have hw1028_0 := hx1028_0; cases e1028; replace hx1028_0 := (HB.out.cell (World.block_lt_of_cell? w _ hx1028_0)).trans hx1028_0; replace hx1028_1 := (HB.out.cell (World.block_lt_of_cell? w _ hx1028_1)).trans hx1028_1; have HR1028_1 := Aside0.mk hi1028_1; have HC1028_1 := Aside0.mk hl1028_1; clear hi1028_1 hl1028_1; replace p1028 := eq_true p1028; replace q1028 := eq_true q1028; refine start_ (n := 10) (S := fun w' => w'.cell? (ad1027.add ((x5_1).toNat * 2)) = some (.int .i64 ((rd_T53 l0 x5_1).f0)) ∧ w'.cell? ⟨(ad1027.add ((x5_1).toNat * 2)).block, (ad1027.add ((x5_1).toNat * 2)).off + 1, none⟩ = some (.slice A1027_1 ((rd_T53 l0 x5_1).f1).length c1027_1) ∧ w'.cell? (ad1028.add ((x5_1).toNat * 2)) = some (.int .i64 ((rd_T53 l1 x5_1).f0)) ∧ w'.cell? ⟨(ad1028.add ((x5_1).toNat * 2)).block, (ad1028.add ((x5_1).toNat * 2)).off + 1, none⟩ = some (.slice A1028_1 ((rd_T53 l1 x5_1).f1).length c1028_1)) (ds := []) #[f_, f_, f_, f_, f_, f_, f_, f_, f_, f_] (by kernel_rfl) rfl rfl ⟨((HB.out.cell (World.block_lt_of_cell? w _ hw1027_0)).trans hw1027_0), ((HB.out.cell (World.block_lt_of_cell? w _ hw1027_1)).trans hw1027_1), ((HB.out.cell (World.block_lt_of_cell? w _ hw1028_0)).trans hw1028_0), ((HB.out.cell (World.block_lt_of_cell? w _ hw1028_1)).trans hw1028_1)⟩ (fun hHeld => ?_); refine with_tabW laws_eqPackedS.tab6 laws_eqPackedS.bits6 (fun HT_ HW_ => ?_); generalize wr.drew = w9 at HB HR1027_1 HR1028_1 hx1027_0 hx1027_1 hx1028_0 hx1028_1 hHeld ⊢; refine pure_ (i := 0) (N := some 17) (v := ?_) (a' := ?_) #[t_, f_, f_, f_, f_, f_, f_, f_, f_, f_] rfl rfl (any_of HT_.out (by kernel_rfl)) (fun _ _ _ h => h) (Or.inl ⟨by rfl, ?_⟩) ?_ ?_
        rotate_left
        ·intro w'; go_simp
         with_reducible rfl
        rotate_left
        ·simp only [Act.put, List.setIfInBounds_toArray, List.set_cons_zero, List.set_cons_succ, i64_w, i32_w]
         rfl
        refine pure_ (i := 1) (N := some 18) (v := ?_) (a' := ?_) #[t_, t_, f_, f_, f_, f_, f_, f_, f_, f_] rfl rfl (any_of HT_.out (by kernel_rfl)) (fun _ _ _ h => h) (Or.inl ⟨by rfl, ?_⟩) ?_ ?_
        rotate_left
        ·intro w'; go_simp
         with_reducible rfl
        rotate_left
        ·simp only [Act.put, List.setIfInBounds_toArray, List.set_cons_zero, List.set_cons_succ, i64_w, i32_w]
         rfl
        refine pure_ (i := 2) (N := some 19) (v := ?_) (a' := ?_) #[t_, t_, t_, f_, f_, f_, f_, f_, f_, f_] rfl rfl (any_of HT_.out (by kernel_rfl)) (fun _ _ _ h => h) (Or.inl ⟨by rfl, ?_⟩) ?_ ?_
        rotate_left
        ·intro w'; go_simp
         with_reducible rfl
        rotate_left
        ·simp only [Act.put, List.setIfInBounds_toArray, List.set_cons_zero, List.set_cons_succ, i64_w, i32_w]
         rfl
        refine pure_ (i := 4) (N := some 21) (v := ?_) (a' := ?_) #[t_, t_, t_, f_, t_, f_, f_, f_, f_, f_] rfl rfl (any_of HT_.out (by kernel_rfl)) (fun _ _ _ h => h) (Or.inl ⟨by rfl, ?_⟩) ?_ ?_
        rotate_left
        ·intro w'; go_simp
         with_reducible rfl
        rotate_left
        ·simp only [Act.put, List.setIfInBounds_toArray, List.set_cons_zero, List.set_cons_succ, i64_w, i32_w]
         rfl
        refine pure_ (i := 5) (N := some 22) (v := ?_) (a' := ?_) #[t_, t_, t_, f_, t_, t_, f_, f_, f_, f_] rfl rfl (any_of HT_.out (by kernel_rfl)) (fun _ _ _ h => h) (Or.inl ⟨by rfl, ?_⟩) ?_ ?_
        rotate_left
        ·intro w'; go_simp
         with_reducible rfl
        rotate_left
        ·simp only [Act.put, List.setIfInBounds_toArray, List.set_cons_zero, List.set_cons_succ, i64_w, i32_w]
         rfl
        refine pure_ (i := 6) (N := some 23) (v := ?_) (a' := ?_) #[t_, t_, t_, f_, t_, t_, t_, f_, f_, f_] rfl rfl (any_of HT_.out (by kernel_rfl)) (fun _ _ _ h => h) (Or.inl ⟨by rfl, ?_⟩) ?_ ?_
        rotate_left
        ·intro w'; go_simp
         with_reducible rfl
        rotate_left
        ·simp only [Act.put, List.setIfInBounds_toArray, List.set_cons_zero, List.set_cons_succ, i64_w, i32_w]
         rfl
        refine take_ (i := 3) (N := some 20) (v := ?_) (a' := ?_) #[t_, t_, t_, t_, t_, t_, t_, f_, f_, f_] rfl rfl (take_ofW HT_.out HW_.out (by kernel_rfl)) (fun _ _ _ h => h) (Or.inl ⟨by rfl, ?_⟩) hHeld ?_ ?_
        rotate_left
        ·rintro w' ⟨s0, s1, s2, s3⟩; go_simp
         with_reducible rfl
        rotate_left
        ·simp only [Act.put, List.setIfInBounds_toArray, List.set_cons_zero, List.set_cons_succ, i64_w, i32_w]
         rfl
        refine take_ (i := 7) (N := some 24) (v := ?_) (a' := ?_) #[t_, t_, t_, t_, t_, t_, t_, t_, f_, f_] rfl rfl (take_ofW HT_.out HW_.out (by kernel_rfl)) (fun _ _ _ h => h) (Or.inl ⟨by rfl, ?_⟩) hHeld ?_ ?_
        rotate_left
        ·rintro w' ⟨s0, s1, s2, s3⟩; go_simp
         with_reducible rfl
        rotate_left
        ·simp only [Act.put, List.setIfInBounds_toArray, List.set_cons_zero, List.set_cons_succ, i64_w, i32_w]
         rfl
        refine one_ (i := 8) (N := some 25) #[t_, t_, t_, t_, t_, t_, t_, t_, t_, f_] rfl rfl (one_of HT_.out (by kernel_rfl)) (by decide) (fun K hK => ?_); refine goes_ Try.func99 (by kernel_rfl) rfl #[.agg #[.int .i64 ((rd_T53 l0 x5_1).f0), .slice A1027_1 ((rd_T53 l0 x5_1).f1).length c1027_1], .agg #[.int .i64 ((rd_T53 l1 x5_1).f0), .slice A1028_1 ((rd_T53 l1 x5_1).f1).length c1028_1]] (by rfl) rfl rfl (by (try simp only [List.map_toArray, List.map_cons, List.map_nil]); first | done | rfl | (simp only [List.length_drop, List.length_take]; rfl)) ?_
        with_reducible refine (laws_eqPacked.calls k1 ((rd_T53 l0 x5_1).f0) _ _ ((rd_T53 l0 x5_1).f1) ((rd_T53 l1 x5_1).f0) _ _ ((rd_T53 l1 x5_1).f1) true _ ?side1 ?side2 ?side3 ?side4 A7.out).mono ?_
        (case side1 => repeat (first | exact (Kd.C_below HR1027_1.out HB.out) | (with_reducible refine Kd.C_alloc ?_ _) | (with_reducible refine Kd.C_drewN ?_ _) | (with_reducible refine Kd.C_drew ?_)))
        (case side2 => exact HC1027_1.out)
        (case side3 => repeat (first | exact (Kd.C_below HR1028_1.out HB.out) | (with_reducible refine Kd.C_alloc ?_ _) | (with_reducible refine Kd.C_drewN ?_ _) | (with_reducible refine Kd.C_drew ?_)))
        (case side4 => exact HC1028_1.out)
        rintro e w10 ⟨rfl, hb⟩; refine ⟨_, rfl, ?_⟩; have n0_ := Aside0.mk (below_step (by repeat (first | (with_reducible first | exact HB.out | apply below_alloc | apply pw_below_drewN | apply below_drew1) | exact HB.out)) hb); clear HB; have HB := n0_; clear n0_
        (try clear hb)
        (try clear hb2)
        (try clear hk)
        (try clear hi)
        refine hK.out _ _ ⟨((HB.out.cell (World.block_lt_of_cell? w _ hw1027_0)).trans hw1027_0), ((HB.out.cell (World.block_lt_of_cell? w _ hw1027_1)).trans hw1027_1), ((HB.out.cell (World.block_lt_of_cell? w _ hw1028_0)).trans hw1028_0), ((HB.out.cell (World.block_lt_of_cell? w _ hw1028_1)).trans hw1028_1)⟩ (fun hHeld => ?_); clear hK K; refine norm_ (a' := ?_) ?_ ?_
        rotate_left
        ·show Act.put _ (some 25) _ = _
         simp only [Act.put, List.setIfInBounds_toArray, List.set_cons_zero, List.set_cons_succ, i64_w, i32_w]
         rfl
        refine pure_ (i := 9) (N := some 26) (v := ?_) (a' := ?_) #[t_, t_, t_, t_, t_, t_, t_, t_, t_, t_] rfl rfl (any_of HT_.out (by kernel_rfl)) (fun _ _ _ h => h) (Or.inl ⟨by rfl, ?_⟩) ?_ ?_
        rotate_left
        ·intro w'; go_simp
         with_reducible rfl
        rotate_left
        ·simp only [Act.put, List.setIfInBounds_toArray, List.set_cons_zero, List.set_cons_succ, i64_w, i32_w]
         rfl
        refine done_ (done_of HT_.out (by kernel_rfl)) ?_; (try go_wp2); go_roundg k1
        case measure => have := HK1.out; omega
        case rel => exact ⟨(wrap64 (x5_1 + 1)), (by first | rfl | (simp; done) | (simp [*]; done)), H', ⟨by have := HK1.out; omega⟩, ⟨by repeat (first | (with_reducible first | exact HB.out | apply below_alloc | apply pw_below_drewN | apply below_drew1) | exact HB.out)⟩⟩
       ·replace c8 := Bool.eq_false_iff.mpr c8; subst c8; (have H1 : (some false) = some r := by rw [if_neg (show ¬ (false = true) by decide)] at H; exact H); clear H; have H := H1; clear H1; obtain rfl := Option.some.inj H; (try go_wp2); have n0_ := Aside0.mk (below_drew1 HB.out); clear HB; have HB := n0_; clear n0_; have p1027 : 0 ≤ (x5_1 : Int) := of_decide_eq_true (by assumption); have q1027 : x5_1 < (l0.length : Int) := of_decide_eq_true (by assumption); obtain ⟨ad1027, A1027_1, c1027_1, e1027, hx1027_0, hx1027_1, hl1027_1, hi1027_1⟩ := at_T53 HR0.out x5_1 p1027 q1027; have hw1027_1 := hx1027_1; have hw1027_0 := hx1027_0; cases e1027; replace hx1027_0 := (HB.out.cell (World.block_lt_of_cell? w _ hx1027_0)).trans hx1027_0; replace hx1027_1 := (HB.out.cell (World.block_lt_of_cell? w _ hx1027_1)).trans hx1027_1; have HR1027_1 := Aside0.mk hi1027_1; have HC1027_1 := Aside0.mk hl1027_1; clear hi1027_1 hl1027_1; replace p1027 := eq_true p1027; replace q1027 := eq_true q1027; have p1028 : 0 ≤ (x5_1 : Int) := of_decide_eq_true (by assumption); have q1028 : x5_1 < (l1.length : Int) := of_decide_eq_true (by assumption); obtain ⟨ad1028, A1028_1, c1028_1, e1028, hx1028_0, hx1028_1, hl1028_1, hi1028_1⟩ := at_T53 HR1.out x5_1 p1028 q1028; have hw1028_1 := hx1028_1; have hw1028_0 := hx1028_0; cases e1028; replace hx1028_0 := (HB.out.cell (World.block_lt_of_cell? w _ hx1028_0)).trans hx1028_0; replace hx1028_1 := (HB.out.cell (World.block_lt_of_cell? w _ hx1028_1)).trans hx1028_1; have HR1028_1 := Aside0.mk hi1028_1; have HC1028_1 := Aside0.mk hl1028_1; clear hi1028_1 hl1028_1; replace p1028 := eq_true p1028; replace q1028 := eq_true q1028; refine start_ (n := 10) (S := fun w' => w'.cell? (ad1027.add ((x5_1).toNat * 2)) = some (.int .i64 ((rd_T53 l0 x5_1).f0)) ∧ w'.cell? ⟨(ad1027.add ((x5_1).toNat * 2)).block, (ad1027.add ((x5_1).toNat * 2)).off + 1, none⟩ = some (.slice A1027_1 ((rd_T53 l0 x5_1).f1).length c1027_1) ∧ w'.cell? (ad1028.add ((x5_1).toNat * 2)) = some (.int .i64 ((rd_T53 l1 x5_1).f0)) ∧ w'.cell? ⟨(ad1028.add ((x5_1).toNat * 2)).block, (ad1028.add ((x5_1).toNat * 2)).off + 1, none⟩ = some (.slice A1028_1 ((rd_T53 l1 x5_1).f1).length c1028_1)) (ds := []) #[f_, f_, f_, f_, f_, f_, f_, f_, f_, f_] (by kernel_rfl) rfl rfl ⟨((HB.out.cell (World.block_lt_of_cell? w _ hw1027_0)).trans hw1027_0), ((HB.out.cell (World.block_lt_of_cell? w _ hw1027_1)).trans hw1027_1), ((HB.out.cell (World.block_lt_of_cell? w _ hw1028_0)).trans hw1028_0), ((HB.out.cell (World.block_lt_of_cell? w _ hw1028_1)).trans hw1028_1)⟩ (fun hHeld => ?_); refine with_tabW laws_eqPackedS.tab6 laws_eqPackedS.bits6 (fun HT_ HW_ => ?_); generalize wr.drew = w11 at HB HR1027_1 HR1028_1 hx1027_0 hx1027_1 hx1028_0 hx1028_1 hHeld ⊢; refine pure_ (i := 0) (N := some 17) (v := ?_) (a' := ?_) #[t_, f_, f_, f_, f_, f_, f_, f_, f_, f_] rfl rfl (any_of HT_.out (by kernel_rfl)) (fun _ _ _ h => h) (Or.inl ⟨by rfl, ?_⟩) ?_ ?_
        rotate_left
        ·intro w'; go_simp
         with_reducible rfl
        rotate_left
        ·simp only [Act.put, List.setIfInBounds_toArray, List.set_cons_zero, List.set_cons_succ, i64_w, i32_w]
         rfl
        refine pure_ (i := 1) (N := some 18) (v := ?_) (a' := ?_) #[t_, t_, f_, f_, f_, f_, f_, f_, f_, f_] rfl rfl (any_of HT_.out (by kernel_rfl)) (fun _ _ _ h => h) (Or.inl ⟨by rfl, ?_⟩) ?_ ?_
        rotate_left
        ·intro w'; go_simp
         with_reducible rfl
        rotate_left
        ·simp only [Act.put, List.setIfInBounds_toArray, List.set_cons_zero, List.set_cons_succ, i64_w, i32_w]
         rfl
        refine pure_ (i := 2) (N := some 19) (v := ?_) (a' := ?_) #[t_, t_, t_, f_, f_, f_, f_, f_, f_, f_] rfl rfl (any_of HT_.out (by kernel_rfl)) (fun _ _ _ h => h) (Or.inl ⟨by rfl, ?_⟩) ?_ ?_
        rotate_left
        ·intro w'; go_simp
         with_reducible rfl
        rotate_left
        ·simp only [Act.put, List.setIfInBounds_toArray, List.set_cons_zero, List.set_cons_succ, i64_w, i32_w]
         rfl
        refine pure_ (i := 4) (N := some 21) (v := ?_) (a' := ?_) #[t_, t_, t_, f_, t_, f_, f_, f_, f_, f_] rfl rfl (any_of HT_.out (by kernel_rfl)) (fun _ _ _ h => h) (Or.inl ⟨by rfl, ?_⟩) ?_ ?_
        rotate_left
        ·intro w'; go_simp
         with_reducible rfl
        rotate_left
        ·simp only [Act.put, List.setIfInBounds_toArray, List.set_cons_zero, List.set_cons_succ, i64_w, i32_w]
         rfl
        refine pure_ (i := 5) (N := some 22) (v := ?_) (a' := ?_) #[t_, t_, t_, f_, t_, t_, f_, f_, f_, f_] rfl rfl (any_of HT_.out (by kernel_rfl)) (fun _ _ _ h => h) (Or.inl ⟨by rfl, ?_⟩) ?_ ?_
        rotate_left
        ·intro w'; go_simp
         with_reducible rfl
        rotate_left
        ·simp only [Act.put, List.setIfInBounds_toArray, List.set_cons_zero, List.set_cons_succ, i64_w, i32_w]
         rfl
        refine pure_ (i := 6) (N := some 23) (v := ?_) (a' := ?_) #[t_, t_, t_, f_, t_, t_, t_, f_, f_, f_] rfl rfl (any_of HT_.out (by kernel_rfl)) (fun _ _ _ h => h) (Or.inl ⟨by rfl, ?_⟩) ?_ ?_
        rotate_left
        ·intro w'; go_simp
         with_reducible rfl
        rotate_left
        ·simp only [Act.put, List.setIfInBounds_toArray, List.set_cons_zero, List.set_cons_succ, i64_w, i32_w]
         rfl
        refine take_ (i := 3) (N := some 20) (v := ?_) (a' := ?_) #[t_, t_, t_, t_, t_, t_, t_, f_, f_, f_] rfl rfl (take_ofW HT_.out HW_.out (by kernel_rfl)) (fun _ _ _ h => h) (Or.inl ⟨by rfl, ?_⟩) hHeld ?_ ?_
        rotate_left
        ·rintro w' ⟨s0, s1, s2, s3⟩; go_simp
         with_reducible rfl
        rotate_left
        ·simp only [Act.put, List.setIfInBounds_toArray, List.set_cons_zero, List.set_cons_succ, i64_w, i32_w]
         rfl
        refine take_ (i := 7) (N := some 24) (v := ?_) (a' := ?_) #[t_, t_, t_, t_, t_, t_, t_, t_, f_, f_] rfl rfl (take_ofW HT_.out HW_.out (by kernel_rfl)) (fun _ _ _ h => h) (Or.inl ⟨by rfl, ?_⟩) hHeld ?_ ?_
        rotate_left
        ·rintro w' ⟨s0, s1, s2, s3⟩; go_simp
         with_reducible rfl
        rotate_left
        ·simp only [Act.put, List.setIfInBounds_toArray, List.set_cons_zero, List.set_cons_succ, i64_w, i32_w]
         rfl
        refine one_ (i := 8) (N := some 25) #[t_, t_, t_, t_, t_, t_, t_, t_, t_, f_] rfl rfl (one_of HT_.out (by kernel_rfl)) (by decide) (fun K hK => ?_); refine goes_ Try.func99 (by kernel_rfl) rfl #[.agg #[.int .i64 ((rd_T53 l0 x5_1).f0), .slice A1027_1 ((rd_T53 l0 x5_1).f1).length c1027_1], .agg #[.int .i64 ((rd_T53 l1 x5_1).f0), .slice A1028_1 ((rd_T53 l1 x5_1).f1).length c1028_1]] (by rfl) rfl rfl (by (try simp only [List.map_toArray, List.map_cons, List.map_nil]); first | done | rfl | (simp only [List.length_drop, List.length_take]; rfl)) ?_
        with_reducible refine (laws_eqPacked.calls k1 ((rd_T53 l0 x5_1).f0) _ _ ((rd_T53 l0 x5_1).f1) ((rd_T53 l1 x5_1).f0) _ _ ((rd_T53 l1 x5_1).f1) false _ ?side1 ?side2 ?side3 ?side4 A7.out).mono ?_
        (case side1 => repeat (first | exact (Kd.C_below HR1027_1.out HB.out) | (with_reducible refine Kd.C_alloc ?_ _) | (with_reducible refine Kd.C_drewN ?_ _) | (with_reducible refine Kd.C_drew ?_)))
        (case side2 => exact HC1027_1.out)
        (case side3 => repeat (first | exact (Kd.C_below HR1028_1.out HB.out) | (with_reducible refine Kd.C_alloc ?_ _) | (with_reducible refine Kd.C_drewN ?_ _) | (with_reducible refine Kd.C_drew ?_)))
        (case side4 => exact HC1028_1.out)
        rintro e w12 ⟨rfl, hb⟩; refine ⟨_, rfl, ?_⟩; have n0_ := Aside0.mk (below_step (by repeat (first | (with_reducible first | exact HB.out | apply below_alloc | apply pw_below_drewN | apply below_drew1) | exact HB.out)) hb); clear HB; have HB := n0_; clear n0_
        (try clear hb)
        (try clear hb2)
        (try clear hk)
        (try clear hi)
        refine hK.out _ _ ⟨((HB.out.cell (World.block_lt_of_cell? w _ hw1027_0)).trans hw1027_0), ((HB.out.cell (World.block_lt_of_cell? w _ hw1027_1)).trans hw1027_1), ((HB.out.cell (World.block_lt_of_cell? w _ hw1028_0)).trans hw1028_0), ((HB.out.cell (World.block_lt_of_cell? w _ hw1028_1)).trans hw1028_1)⟩ (fun hHeld => ?_); clear hK K; refine norm_ (a' := ?_) ?_ ?_
        rotate_left
        ·show Act.put _ (some 25) _ = _
         simp only [Act.put, List.setIfInBounds_toArray, List.set_cons_zero, List.set_cons_succ, i64_w, i32_w]
         rfl
        refine pure_ (i := 9) (N := some 26) (v := ?_) (a' := ?_) #[t_, t_, t_, t_, t_, t_, t_, t_, t_, t_] rfl rfl (any_of HT_.out (by kernel_rfl)) (fun _ _ _ h => h) (Or.inl ⟨by rfl, ?_⟩) ?_ ?_
        rotate_left
        ·intro w'; go_simp
         with_reducible rfl
        rotate_left
        ·simp only [Act.put, List.setIfInBounds_toArray, List.set_cons_zero, List.set_cons_succ, i64_w, i32_w]
         rfl
        refine done_ (done_of HT_.out (by kernel_rfl)) ?_; (try go_wp2); go_ret; exact ⟨by first | rfl | (simp <;> rfl) | (simp [*] <;> rfl), by repeat (first | (with_reducible first | exact HB.out | apply below_alloc | apply pw_below_drewN | apply below_drew1) | exact HB.out)⟩
      ·rw [if_neg c6] at H; exact absurd H (by simp)
     ·rw [if_neg c5] at H; exact absurd H (by simp)
    ·rw [if_neg c4] at H; have c4b0 : decide (x5_1 < (l0.length : Int)) = false := decide_eq_false c4; clear c4; obtain rfl := Option.some.inj H; go_wp2; go_ret; exact ⟨by first | rfl | (simp <;> rfl) | (simp [*] <;> rfl), by repeat (first | (with_reducible first | exact HB.out | apply below_alloc | apply pw_below_drewN | apply below_drew1) | exact HB.out)⟩
 ·rw [if_neg c3] at H; have c3b0 : ((l0.length : Int) == (l1.length : Int)) = false := beq_eq_false_iff_ne.mpr c3; have c3b1 : ((l0.length : Int) != (l1.length : Int)) = true := bne_iff_ne.mpr c3; (have c3b2 : (l0.length == l1.length) = false := by first | simpa using c3 | (simp at c3 ⊢; omega)); obtain rfl := Option.some.inj H; go_enter Try.func55, Try.ntmps55; go_wp2; go_ret; exact ⟨by first | rfl | (simp <;> rfl) | (simp [*] <;> rfl), by repeat (first | (with_reducible first | exact HB.out | apply below_alloc | apply pw_below_drewN | apply below_drew1) | exact HB.out)⟩
end Go.Proofs.Ytfnhjaiioojbkaa.Q
end
