/- FnDeltaOf: for every argument the law returns true, and its arguments read behind the call as they read before. No conditions. -/
import Derived.SizedLaws
import Derived.ChangeSlices
import Derived.Test.YtfnhjaiioojbkaaRows
import Derived.WalkKit
import Derived.ProofKit
import Derived.OpenShut
import Derived.ShutString
import Derived.ChangeOld
import Derived.Below
import Derived.Test.YtfnhjaiioojbkaaMDeltaOf0
import Derived.Test.YtfnhjaiioojbkaaMDeltaOf2
import Derived.Test.YtfnhjaiioojbkaaMDeltaOf3
import Derived.Test.YtfnhjaiioojbkaaMDeltaOf4
import Derived.Test.YtfnhjaiioojbkaaMDeltaOf5
import Derived.Test.YtfnhjaiioojbkaaMDeltaOf6
set_option linter.unusedVariables false
set_option linter.unusedSimpArgs false
section
namespace Go.Proofs.Ytfnhjaiioojbkaa.Q
open Go.RowKit Go.Proofs.YtfnhjaiioojbkaaW.PrintWords Go.Proofs.YtfnhjaiioojbkaaW.PrintLast Go.Proofs.YtfnhjaiioojbkaaW.PrintMore
attribute [local go_sem] max2_int min2_int max_two min_two max_three min_three max_four min_four   -- for this text's walks alone
set_option linter.unusedVariables false
set_option linter.unusedSimpArgs false
def spec_l13Do.l0 : Nat → List ByteArray → List (S39) → List ByteArray → Int → Option (List ByteArray × Bool)
 | 0, _, _, _, _ => none
 | k + 1, x0, x1, x6, x7 => if x7 < (x1.length : Int) then (if 0 ≤ x7 then (if (wrap64 (((rd_T39 x1 x7).f0) + ((rd_T39 x1 x7).f1))) > (x0.length : Int) then (some (([] : List ByteArray), false)) else (if 0 ≤ ((rd_T39 x1 x7).f0) then (if ((rd_T39 x1 x7).f0) ≤ (wrap64 (((rd_T39 x1 x7).f0) + ((rd_T39 x1 x7).f1))) then (if (wrap64 (((rd_T39 x1 x7).f0) + ((rd_T39 x1 x7).f1))) ≤ (x0.length : Int) then (if x6.length + ((x0.take ((wrap64 (((rd_T39 x1 x7).f0) + ((rd_T39 x1 x7).f1))) : Int).toNat).drop (((rd_T39 x1 x7).f0) : Int).toNat).length < 8796093022208 then ((some (x6 ++ ((x0.take ((wrap64 (((rd_T39 x1 x7).f0) + ((rd_T39 x1 x7).f1))) : Int).toNat).drop (((rd_T39 x1 x7).f0) : Int).toNat) : List ByteArray)).bind fun y614 => (if y614.length + ((rd_T39 x1 x7).f2).length < 8796093022208 then (spec_l13Do.l0 k x0 x1 (y614 ++ ((rd_T39 x1 x7).f2)) (wrap64 (x7 + 1))) else (none))) else (none)) else (none)) else (none)) else (none))) else (none)) else ((spec_l1Ok.f k x6).bind fun t621 => (if t621 = true then (some (x6, true)) else (some (([] : List ByteArray), false))))
def spec_l13Do.f (k : Nat) (l0 : List ByteArray) (l1 : List (S39)) : Option (List ByteArray × Bool) := spec_l13Do.l0 k l0 l1 (([] : List ByteArray)) 0
theorem spec_l13Do.mono_l : ∀ k, (∀ y0 y1 y2 y3, LeO (spec_l13Do.l0 k y0 y1 y2 y3) (spec_l13Do.l0 (k + 1) y0 y1 y2 y3))
 | 0 => fun _ _ _ _ r h => by simp [spec_l13Do.l0] at h
 | k + 1 => by
  have ih0 := spec_l13Do.mono_l k
  · intro y0 y1 y2 y3
    unfold spec_l13Do.l0
    repeat' first
    | (with_reducible exact ih0 _ _ _ _)
    | (with_reducible exact spec_l1Ok.mono _ _)
    | (with_reducible exact LeO.refl _)
    | (with_reducible exact LeO.none _)
    | (with_reducible refine LeO.ite ?_ ?_)
    | (with_reducible refine LeO.bind ?_ (fun _ => ?_))
    | exact ih0 _ _ _ _
    | exact spec_l1Ok.mono _ _
    | exact LeO.none _
    | refine LeO.ite ?_ ?_
    | refine LeO.bind ?_ (fun _ => ?_)
theorem spec_l13Do.mono : ∀ a0 a1 k, LeO (spec_l13Do.f k a0 a1) (spec_l13Do.f (k + 1) a0 a1) := by
 intro a0 a1 k
 have ih0 := spec_l13Do.mono_l k
 unfold spec_l13Do.f
 repeat' first
  | (with_reducible exact ih0 _ _ _ _)
  | (with_reducible exact spec_l1Ok.mono _ _)
  | (with_reducible exact LeO.refl _)
  | (with_reducible exact LeO.none _)
  | (with_reducible refine LeO.ite ?_ ?_)
  | (with_reducible refine LeO.bind ?_ (fun _ => ?_))
  | exact ih0 _ _ _ _
  | exact spec_l1Ok.mono _ _
  | exact LeO.none _
  | refine LeO.ite ?_ ?_
  | refine LeO.bind ?_ (fun _ => ?_)
def spec_l13Do.T5 : Bool × List (List Nat × List Nat) := (true, [([], []), ([], []), ([0, 1], [0, 1]), ([2], [2]), ([3], [3]), ([], []), ([], []), ([5, 6], [5, 6]), ([7], [7]), ([8], [8]), ([4, 9], [4, 9]), ([], []), ([11], [11]), ([10, 12], [10, 12])])
def spec_l13Do.B5 : List Nat := [0, 0, 3, 7, 15, 0, 0, 96, 224, 480, 1023, 0, 2048, 8191]
theorem spec_l13Do.tab5 : rtab .any (opsOf Try.f83 5) = spec_l13Do.T5 := by kernel_rfl
theorem spec_l13Do.bits5 : waitsOk spec_l13Do.T5.2 spec_l13Do.B5 = true := by kernel_rfl
def spec_l13Do.T7 : Bool × List (List Nat × List Nat) := (true, [([], []), ([], []), ([], []), ([], []), ([2, 3], [2, 3]), ([4], [4]), ([5], [5]), ([], []), ([], []), ([7, 8], [7, 8]), ([9], [9]), ([10], [10]), ([], []), ([], []), ([12, 13], [12, 13]), ([14], [14]), ([15], [15]), ([11, 16], [11, 16]), ([1, 6, 17], [1, 6, 17]), ([0, 18], [0, 18]), ([19, 19, 0, 1, 2, 3, 4, 5, 6, 7, 8, 9, 10, 11, 12, 13, 14, 15, 16, 17, 18, 19], [0, 19])])
def spec_l13Do.B7 : List Nat := [0, 0, 0, 0, 12, 28, 60, 0, 0, 384, 896, 1920, 0, 0, 12288, 28672, 61440, 130944, 262142, 524287, 1048575]
theorem spec_l13Do.tab7 : rtab .any (opsOf Try.f83 7) = spec_l13Do.T7 := by kernel_rfl
theorem spec_l13Do.bits7 : waitsOk spec_l13Do.T7.2 spec_l13Do.B7 = true := by kernel_rfl
set_option maxHeartbeats 8000000 in
set_option maxRecDepth 100000 in
theorem spec_l13Do.calls (k : Nat) (A0 : Option Addr) (c0 : Nat) (l0 : List ByteArray) (A1 : Option Addr) (c1 : Nat) (l1 : List (S39)) (r1 : List ByteArray) (r2 : Bool) (w : World) (hr0 : Kd.C Kd.string w A0 l0.length l0) (hc0 : l0.length ≤ c0) (hr1 : Kd.C k39 w A1 l1.length l1) (hc1 : l1.length ≤ c1) (h : spec_l13Do.f k l0 l1 = some (r1, r2)) :
 Calls Try.prog 83 #[.slice A0 l0.length c0, .slice A1 l1.length c1] w fun e w' => ∃ v0_ : Value, e = .returned (.tuple #[v0_, .bool r2]) ∧ Kd.R Kd.string 9 w' w.heap.size (fun _ => True) v0_ r1 ∧ Below w.heap.size w w' := by
 have HR0 := Aside0.mk hr0
 have HC0 := Aside0.mk hc0
 clear hr0 hc0
 have HR1 := Aside0.mk hr1
 have HC1 := Aside0.mk hc1
 clear hr1 hc1
 have HB := Aside0.mk (Below.refl w.heap.size w)
 have H : (spec_l13Do.l0 k l0 l1 (([] : List ByteArray)) 0) = some (r1, r2) := h
 clear h
 obtain ⟨y605, hy605⟩ : ∃ y_ : List ByteArray, y_ = (([] : List ByteArray)) := ⟨_, rfl⟩
 replace H : (spec_l13Do.l0 k l0 l1 y605 0) = some (r1, r2) := by first | (rw [hy605]; with_reducible exact H) | (have H2_ := (Option.bind_some _ _).symm.trans H; rw [hy605]; with_reducible exact H2_) | (have H2_ := (Option.bind_some _ _).symm.trans H; with_reducible exact H2_) | with_reducible exact H | (rw [hy605]; exact H) | exact H
 have Ny605 := Aside0.mk hy605
 clear hy605
 have H' := Aside0.mk H
 clear H
 go_enter Try.func83, Try.ntmps83
 go_wp2_with (first | ((with_reducible refine gate_dst (N := 8) rfl ?_); refine Kd.R_lit Kd.string _ 9 ?hg (N := 8) ?hd (xs := ([] : List ByteArray)) (inner := []) (ok := fun _ => True) (okp := fun _ => True) ?hr ?hp (fun _ hk => hk) trivial (Below.refl _ _) (Nat.le_refl _) (by simp) ?_; (case hd => rfl); (case hg => rfl); (case hr => first | (go_simp; done) | (go_simp; rfl)); (case hp => exact (Reps.none _ _)); intro v606 w3 ho4 hb hg_ hnew_; clear hg_ hnew_; (first | rw [← Ny605.out] at ho4 | (simp only [Int.reduceToNat] at ho4; rw [← Ny605.out] at ho4)); have n0_ := Aside0.mk (Kd.R_lower ho4 (below_size (by repeat (first | (with_reducible first | exact HB.out | apply below_alloc | apply pw_below_drewN | apply below_drew1) | exact HB.out)))); have n1_ := Aside0.mk (below_step (by repeat (first | (with_reducible first | exact HB.out | apply below_alloc | apply pw_below_drewN | apply below_drew1) | exact HB.out)) hb); clear HB; have HO607 := n0_; have HB := n1_; clear n0_ n1_; clear hb ho4))
 go_loopg [6, 7] k (fun kq v6 v7 w' => ∃ (x6_1 : List ByteArray) (x7_1 : Int), v7 = .int .i64 x7_1 ∧ Aside0 (spec_l13Do.l0 kq l0 l1 x6_1 x7_1 = some (r1, r2)) ∧ Aside0 (kq ≤ k) ∧ Aside0 (Kd.R Kd.string 9 w' w.heap.size (fun _ => True) v6 x6_1) ∧ Aside0 (Below w.heap.size w w'))
 case atStart => exact ⟨(y605), (0), (by first | rfl | (simp; done) | (simp [*]; done)), H', ⟨Nat.le_refl _⟩, ⟨by (with_reducible repeat (first | apply Kd.R_alloc | apply Kd.R_drewN | apply Kd.R_drew)); exact HO607.out⟩, ⟨by repeat (first | (with_reducible first | exact HB.out | apply below_alloc | apply pw_below_drewN | apply below_drew1) | exact HB.out)⟩⟩
 case round =>
  clear H'
  try clear c1
  try clear p2
  obtain ⟨x6_1, x7_1, rfl, HA, HK1, HO_6, HB⟩ := hrel
  cases gk with
  | zero => exact absurd HA.out (by simp [spec_l13Do.l0])
  | succ k1 =>
   have H := HA.out
   clear HA
   simp only [spec_l13Do.l0] at H
   by_cases c5 : x7_1 < (l1.length : Int)
   · rw [if_pos c5] at H
     have c5b0 : decide (x7_1 < (l1.length : Int)) = true := decide_eq_true c5
     clear c5
     by_cases c6 : 0 ≤ x7_1
     · rw [if_pos c6] at H
       have c6b0 : decide (0 ≤ x7_1) = true := decide_eq_true c6
       clear c6
       by_cases c7 : (wrap64 (((rd_T39 l1 x7_1).f0) + ((rd_T39 l1 x7_1).f1))) > (l0.length : Int)
       · rw [if_pos c7] at H
         have c7b0 : decide ((l0.length : Int) < (wrap64 (((rd_T39 l1 x7_1).f0) + ((rd_T39 l1 x7_1).f1)))) = true := decide_eq_true c7
         clear c7
         simp only [Option.some.injEq, Prod.mk.injEq] at H
         obtain ⟨rfl, rfl⟩ := H
         try go_wp2
         have n0_ := Aside0.mk (Kd.R_drew HO_6.out)
         have n1_ := Aside0.mk (below_drew1 HB.out)
         clear HO_6
         clear HB
         have HO_6 := n0_
         have HB := n1_
         clear n0_ n1_
         have p608 : 0 ≤ (x7_1 : Int) := of_decide_eq_true (by assumption)
         have q608 : x7_1 < (l1.length : Int) := of_decide_eq_true (by assumption)
         obtain ⟨ad608, A608_2, c608_2, e608, hx608_0, hx608_1, hx608_2, hl608_2, hi608_2⟩ := at_T39 HR1.out x7_1 p608 q608
         have hw608_2 := hx608_2
         have hw608_1 := hx608_1
         have hw608_0 := hx608_0
         cases e608
         replace hx608_0 := (HB.out.cell (World.block_lt_of_cell? w _ hx608_0)).trans hx608_0
         replace hx608_1 := (HB.out.cell (World.block_lt_of_cell? w _ hx608_1)).trans hx608_1
         replace hx608_2 := (HB.out.cell (World.block_lt_of_cell? w _ hx608_2)).trans hx608_2
         have HR608_2 := Aside0.mk hi608_2
         have HC608_2 := Aside0.mk hl608_2
         clear hi608_2 hl608_2
         replace p608 := eq_true p608
         replace q608 := eq_true q608
         have p609 : 0 ≤ (x7_1 : Int) := of_decide_eq_true (by assumption)
         have q609 : x7_1 < (l1.length : Int) := of_decide_eq_true (by assumption)
         obtain ⟨ad609, A609_2, c609_2, e609, hx609_0, hx609_1, hx609_2, hl609_2, hi609_2⟩ := at_T39 HR1.out x7_1 p609 q609
         have hw609_2 := hx609_2
         have hw609_1 := hx609_1
         have hw609_0 := hx609_0
         obtain rfl : ad608 = ad609 := (by injection e609)
         replace hx609_0 := (HB.out.cell (World.block_lt_of_cell? w _ hx609_0)).trans hx609_0
         replace hx609_1 := (HB.out.cell (World.block_lt_of_cell? w _ hx609_1)).trans hx609_1
         replace hx609_2 := (HB.out.cell (World.block_lt_of_cell? w _ hx609_2)).trans hx609_2
         have HR609_2 := Aside0.mk hi609_2
         have HC609_2 := Aside0.mk hl609_2
         clear hi609_2 hl609_2
         replace p609 := eq_true p609
         replace q609 := eq_true q609
         have ea_ := Option.some.inj (hx608_2.symm.trans hx609_2)
         injection ea_ with ea_ en_ ec_
         subst ea_
         subst ec_
         clear en_
         refine start_ (n := 14) (S := fun w' => w'.cell? (ad608.add ((x7_1).toNat * 3)) = some (.int .i64 ((rd_T39 l1 x7_1).f0)) ∧ w'.cell? ⟨(ad608.add ((x7_1).toNat * 3)).block, (ad608.add ((x7_1).toNat * 3)).off + 1, none⟩ = some (.int .i64 ((rd_T39 l1 x7_1).f1)) ∧ w'.cell? ⟨(ad608.add ((x7_1).toNat * 3)).block, (ad608.add ((x7_1).toNat * 3)).off + 2, none⟩ = some (.slice A608_2 ((rd_T39 l1 x7_1).f2).length c608_2) ∧ w'.cell? (ad608.add ((x7_1).toNat * 3)) = some (.int .i64 ((rd_T39 l1 x7_1).f0)) ∧ w'.cell? ⟨(ad608.add ((x7_1).toNat * 3)).block, (ad608.add ((x7_1).toNat * 3)).off + 1, none⟩ = some (.int .i64 ((rd_T39 l1 x7_1).f1)) ∧ w'.cell? ⟨(ad608.add ((x7_1).toNat * 3)).block, (ad608.add ((x7_1).toNat * 3)).off + 2, none⟩ = some (.slice A608_2 ((rd_T39 l1 x7_1).f2).length c608_2)) (ds := []) #[f_, f_, f_, f_, f_, f_, f_, f_, f_, f_, f_, f_, f_, f_] (by kernel_rfl) rfl rfl ⟨((HB.out.cell (World.block_lt_of_cell? w _ hw608_0)).trans hw608_0), ((HB.out.cell (World.block_lt_of_cell? w _ hw608_1)).trans hw608_1), ((HB.out.cell (World.block_lt_of_cell? w _ hw608_2)).trans hw608_2), ((HB.out.cell (World.block_lt_of_cell? w _ hw609_0)).trans hw609_0), ((HB.out.cell (World.block_lt_of_cell? w _ hw609_1)).trans hw609_1), ((HB.out.cell (World.block_lt_of_cell? w _ hw609_2)).trans hw609_2)⟩ (fun hHeld => ?_); refine with_tabW spec_l13Do.tab5 spec_l13Do.bits5 (fun HT_ HW_ => ?_)
         generalize wr.drew = w8 at HO_6 HB HR608_2 HR609_2 hx608_0 hx608_1 hx608_2 hx609_0 hx609_1 hx609_2 hHeld ⊢
         refine pure_ (i := 0) (N := some 15) (v := ?_) (a' := ?_) #[t_, f_, f_, f_, f_, f_, f_, f_, f_, f_, f_, f_, f_, f_] rfl rfl (any_of HT_.out (by kernel_rfl)) (fun _ _ _ h => h) (Or.inl ⟨by rfl, ?_⟩) ?_ ?_
         rotate_left
         · intro w'
           go_simp
           with_reducible rfl
         rotate_left
         · simp only [Act.put, List.setIfInBounds_toArray, List.set_cons_zero, List.set_cons_succ, i64_w, i32_w]
           rfl
         refine pure_ (i := 1) (N := some 16) (v := ?_) (a' := ?_) #[t_, t_, f_, f_, f_, f_, f_, f_, f_, f_, f_, f_, f_, f_] rfl rfl (any_of HT_.out (by kernel_rfl)) (fun _ _ _ h => h) (Or.inl ⟨by rfl, ?_⟩) ?_ ?_
         rotate_left
         · intro w'
           go_simp
           with_reducible rfl
         rotate_left
         · simp only [Act.put, List.setIfInBounds_toArray, List.set_cons_zero, List.set_cons_succ, i64_w, i32_w]
           rfl
         refine pure_ (i := 2) (N := some 17) (v := ?_) (a' := ?_) #[t_, t_, t_, f_, f_, f_, f_, f_, f_, f_, f_, f_, f_, f_] rfl rfl (any_of HT_.out (by kernel_rfl)) (fun _ _ _ h => h) (Or.inl ⟨by rfl, ?_⟩) ?_ ?_
         rotate_left
         · intro w'
           go_simp
           with_reducible rfl
         rotate_left
         · simp only [Act.put, List.setIfInBounds_toArray, List.set_cons_zero, List.set_cons_succ, i64_w, i32_w]
           rfl
         refine pure_ (i := 3) (N := some 18) (v := ?_) (a' := ?_) #[t_, t_, t_, t_, f_, f_, f_, f_, f_, f_, f_, f_, f_, f_] rfl rfl (any_of HT_.out (by kernel_rfl)) (fun _ _ _ h => h) (Or.inl ⟨by rfl, ?_⟩) ?_ ?_
         rotate_left
         · intro w'
           go_simp
           with_reducible rfl
         rotate_left
         · simp only [Act.put, List.setIfInBounds_toArray, List.set_cons_zero, List.set_cons_succ, i64_w, i32_w]
           rfl
         refine pure_ (i := 5) (N := some 20) (v := ?_) (a' := ?_) #[t_, t_, t_, t_, f_, t_, f_, f_, f_, f_, f_, f_, f_, f_] rfl rfl (any_of HT_.out (by kernel_rfl)) (fun _ _ _ h => h) (Or.inl ⟨by rfl, ?_⟩) ?_ ?_
         rotate_left
         · intro w'
           go_simp
           with_reducible rfl
         rotate_left
         · simp only [Act.put, List.setIfInBounds_toArray, List.set_cons_zero, List.set_cons_succ, i64_w, i32_w]
           rfl
         refine pure_ (i := 6) (N := some 21) (v := ?_) (a' := ?_) #[t_, t_, t_, t_, f_, t_, t_, f_, f_, f_, f_, f_, f_, f_] rfl rfl (any_of HT_.out (by kernel_rfl)) (fun _ _ _ h => h) (Or.inl ⟨by rfl, ?_⟩) ?_ ?_
         rotate_left
         · intro w'
           go_simp
           with_reducible rfl
         rotate_left
         · simp only [Act.put, List.setIfInBounds_toArray, List.set_cons_zero, List.set_cons_succ, i64_w, i32_w]
           rfl
         refine pure_ (i := 7) (N := some 22) (v := ?_) (a' := ?_) #[t_, t_, t_, t_, f_, t_, t_, t_, f_, f_, f_, f_, f_, f_] rfl rfl (any_of HT_.out (by kernel_rfl)) (fun _ _ _ h => h) (Or.inl ⟨by rfl, ?_⟩) ?_ ?_
         rotate_left
         · intro w'
           go_simp
           with_reducible rfl
         rotate_left
         · simp only [Act.put, List.setIfInBounds_toArray, List.set_cons_zero, List.set_cons_succ, i64_w, i32_w]
           rfl
         refine pure_ (i := 8) (N := some 23) (v := ?_) (a' := ?_) #[t_, t_, t_, t_, f_, t_, t_, t_, t_, f_, f_, f_, f_, f_] rfl rfl (any_of HT_.out (by kernel_rfl)) (fun _ _ _ h => h) (Or.inl ⟨by rfl, ?_⟩) ?_ ?_
         rotate_left
         · intro w'
           go_simp
           with_reducible rfl
         rotate_left
         · simp only [Act.put, List.setIfInBounds_toArray, List.set_cons_zero, List.set_cons_succ, i64_w, i32_w]
           rfl
         refine pure_ (i := 11) (N := some 26) (v := ?_) (a' := ?_) #[t_, t_, t_, t_, f_, t_, t_, t_, t_, f_, f_, t_, f_, f_] rfl rfl (any_of HT_.out (by kernel_rfl)) (fun _ _ _ h => h) (Or.inl ⟨by rfl, ?_⟩) ?_ ?_
         rotate_left
         · intro w'
           go_simp
           with_reducible rfl
         rotate_left
         · simp only [Act.put, List.setIfInBounds_toArray, List.set_cons_zero, List.set_cons_succ, i64_w, i32_w]
           rfl
         refine pure_ (i := 12) (N := some 27) (v := ?_) (a' := ?_) #[t_, t_, t_, t_, f_, t_, t_, t_, t_, f_, f_, t_, t_, f_] rfl rfl (any_of HT_.out (by kernel_rfl)) (fun _ _ _ h => h) (Or.inl ⟨by rfl, ?_⟩) ?_ ?_
         rotate_left
         · intro w'
           go_simp
           with_reducible rfl
         rotate_left
         · simp only [Act.put, List.setIfInBounds_toArray, List.set_cons_zero, List.set_cons_succ, i64_w, i32_w]
           rfl
         refine take_ (i := 4) (N := some 19) (v := ?_) (a' := ?_) #[t_, t_, t_, t_, t_, t_, t_, t_, t_, f_, f_, t_, t_, f_] rfl rfl (take_ofW HT_.out HW_.out (by kernel_rfl)) (fun _ _ _ h => h) (Or.inl ⟨by rfl, ?_⟩) hHeld ?_ ?_
         rotate_left
         · rintro w' ⟨s0, s1, s2, s3, s4, s5⟩
           go_simp
           with_reducible rfl
         rotate_left
         · simp only [Act.put, List.setIfInBounds_toArray, List.set_cons_zero, List.set_cons_succ, i64_w, i32_w]
           rfl
         refine take_ (i := 9) (N := some 24) (v := ?_) (a' := ?_) #[t_, t_, t_, t_, t_, t_, t_, t_, t_, t_, f_, t_, t_, f_] rfl rfl (take_ofW HT_.out HW_.out (by kernel_rfl)) (fun _ _ _ h => h) (Or.inl ⟨by rfl, ?_⟩) hHeld ?_ ?_
         rotate_left
         · rintro w' ⟨s0, s1, s2, s3, s4, s5⟩
           go_simp
           with_reducible rfl
         rotate_left
         · simp only [Act.put, List.setIfInBounds_toArray, List.set_cons_zero, List.set_cons_succ, i64_w, i32_w]
           rfl
         refine pure_ (i := 10) (N := some 25) (v := ?_) (a' := ?_) #[t_, t_, t_, t_, t_, t_, t_, t_, t_, t_, t_, t_, t_, f_] rfl rfl (any_of HT_.out (by kernel_rfl)) (fun _ _ _ h => h) (Or.inl ⟨by rfl, ?_⟩) ?_ ?_
         rotate_left
         · intro w'
           go_simp
           with_reducible rfl
         rotate_left
         · simp only [Act.put, List.setIfInBounds_toArray, List.set_cons_zero, List.set_cons_succ, i64_w, i32_w]
           rfl
         refine pure_ (i := 13) (N := some 28) (v := ?_) (a' := ?_) #[t_, t_, t_, t_, t_, t_, t_, t_, t_, t_, t_, t_, t_, t_] rfl rfl (any_of HT_.out (by kernel_rfl)) (fun _ _ _ h => h) (Or.inl ⟨by rfl, ?_⟩) ?_ ?_
         rotate_left
         · intro w'
           go_simp
           with_reducible rfl
         rotate_left
         · simp only [Act.put, List.setIfInBounds_toArray, List.set_cons_zero, List.set_cons_succ, i64_w, i32_w]
           rfl
         refine done_ (done_of HT_.out (by kernel_rfl)) ?_
         try go_wp2
         go_ret2
         exact ⟨_, by first | rfl | (simp [errW_none, errW_some] <;> rfl) | (simp [*, errW_none, errW_some] <;> rfl), by first | exact Kd.R_nil _ _ _ _ _ | exact Kd.N_nil _ _ _ _ _ | exact Kd.V_nil _ _ _ _ _ | exact Kd.Q_nil _ _ _ _ _ | exact Kd.S_nil _ _ _ _ _, by repeat (first | (with_reducible first | exact HB.out | apply below_alloc | apply pw_below_drewN | apply below_drew1) | exact HB.out)⟩
       · rw [if_neg c7] at H
         have c7b0 : decide ((l0.length : Int) < (wrap64 (((rd_T39 l1 x7_1).f0) + ((rd_T39 l1 x7_1).f1)))) = false := decide_eq_false c7
         clear c7
         by_cases c9 : 0 ≤ ((rd_T39 l1 x7_1).f0)
         · rw [if_pos c9] at H
           have c9b0 := eq_true c9
           have c9b1 : decide (0 ≤ ((rd_T39 l1 x7_1).f0)) = true := decide_eq_true c9
           clear c9
           by_cases c10 : ((rd_T39 l1 x7_1).f0) ≤ (wrap64 (((rd_T39 l1 x7_1).f0) + ((rd_T39 l1 x7_1).f1)))
           · rw [if_pos c10] at H
             have c10b0 := eq_true c10
             have c10b1 : decide (((rd_T39 l1 x7_1).f0) ≤ (wrap64 (((rd_T39 l1 x7_1).f0) + ((rd_T39 l1 x7_1).f1)))) = true := decide_eq_true c10
             by_cases c11 : (wrap64 (((rd_T39 l1 x7_1).f0) + ((rd_T39 l1 x7_1).f1))) ≤ (l0.length : Int)
             · rw [if_pos c11] at H
               have c11b0 := eq_true c11
               have c11b1 : decide ((wrap64 (((rd_T39 l1 x7_1).f0) + ((rd_T39 l1 x7_1).f1))) ≤ (l0.length : Int)) = true := decide_eq_true c11
               by_cases c12 : x6_1.length + ((l0.take ((wrap64 (((rd_T39 l1 x7_1).f0) + ((rd_T39 l1 x7_1).f1))) : Int).toNat).drop (((rd_T39 l1 x7_1).f0) : Int).toNat).length < 8796093022208
               · rw [if_pos c12] at H
                 have LMc12 := Aside0.mk c12
                 clear c12
                 obtain ⟨y614, hy614⟩ : ∃ y_ : List ByteArray, y_ = (x6_1 ++ ((l0.take ((wrap64 (((rd_T39 l1 x7_1).f0) + ((rd_T39 l1 x7_1).f1))) : Int).toNat).drop (((rd_T39 l1 x7_1).f0) : Int).toNat)) := ⟨_, rfl⟩
                 replace H : (if y614.length + ((rd_T39 l1 x7_1).f2).length < 8796093022208 then (spec_l13Do.l0 k1 l0 l1 (y614 ++ ((rd_T39 l1 x7_1).f2)) (wrap64 (x7_1 + 1))) else (none)) = some (r1, r2) := by first | (rw [hy614]; with_reducible exact H) | (have H2_ := (Option.bind_some _ _).symm.trans H; rw [hy614]; with_reducible exact H2_) | (have H2_ := (Option.bind_some _ _).symm.trans H; with_reducible exact H2_) | with_reducible exact H | (rw [hy614]; exact H) | exact H
                 have Ny614 := Aside0.mk hy614
                 clear hy614
                 by_cases c13 : y614.length + ((rd_T39 l1 x7_1).f2).length < 8796093022208
                 · rw [if_pos c13] at H
                   have LMc13 := Aside0.mk c13
                   clear c13
                   obtain ⟨y618, hy618⟩ : ∃ y_ : List ByteArray, y_ = (y614 ++ ((rd_T39 l1 x7_1).f2)) := ⟨_, rfl⟩
                   replace H : (spec_l13Do.l0 k1 l0 l1 y618 (wrap64 (x7_1 + 1))) = some (r1, r2) := by first | (rw [hy618]; with_reducible exact H) | (have H2_ := (Option.bind_some _ _).symm.trans H; rw [hy618]; with_reducible exact H2_) | (have H2_ := (Option.bind_some _ _).symm.trans H; with_reducible exact H2_) | with_reducible exact H | (rw [hy618]; exact H) | exact H
                   have Ny618 := Aside0.mk hy618
                   clear hy618
                   have H' := Aside0.mk H
                   clear H
                   try go_wp2
                   have n0_ := Aside0.mk (Kd.R_drew HO_6.out)
                   have n1_ := Aside0.mk (below_drew1 HB.out)
                   clear HO_6
                   clear HB
                   have HO_6 := n0_
                   have HB := n1_
                   clear n0_ n1_
                   have p608 : 0 ≤ (x7_1 : Int) := of_decide_eq_true (by assumption)
                   have q608 : x7_1 < (l1.length : Int) := of_decide_eq_true (by assumption)
                   obtain ⟨ad608, A608_2, c608_2, e608, hx608_0, hx608_1, hx608_2, hl608_2, hi608_2⟩ := at_T39 HR1.out x7_1 p608 q608
                   have hw608_2 := hx608_2
                   have hw608_1 := hx608_1
                   have hw608_0 := hx608_0
                   cases e608
                   replace hx608_0 := (HB.out.cell (World.block_lt_of_cell? w _ hx608_0)).trans hx608_0
                   replace hx608_1 := (HB.out.cell (World.block_lt_of_cell? w _ hx608_1)).trans hx608_1
                   replace hx608_2 := (HB.out.cell (World.block_lt_of_cell? w _ hx608_2)).trans hx608_2
                   have HR608_2 := Aside0.mk hi608_2
                   have HC608_2 := Aside0.mk hl608_2
                   clear hi608_2 hl608_2
                   replace p608 := eq_true p608
                   replace q608 := eq_true q608
                   have p609 : 0 ≤ (x7_1 : Int) := of_decide_eq_true (by assumption)
                   have q609 : x7_1 < (l1.length : Int) := of_decide_eq_true (by assumption)
                   obtain ⟨ad609, A609_2, c609_2, e609, hx609_0, hx609_1, hx609_2, hl609_2, hi609_2⟩ := at_T39 HR1.out x7_1 p609 q609
                   have hw609_2 := hx609_2
                   have hw609_1 := hx609_1
                   have hw609_0 := hx609_0
                   obtain rfl : ad608 = ad609 := (by injection e609)
                   replace hx609_0 := (HB.out.cell (World.block_lt_of_cell? w _ hx609_0)).trans hx609_0
                   replace hx609_1 := (HB.out.cell (World.block_lt_of_cell? w _ hx609_1)).trans hx609_1
                   replace hx609_2 := (HB.out.cell (World.block_lt_of_cell? w _ hx609_2)).trans hx609_2
                   have HR609_2 := Aside0.mk hi609_2
                   have HC609_2 := Aside0.mk hl609_2
                   clear hi609_2 hl609_2
                   replace p609 := eq_true p609
                   replace q609 := eq_true q609
                   have ea_ := Option.some.inj (hx608_2.symm.trans hx609_2)
                   injection ea_ with ea_ en_ ec_
                   subst ea_
                   subst ec_
                   clear en_
                   refine start_ (n := 14) (S := fun w' => w'.cell? (ad608.add ((x7_1).toNat * 3)) = some (.int .i64 ((rd_T39 l1 x7_1).f0)) ∧ w'.cell? ⟨(ad608.add ((x7_1).toNat * 3)).block, (ad608.add ((x7_1).toNat * 3)).off + 1, none⟩ = some (.int .i64 ((rd_T39 l1 x7_1).f1)) ∧ w'.cell? ⟨(ad608.add ((x7_1).toNat * 3)).block, (ad608.add ((x7_1).toNat * 3)).off + 2, none⟩ = some (.slice A608_2 ((rd_T39 l1 x7_1).f2).length c608_2) ∧ w'.cell? (ad608.add ((x7_1).toNat * 3)) = some (.int .i64 ((rd_T39 l1 x7_1).f0)) ∧ w'.cell? ⟨(ad608.add ((x7_1).toNat * 3)).block, (ad608.add ((x7_1).toNat * 3)).off + 1, none⟩ = some (.int .i64 ((rd_T39 l1 x7_1).f1)) ∧ w'.cell? ⟨(ad608.add ((x7_1).toNat * 3)).block, (ad608.add ((x7_1).toNat * 3)).off + 2, none⟩ = some (.slice A608_2 ((rd_T39 l1 x7_1).f2).length c608_2)) (ds := []) #[f_, f_, f_, f_, f_, f_, f_, f_, f_, f_, f_, f_, f_, f_] (by kernel_rfl) rfl rfl ⟨((HB.out.cell (World.block_lt_of_cell? w _ hw608_0)).trans hw608_0), ((HB.out.cell (World.block_lt_of_cell? w _ hw608_1)).trans hw608_1), ((HB.out.cell (World.block_lt_of_cell? w _ hw608_2)).trans hw608_2), ((HB.out.cell (World.block_lt_of_cell? w _ hw609_0)).trans hw609_0), ((HB.out.cell (World.block_lt_of_cell? w _ hw609_1)).trans hw609_1), ((HB.out.cell (World.block_lt_of_cell? w _ hw609_2)).trans hw609_2)⟩ (fun hHeld => ?_); refine with_tabW spec_l13Do.tab5 spec_l13Do.bits5 (fun HT_ HW_ => ?_)
                   generalize wr.drew = w14 at HO_6 HB HR608_2 HR609_2 hx608_0 hx608_1 hx608_2 hx609_0 hx609_1 hx609_2 hHeld ⊢
                   refine pure_ (i := 0) (N := some 15) (v := ?_) (a' := ?_) #[t_, f_, f_, f_, f_, f_, f_, f_, f_, f_, f_, f_, f_, f_] rfl rfl (any_of HT_.out (by kernel_rfl)) (fun _ _ _ h => h) (Or.inl ⟨by rfl, ?_⟩) ?_ ?_
                   rotate_left
                   · intro w'
                     go_simp
                     with_reducible rfl
                   rotate_left
                   · simp only [Act.put, List.setIfInBounds_toArray, List.set_cons_zero, List.set_cons_succ, i64_w, i32_w]
                     rfl
                   refine pure_ (i := 1) (N := some 16) (v := ?_) (a' := ?_) #[t_, t_, f_, f_, f_, f_, f_, f_, f_, f_, f_, f_, f_, f_] rfl rfl (any_of HT_.out (by kernel_rfl)) (fun _ _ _ h => h) (Or.inl ⟨by rfl, ?_⟩) ?_ ?_
                   rotate_left
                   · intro w'
                     go_simp
                     with_reducible rfl
                   rotate_left
                   · simp only [Act.put, List.setIfInBounds_toArray, List.set_cons_zero, List.set_cons_succ, i64_w, i32_w]
                     rfl
                   refine pure_ (i := 2) (N := some 17) (v := ?_) (a' := ?_) #[t_, t_, t_, f_, f_, f_, f_, f_, f_, f_, f_, f_, f_, f_] rfl rfl (any_of HT_.out (by kernel_rfl)) (fun _ _ _ h => h) (Or.inl ⟨by rfl, ?_⟩) ?_ ?_
                   rotate_left
                   · intro w'
                     go_simp
                     with_reducible rfl
                   rotate_left
                   · simp only [Act.put, List.setIfInBounds_toArray, List.set_cons_zero, List.set_cons_succ, i64_w, i32_w]
                     rfl
                   refine pure_ (i := 3) (N := some 18) (v := ?_) (a' := ?_) #[t_, t_, t_, t_, f_, f_, f_, f_, f_, f_, f_, f_, f_, f_] rfl rfl (any_of HT_.out (by kernel_rfl)) (fun _ _ _ h => h) (Or.inl ⟨by rfl, ?_⟩) ?_ ?_
                   rotate_left
                   · intro w'
                     go_simp
                     with_reducible rfl
                   rotate_left
                   · simp only [Act.put, List.setIfInBounds_toArray, List.set_cons_zero, List.set_cons_succ, i64_w, i32_w]
                     rfl
                   refine pure_ (i := 5) (N := some 20) (v := ?_) (a' := ?_) #[t_, t_, t_, t_, f_, t_, f_, f_, f_, f_, f_, f_, f_, f_] rfl rfl (any_of HT_.out (by kernel_rfl)) (fun _ _ _ h => h) (Or.inl ⟨by rfl, ?_⟩) ?_ ?_
                   rotate_left
                   · intro w'
                     go_simp
                     with_reducible rfl
                   rotate_left
                   · simp only [Act.put, List.setIfInBounds_toArray, List.set_cons_zero, List.set_cons_succ, i64_w, i32_w]
                     rfl
                   refine pure_ (i := 6) (N := some 21) (v := ?_) (a' := ?_) #[t_, t_, t_, t_, f_, t_, t_, f_, f_, f_, f_, f_, f_, f_] rfl rfl (any_of HT_.out (by kernel_rfl)) (fun _ _ _ h => h) (Or.inl ⟨by rfl, ?_⟩) ?_ ?_
                   rotate_left
                   · intro w'
                     go_simp
                     with_reducible rfl
                   rotate_left
                   · simp only [Act.put, List.setIfInBounds_toArray, List.set_cons_zero, List.set_cons_succ, i64_w, i32_w]
                     rfl
                   refine pure_ (i := 7) (N := some 22) (v := ?_) (a' := ?_) #[t_, t_, t_, t_, f_, t_, t_, t_, f_, f_, f_, f_, f_, f_] rfl rfl (any_of HT_.out (by kernel_rfl)) (fun _ _ _ h => h) (Or.inl ⟨by rfl, ?_⟩) ?_ ?_
                   rotate_left
                   · intro w'
                     go_simp
                     with_reducible rfl
                   rotate_left
                   · simp only [Act.put, List.setIfInBounds_toArray, List.set_cons_zero, List.set_cons_succ, i64_w, i32_w]
                     rfl
                   refine pure_ (i := 8) (N := some 23) (v := ?_) (a' := ?_) #[t_, t_, t_, t_, f_, t_, t_, t_, t_, f_, f_, f_, f_, f_] rfl rfl (any_of HT_.out (by kernel_rfl)) (fun _ _ _ h => h) (Or.inl ⟨by rfl, ?_⟩) ?_ ?_
                   rotate_left
                   · intro w'
                     go_simp
                     with_reducible rfl
                   rotate_left
                   · simp only [Act.put, List.setIfInBounds_toArray, List.set_cons_zero, List.set_cons_succ, i64_w, i32_w]
                     rfl
                   refine pure_ (i := 11) (N := some 26) (v := ?_) (a' := ?_) #[t_, t_, t_, t_, f_, t_, t_, t_, t_, f_, f_, t_, f_, f_] rfl rfl (any_of HT_.out (by kernel_rfl)) (fun _ _ _ h => h) (Or.inl ⟨by rfl, ?_⟩) ?_ ?_
                   rotate_left
                   · intro w'
                     go_simp
                     with_reducible rfl
                   rotate_left
                   · simp only [Act.put, List.setIfInBounds_toArray, List.set_cons_zero, List.set_cons_succ, i64_w, i32_w]
                     rfl
                   refine pure_ (i := 12) (N := some 27) (v := ?_) (a' := ?_) #[t_, t_, t_, t_, f_, t_, t_, t_, t_, f_, f_, t_, t_, f_] rfl rfl (any_of HT_.out (by kernel_rfl)) (fun _ _ _ h => h) (Or.inl ⟨by rfl, ?_⟩) ?_ ?_
                   rotate_left
                   · intro w'
                     go_simp
                     with_reducible rfl
                   rotate_left
                   · simp only [Act.put, List.setIfInBounds_toArray, List.set_cons_zero, List.set_cons_succ, i64_w, i32_w]
                     rfl
                   refine take_ (i := 4) (N := some 19) (v := ?_) (a' := ?_) #[t_, t_, t_, t_, t_, t_, t_, t_, t_, f_, f_, t_, t_, f_] rfl rfl (take_ofW HT_.out HW_.out (by kernel_rfl)) (fun _ _ _ h => h) (Or.inl ⟨by rfl, ?_⟩) hHeld ?_ ?_
                   rotate_left
                   · rintro w' ⟨s0, s1, s2, s3, s4, s5⟩
                     go_simp
                     with_reducible rfl
                   rotate_left
                   · simp only [Act.put, List.setIfInBounds_toArray, List.set_cons_zero, List.set_cons_succ, i64_w, i32_w]
                     rfl
                   refine take_ (i := 9) (N := some 24) (v := ?_) (a' := ?_) #[t_, t_, t_, t_, t_, t_, t_, t_, t_, t_, f_, t_, t_, f_] rfl rfl (take_ofW HT_.out HW_.out (by kernel_rfl)) (fun _ _ _ h => h) (Or.inl ⟨by rfl, ?_⟩) hHeld ?_ ?_
                   rotate_left
                   · rintro w' ⟨s0, s1, s2, s3, s4, s5⟩
                     go_simp
                     with_reducible rfl
                   rotate_left
                   · simp only [Act.put, List.setIfInBounds_toArray, List.set_cons_zero, List.set_cons_succ, i64_w, i32_w]
                     rfl
                   refine pure_ (i := 10) (N := some 25) (v := ?_) (a' := ?_) #[t_, t_, t_, t_, t_, t_, t_, t_, t_, t_, t_, t_, t_, f_] rfl rfl (any_of HT_.out (by kernel_rfl)) (fun _ _ _ h => h) (Or.inl ⟨by rfl, ?_⟩) ?_ ?_
                   rotate_left
                   · intro w'
                     go_simp
                     with_reducible rfl
                   rotate_left
                   · simp only [Act.put, List.setIfInBounds_toArray, List.set_cons_zero, List.set_cons_succ, i64_w, i32_w]
                     rfl
                   refine pure_ (i := 13) (N := some 28) (v := ?_) (a' := ?_) #[t_, t_, t_, t_, t_, t_, t_, t_, t_, t_, t_, t_, t_, t_] rfl rfl (any_of HT_.out (by kernel_rfl)) (fun _ _ _ h => h) (Or.inl ⟨by rfl, ?_⟩) ?_ ?_
                   rotate_left
                   · intro w'
                     go_simp
                     with_reducible rfl
                   rotate_left
                   · simp only [Act.put, List.setIfInBounds_toArray, List.set_cons_zero, List.set_cons_succ, i64_w, i32_w]
                     rfl
                   refine done_ (done_of HT_.out (by kernel_rfl)) ?_
                   try go_wp2
                   have n0_ := Aside0.mk (Kd.R_drew HO_6.out)
                   have n1_ := Aside0.mk (below_drew1 HB.out)
                   clear HO_6
                   clear HB
                   have HO_6 := n0_
                   have HB := n1_
                   clear n0_ n1_
                   have p610 : 0 ≤ (x7_1 : Int) := of_decide_eq_true (by assumption)
                   have q610 : x7_1 < (l1.length : Int) := of_decide_eq_true (by assumption)
                   obtain ⟨ad610, A610_2, c610_2, e610, hx610_0, hx610_1, hx610_2, hl610_2, hi610_2⟩ := at_T39 HR1.out x7_1 p610 q610
                   have hw610_2 := hx610_2
                   have hw610_1 := hx610_1
                   have hw610_0 := hx610_0
                   obtain rfl : ad608 = ad610 := (by injection e610)
                   replace hx610_0 := (HB.out.cell (World.block_lt_of_cell? w _ hx610_0)).trans hx610_0
                   replace hx610_1 := (HB.out.cell (World.block_lt_of_cell? w _ hx610_1)).trans hx610_1
                   replace hx610_2 := (HB.out.cell (World.block_lt_of_cell? w _ hx610_2)).trans hx610_2
                   have HR610_2 := Aside0.mk hi610_2
                   have HC610_2 := Aside0.mk hl610_2
                   clear hi610_2 hl610_2
                   replace p610 := eq_true p610
                   replace q610 := eq_true q610
                   have p611 : 0 ≤ (x7_1 : Int) := of_decide_eq_true (by assumption)
                   have q611 : x7_1 < (l1.length : Int) := of_decide_eq_true (by assumption)
                   obtain ⟨ad611, A611_2, c611_2, e611, hx611_0, hx611_1, hx611_2, hl611_2, hi611_2⟩ := at_T39 HR1.out x7_1 p611 q611
                   have hw611_2 := hx611_2
                   have hw611_1 := hx611_1
                   have hw611_0 := hx611_0
                   obtain rfl : ad608 = ad611 := (by injection e611)
                   replace hx611_0 := (HB.out.cell (World.block_lt_of_cell? w _ hx611_0)).trans hx611_0
                   replace hx611_1 := (HB.out.cell (World.block_lt_of_cell? w _ hx611_1)).trans hx611_1
                   replace hx611_2 := (HB.out.cell (World.block_lt_of_cell? w _ hx611_2)).trans hx611_2
                   have HR611_2 := Aside0.mk hi611_2
                   have HC611_2 := Aside0.mk hl611_2
                   clear hi611_2 hl611_2
                   replace p611 := eq_true p611
                   replace q611 := eq_true q611
                   have ea_ := Option.some.inj (hx610_2.symm.trans hx611_2)
                   injection ea_ with ea_ en_ ec_
                   subst ea_
                   subst ec_
                   clear en_
                   have p612 : 0 ≤ (x7_1 : Int) := of_decide_eq_true (by assumption)
                   have q612 : x7_1 < (l1.length : Int) := of_decide_eq_true (by assumption)
                   obtain ⟨ad612, A612_2, c612_2, e612, hx612_0, hx612_1, hx612_2, hl612_2, hi612_2⟩ := at_T39 HR1.out x7_1 p612 q612
                   have hw612_2 := hx612_2
                   have hw612_1 := hx612_1
                   have hw612_0 := hx612_0
                   obtain rfl : ad608 = ad612 := (by injection e612)
                   replace hx612_0 := (HB.out.cell (World.block_lt_of_cell? w _ hx612_0)).trans hx612_0
                   replace hx612_1 := (HB.out.cell (World.block_lt_of_cell? w _ hx612_1)).trans hx612_1
                   replace hx612_2 := (HB.out.cell (World.block_lt_of_cell? w _ hx612_2)).trans hx612_2
                   have HR612_2 := Aside0.mk hi612_2
                   have HC612_2 := Aside0.mk hl612_2
                   clear hi612_2 hl612_2
                   replace p612 := eq_true p612
                   replace q612 := eq_true q612
                   have ea_ := Option.some.inj (hx610_2.symm.trans hx612_2)
                   injection ea_ with ea_ en_ ec_
                   subst ea_
                   subst ec_
                   clear en_
                   obtain ⟨i016, hi016, _, hsz16, _⟩ := info_parts info9
                   obtain ⟨A16, hcut16, hA16, hC16⟩ := print_mid_of (P := Try.prog) Value.string (⟨#[]⟩ : ByteArray) 30 9 .i64 .i64 Try.underlying30 hi016 hsz16 A0 c0 l0 ((rd_T39 l1 x7_1).f0) (wrap64 (((rd_T39 l1 x7_1).f0) + ((rd_T39 l1 x7_1).f1))) (of_decide_eq_true (by assumption)) (by first | omega | exact of_decide_eq_true (by assumption)) (of_decide_eq_true (by assumption)) HC0.out
                   have HR613 := Aside0.mk (Kd.C_of_reads (h1 := fun _ => rfl) (hA16 _ (Kd.reads_of_C HR0.out)))
                   have HC613 := Aside0.mk hC16
                   clear hA16 hC16 hi016 hsz16
                   refine start_ (n := 21) (S := fun w' => w'.cell? (ad608.add ((x7_1).toNat * 3)) = some (.int .i64 ((rd_T39 l1 x7_1).f0)) ∧ w'.cell? ⟨(ad608.add ((x7_1).toNat * 3)).block, (ad608.add ((x7_1).toNat * 3)).off + 1, none⟩ = some (.int .i64 ((rd_T39 l1 x7_1).f1)) ∧ w'.cell? ⟨(ad608.add ((x7_1).toNat * 3)).block, (ad608.add ((x7_1).toNat * 3)).off + 2, none⟩ = some (.slice A610_2 ((rd_T39 l1 x7_1).f2).length c610_2) ∧ w'.cell? (ad608.add ((x7_1).toNat * 3)) = some (.int .i64 ((rd_T39 l1 x7_1).f0)) ∧ w'.cell? ⟨(ad608.add ((x7_1).toNat * 3)).block, (ad608.add ((x7_1).toNat * 3)).off + 1, none⟩ = some (.int .i64 ((rd_T39 l1 x7_1).f1)) ∧ w'.cell? ⟨(ad608.add ((x7_1).toNat * 3)).block, (ad608.add ((x7_1).toNat * 3)).off + 2, none⟩ = some (.slice A610_2 ((rd_T39 l1 x7_1).f2).length c610_2) ∧ w'.cell? (ad608.add ((x7_1).toNat * 3)) = some (.int .i64 ((rd_T39 l1 x7_1).f0)) ∧ w'.cell? ⟨(ad608.add ((x7_1).toNat * 3)).block, (ad608.add ((x7_1).toNat * 3)).off + 1, none⟩ = some (.int .i64 ((rd_T39 l1 x7_1).f1)) ∧ w'.cell? ⟨(ad608.add ((x7_1).toNat * 3)).block, (ad608.add ((x7_1).toNat * 3)).off + 2, none⟩ = some (.slice A610_2 ((rd_T39 l1 x7_1).f2).length c610_2)) (ds := []) #[f_, f_, f_, f_, f_, f_, f_, f_, f_, f_, f_, f_, f_, f_, f_, f_, f_, f_, f_, f_, f_] (by kernel_rfl) rfl rfl ⟨((HB.out.cell (World.block_lt_of_cell? w _ hw610_0)).trans hw610_0), ((HB.out.cell (World.block_lt_of_cell? w _ hw610_1)).trans hw610_1), ((HB.out.cell (World.block_lt_of_cell? w _ hw610_2)).trans hw610_2), ((HB.out.cell (World.block_lt_of_cell? w _ hw611_0)).trans hw611_0), ((HB.out.cell (World.block_lt_of_cell? w _ hw611_1)).trans hw611_1), ((HB.out.cell (World.block_lt_of_cell? w _ hw611_2)).trans hw611_2), ((HB.out.cell (World.block_lt_of_cell? w _ hw612_0)).trans hw612_0), ((HB.out.cell (World.block_lt_of_cell? w _ hw612_1)).trans hw612_1), ((HB.out.cell (World.block_lt_of_cell? w _ hw612_2)).trans hw612_2)⟩ (fun hHeld => ?_); refine with_tabW spec_l13Do.tab7 spec_l13Do.bits7 (fun HT_ HW_ => ?_)
                   generalize w14.drew = w15 at HO_6 HB HR610_2 HR611_2 HR612_2 HR613 hx610_0 hx610_1 hx610_2 hx611_0 hx611_1 hx611_2 hx612_0 hx612_1 hx612_2 hHeld ⊢
                   refine pure_ (i := 0) (N := some 29) (v := ?_) (a' := ?_) #[t_, f_, f_, f_, f_, f_, f_, f_, f_, f_, f_, f_, f_, f_, f_, f_, f_, f_, f_, f_, f_] rfl rfl (any_of HT_.out (by kernel_rfl)) (fun _ _ _ h => h) (Or.inl ⟨by rfl, ?_⟩) ?_ ?_
                   rotate_left
                   · intro w'
                     go_simp
                     with_reducible rfl
                   rotate_left
                   · simp only [Act.put, List.setIfInBounds_toArray, List.set_cons_zero, List.set_cons_succ, i64_w, i32_w]
                     rfl
                   refine pure_ (i := 1) (N := some 30) (v := ?_) (a' := ?_) #[t_, t_, f_, f_, f_, f_, f_, f_, f_, f_, f_, f_, f_, f_, f_, f_, f_, f_, f_, f_, f_] rfl rfl (any_of HT_.out (by kernel_rfl)) (fun _ _ _ h => h) (Or.inl ⟨by rfl, ?_⟩) ?_ ?_
                   rotate_left
                   · intro w'
                     go_simp
                     with_reducible rfl
                   rotate_left
                   · simp only [Act.put, List.setIfInBounds_toArray, List.set_cons_zero, List.set_cons_succ, i64_w, i32_w]
                     rfl
                   refine pure_ (i := 2) (N := some 31) (v := ?_) (a' := ?_) #[t_, t_, t_, f_, f_, f_, f_, f_, f_, f_, f_, f_, f_, f_, f_, f_, f_, f_, f_, f_, f_] rfl rfl (any_of HT_.out (by kernel_rfl)) (fun _ _ _ h => h) (Or.inl ⟨by rfl, ?_⟩) ?_ ?_
                   rotate_left
                   · intro w'
                     go_simp
                     with_reducible rfl
                   rotate_left
                   · simp only [Act.put, List.setIfInBounds_toArray, List.set_cons_zero, List.set_cons_succ, i64_w, i32_w]
                     rfl
                   refine pure_ (i := 3) (N := some 32) (v := ?_) (a' := ?_) #[t_, t_, t_, t_, f_, f_, f_, f_, f_, f_, f_, f_, f_, f_, f_, f_, f_, f_, f_, f_, f_] rfl rfl (any_of HT_.out (by kernel_rfl)) (fun _ _ _ h => h) (Or.inl ⟨by rfl, ?_⟩) ?_ ?_
                   rotate_left
                   · intro w'
                     go_simp
                     with_reducible rfl
                   rotate_left
                   · simp only [Act.put, List.setIfInBounds_toArray, List.set_cons_zero, List.set_cons_succ, i64_w, i32_w]
                     rfl
                   refine pure_ (i := 4) (N := some 33) (v := ?_) (a' := ?_) #[t_, t_, t_, t_, t_, f_, f_, f_, f_, f_, f_, f_, f_, f_, f_, f_, f_, f_, f_, f_, f_] rfl rfl (any_of HT_.out (by kernel_rfl)) (fun _ _ _ h => h) (Or.inl ⟨by rfl, ?_⟩) ?_ ?_
                   rotate_left
                   · intro w'
                     go_simp
                     with_reducible rfl
                   rotate_left
                   · simp only [Act.put, List.setIfInBounds_toArray, List.set_cons_zero, List.set_cons_succ, i64_w, i32_w]
                     rfl
                   refine pure_ (i := 5) (N := some 34) (v := ?_) (a' := ?_) #[t_, t_, t_, t_, t_, t_, f_, f_, f_, f_, f_, f_, f_, f_, f_, f_, f_, f_, f_, f_, f_] rfl rfl (any_of HT_.out (by kernel_rfl)) (fun _ _ _ h => h) (Or.inl ⟨by rfl, ?_⟩) ?_ ?_
                   rotate_left
                   · intro w'
                     go_simp
                     with_reducible rfl
                   rotate_left
                   · simp only [Act.put, List.setIfInBounds_toArray, List.set_cons_zero, List.set_cons_succ, i64_w, i32_w]
                     rfl
                   refine pure_ (i := 7) (N := some 36) (v := ?_) (a' := ?_) #[t_, t_, t_, t_, t_, t_, f_, t_, f_, f_, f_, f_, f_, f_, f_, f_, f_, f_, f_, f_, f_] rfl rfl (any_of HT_.out (by kernel_rfl)) (fun _ _ _ h => h) (Or.inl ⟨by rfl, ?_⟩) ?_ ?_
                   rotate_left
                   · intro w'
                     go_simp
                     with_reducible rfl
                   rotate_left
                   · simp only [Act.put, List.setIfInBounds_toArray, List.set_cons_zero, List.set_cons_succ, i64_w, i32_w]
                     rfl
                   refine pure_ (i := 8) (N := some 37) (v := ?_) (a' := ?_) #[t_, t_, t_, t_, t_, t_, f_, t_, t_, f_, f_, f_, f_, f_, f_, f_, f_, f_, f_, f_, f_] rfl rfl (any_of HT_.out (by kernel_rfl)) (fun _ _ _ h => h) (Or.inl ⟨by rfl, ?_⟩) ?_ ?_
                   rotate_left
                   · intro w'
                     go_simp
                     with_reducible rfl
                   rotate_left
                   · simp only [Act.put, List.setIfInBounds_toArray, List.set_cons_zero, List.set_cons_succ, i64_w, i32_w]
                     rfl
                   refine pure_ (i := 9) (N := some 38) (v := ?_) (a' := ?_) #[t_, t_, t_, t_, t_, t_, f_, t_, t_, t_, f_, f_, f_, f_, f_, f_, f_, f_, f_, f_, f_] rfl rfl (any_of HT_.out (by kernel_rfl)) (fun _ _ _ h => h) (Or.inl ⟨by rfl, ?_⟩) ?_ ?_
                   rotate_left
                   · intro w'
                     go_simp
                     with_reducible rfl
                   rotate_left
                   · simp only [Act.put, List.setIfInBounds_toArray, List.set_cons_zero, List.set_cons_succ, i64_w, i32_w]
                     rfl
                   refine pure_ (i := 10) (N := some 39) (v := ?_) (a' := ?_) #[t_, t_, t_, t_, t_, t_, f_, t_, t_, t_, t_, f_, f_, f_, f_, f_, f_, f_, f_, f_, f_] rfl rfl (any_of HT_.out (by kernel_rfl)) (fun _ _ _ h => h) (Or.inl ⟨by rfl, ?_⟩) ?_ ?_
                   rotate_left
                   · intro w'
                     go_simp
                     with_reducible rfl
                   rotate_left
                   · simp only [Act.put, List.setIfInBounds_toArray, List.set_cons_zero, List.set_cons_succ, i64_w, i32_w]
                     rfl
                   refine pure_ (i := 12) (N := some 41) (v := ?_) (a' := ?_) #[t_, t_, t_, t_, t_, t_, f_, t_, t_, t_, t_, f_, t_, f_, f_, f_, f_, f_, f_, f_, f_] rfl rfl (any_of HT_.out (by kernel_rfl)) (fun _ _ _ h => h) (Or.inl ⟨by rfl, ?_⟩) ?_ ?_
                   rotate_left
                   · intro w'
                     go_simp
                     with_reducible rfl
                   rotate_left
                   · simp only [Act.put, List.setIfInBounds_toArray, List.set_cons_zero, List.set_cons_succ, i64_w, i32_w]
                     rfl
                   refine pure_ (i := 13) (N := some 42) (v := ?_) (a' := ?_) #[t_, t_, t_, t_, t_, t_, f_, t_, t_, t_, t_, f_, t_, t_, f_, f_, f_, f_, f_, f_, f_] rfl rfl (any_of HT_.out (by kernel_rfl)) (fun _ _ _ h => h) (Or.inl ⟨by rfl, ?_⟩) ?_ ?_
                   rotate_left
                   · intro w'
                     go_simp
                     with_reducible rfl
                   rotate_left
                   · simp only [Act.put, List.setIfInBounds_toArray, List.set_cons_zero, List.set_cons_succ, i64_w, i32_w]
                     rfl
                   refine pure_ (i := 14) (N := some 43) (v := ?_) (a' := ?_) #[t_, t_, t_, t_, t_, t_, f_, t_, t_, t_, t_, f_, t_, t_, t_, f_, f_, f_, f_, f_, f_] rfl rfl (any_of HT_.out (by kernel_rfl)) (fun _ _ _ h => h) (Or.inl ⟨by rfl, ?_⟩) ?_ ?_
                   rotate_left
                   · intro w'
                     go_simp
                     with_reducible rfl
                   rotate_left
                   · simp only [Act.put, List.setIfInBounds_toArray, List.set_cons_zero, List.set_cons_succ, i64_w, i32_w]
                     rfl
                   refine pure_ (i := 15) (N := some 44) (v := ?_) (a' := ?_) #[t_, t_, t_, t_, t_, t_, f_, t_, t_, t_, t_, f_, t_, t_, t_, t_, f_, f_, f_, f_, f_] rfl rfl (any_of HT_.out (by kernel_rfl)) (fun _ _ _ h => h) (Or.inl ⟨by rfl, ?_⟩) ?_ ?_
                   rotate_left
                   · intro w'
                     go_simp
                     with_reducible rfl
                   rotate_left
                   · simp only [Act.put, List.setIfInBounds_toArray, List.set_cons_zero, List.set_cons_succ, i64_w, i32_w]
                     rfl
                   refine take_ (i := 6) (N := some 35) (v := ?_) (a' := ?_) #[t_, t_, t_, t_, t_, t_, t_, t_, t_, t_, t_, f_, t_, t_, t_, t_, f_, f_, f_, f_, f_] rfl rfl (take_ofW HT_.out HW_.out (by kernel_rfl)) (fun _ _ _ h => h) (Or.inl ⟨by rfl, ?_⟩) hHeld ?_ ?_
                   rotate_left
                   · rintro w' ⟨s0, s1, s2, s3, s4, s5, s6, s7, s8⟩
                     go_simp
                     with_reducible rfl
                   rotate_left
                   · simp only [Act.put, List.setIfInBounds_toArray, List.set_cons_zero, List.set_cons_succ, i64_w, i32_w]
                     rfl
                   refine take_ (i := 11) (N := some 40) (v := ?_) (a' := ?_) #[t_, t_, t_, t_, t_, t_, t_, t_, t_, t_, t_, t_, t_, t_, t_, t_, f_, f_, f_, f_, f_] rfl rfl (take_ofW HT_.out HW_.out (by kernel_rfl)) (fun _ _ _ h => h) (Or.inl ⟨by rfl, ?_⟩) hHeld ?_ ?_
                   rotate_left
                   · rintro w' ⟨s0, s1, s2, s3, s4, s5, s6, s7, s8⟩
                     go_simp
                     with_reducible rfl
                   rotate_left
                   · simp only [Act.put, List.setIfInBounds_toArray, List.set_cons_zero, List.set_cons_succ, i64_w, i32_w]
                     rfl
                   refine take_ (i := 16) (N := some 45) (v := ?_) (a' := ?_) #[t_, t_, t_, t_, t_, t_, t_, t_, t_, t_, t_, t_, t_, t_, t_, t_, t_, f_, f_, f_, f_] rfl rfl (take_ofW HT_.out HW_.out (by kernel_rfl)) (fun _ _ _ h => h) (Or.inl ⟨by rfl, ?_⟩) hHeld ?_ ?_
                   rotate_left
                   · rintro w' ⟨s0, s1, s2, s3, s4, s5, s6, s7, s8⟩
                     go_simp
                     with_reducible rfl
                   rotate_left
                   · simp only [Act.put, List.setIfInBounds_toArray, List.set_cons_zero, List.set_cons_succ, i64_w, i32_w]
                     rfl
                   refine pure_ (i := 17) (N := some 46) (v := ?_) (a' := ?_) #[t_, t_, t_, t_, t_, t_, t_, t_, t_, t_, t_, t_, t_, t_, t_, t_, t_, t_, f_, f_, f_] rfl rfl (any_of HT_.out (by kernel_rfl)) (fun _ _ _ h => h) (Or.inl ⟨by rfl, ?_⟩) ?_ ?_
                   rotate_left
                   · intro w'
                     go_simp
                     with_reducible rfl
                   rotate_left
                   · simp only [Act.put, List.setIfInBounds_toArray, List.set_cons_zero, List.set_cons_succ, i64_w, i32_w]
                     rfl
                   refine pure_ (i := 18) (N := some 47) (v := ?_) (a' := ?_) #[t_, t_, t_, t_, t_, t_, t_, t_, t_, t_, t_, t_, t_, t_, t_, t_, t_, t_, t_, f_, f_] rfl rfl (any_of HT_.out (by kernel_rfl)) (fun _ _ _ h => h) (Or.inl ⟨by rfl, ?_⟩) ?_ ?_
                   rotate_left
                   · intro w'
                     go_simp
                     with_reducible rfl
                   rotate_left
                   · simp only [Act.put, List.setIfInBounds_toArray, List.set_cons_zero, List.set_cons_succ, i64_w, i32_w]
                     rfl
                   refine one_ (i := 19) (N := some 48) #[t_, t_, t_, t_, t_, t_, t_, t_, t_, t_, t_, t_, t_, t_, t_, t_, t_, t_, t_, t_, f_] rfl rfl (one_of HT_.out (by kernel_rfl)) (by decide) (fun K hK => ?_)
                   refine Kd.R_append_rows_step Kd.string (w0 := w) w.heap.size (by rfl) (.tmp 29) (.tmp 47) 30 9 (.string ⟨#[]⟩) 16 rfl Try.underlying30 info9 rfl (by decide) (by omega) u6 x6_1 ((l0.take ((wrap64 (((rd_T39 l1 x7_1).f0) + ((rd_T39 l1 x7_1).f1))) : Int).toNat).drop (((rd_T39 l1 x7_1).f0) : Int).toNat) _ _ _ (fun _ => True) (fun _ => False) rfl rfl ?aO ?aR (fun _ _ h => h) (fun _ h => h.elim) ?aF ?aB ?aS ?aL ?_
                   (case aR => first | (rw [← show ((l0.take ((wrap64 (((rd_T39 l1 x7_1).f0) + ((rd_T39 l1 x7_1).f1))) : Int).toNat).drop (((rd_T39 l1 x7_1).f0) : Int).toNat).length = ((wrap64 (((rd_T39 l1 x7_1).f0) + ((rd_T39 l1 x7_1).f1))).toNat - ((rd_T39 l1 x7_1).f0).toNat) from (by rw [List.length_drop, List.length_take]; have h_ : ((wrap64 (((rd_T39 l1 x7_1).f0) + ((rd_T39 l1 x7_1).f1))) : Int) ≤ (l0.length : Int) := of_decide_eq_true (by assumption); omega)]; repeat (first | exact (Kd.C_below HR613.out HB.out) | (with_reducible refine Kd.C_alloc ?_ _) | (with_reducible refine Kd.C_drewN ?_ _) | (with_reducible refine Kd.C_drew ?_))) | (repeat (first | exact (Kd.C_below HR613.out HB.out) | (with_reducible refine Kd.C_alloc ?_ _) | (with_reducible refine Kd.C_drewN ?_ _) | (with_reducible refine Kd.C_drew ?_))))
                   (case aB => exact (by repeat (first | (with_reducible first | exact HB.out | apply below_alloc | apply pw_below_drewN | apply below_drew1) | exact HB.out)))
                   (case aF => exact (fun _ _ => trivial))
                   (case aO => exact (by (with_reducible repeat (first | apply Kd.R_alloc | apply Kd.R_drewN | apply Kd.R_drew)); exact HO_6.out))
                   (case aS => exact (below_size (by repeat (first | (with_reducible first | exact HB.out | apply below_alloc | apply pw_below_drewN | apply below_drew1) | exact HB.out))))
                   (case aL => have := LMc12.out; have hlx_ := (show ((l0.take ((wrap64 (((rd_T39 l1 x7_1).f0) + ((rd_T39 l1 x7_1).f1))) : Int).toNat).drop (((rd_T39 l1 x7_1).f0) : Int).toNat).length = ((wrap64 (((rd_T39 l1 x7_1).f0) + ((rd_T39 l1 x7_1).f1))).toNat - ((rd_T39 l1 x7_1).f0).toNat) from (by rw [List.length_drop, List.length_take]; have h_ : ((wrap64 (((rd_T39 l1 x7_1).f0) + ((rd_T39 l1 x7_1).f1))) : Int) ≤ (l0.length : Int) := of_decide_eq_true (by assumption); omega)); omega)
                   intro v615 w17 ho hb hg hat
                   rw [← Ny614.out] at ho
                   have n0_ := Aside0.mk (hb)
                   have n1_ := Aside0.mk (ho)
                   clear HB
                   clear HO_6
                   have HB := n0_
                   have HO616 := n1_
                   clear n0_ n1_
                   clear ho hb hg hat
                   refine hK.out _ _ ⟨((HB.out.cell (World.block_lt_of_cell? w _ hw610_0)).trans hw610_0), ((HB.out.cell (World.block_lt_of_cell? w _ hw610_1)).trans hw610_1), ((HB.out.cell (World.block_lt_of_cell? w _ hw610_2)).trans hw610_2), ((HB.out.cell (World.block_lt_of_cell? w _ hw611_0)).trans hw611_0), ((HB.out.cell (World.block_lt_of_cell? w _ hw611_1)).trans hw611_1), ((HB.out.cell (World.block_lt_of_cell? w _ hw611_2)).trans hw611_2), ((HB.out.cell (World.block_lt_of_cell? w _ hw612_0)).trans hw612_0), ((HB.out.cell (World.block_lt_of_cell? w _ hw612_1)).trans hw612_1), ((HB.out.cell (World.block_lt_of_cell? w _ hw612_2)).trans hw612_2)⟩ (fun hHeld => ?_)
                   clear hK K
                   refine norm_ (a' := ?_) ?_ ?_
                   rotate_left
                   · show Act.put _ (some 48) _ = _
                     simp only [Act.put, List.setIfInBounds_toArray, List.set_cons_zero, List.set_cons_succ, i64_w, i32_w]
                     rfl
                   refine pure_ (i := 20) (N := some 6) (v := ?_) (a' := ?_) #[t_, t_, t_, t_, t_, t_, t_, t_, t_, t_, t_, t_, t_, t_, t_, t_, t_, t_, t_, t_, t_] rfl rfl (any_of HT_.out (by kernel_rfl)) (fun _ _ _ h => h) (Or.inl ⟨by rfl, ?_⟩) ?_ ?_
                   rotate_left
                   · intro w'
                     go_simp
                     with_reducible rfl
                   rotate_left
                   · simp only [Act.put, List.setIfInBounds_toArray, List.set_cons_zero, List.set_cons_succ, i64_w, i32_w]
                     rfl
                   refine done_ (done_of HT_.out (by kernel_rfl)) ?_
                   have p617 : 0 ≤ (x7_1 : Int) := of_decide_eq_true (by assumption)
                   have q617 : x7_1 < (l1.length : Int) := of_decide_eq_true (by assumption)
                   obtain ⟨ad617, A617_2, c617_2, e617, hx617_0, hx617_1, hx617_2, hl617_2, hi617_2⟩ := at_T39 HR1.out x7_1 p617 q617
                   obtain rfl : ad608 = ad617 := (by injection e617)
                   (try (have ea_ := Option.some.inj (hw609_0.symm.trans hx617_0); injection ea_ with ea_ en_ ec_; subst ea_; subst ec_; clear en_))
                   (try (have ea_ := Option.some.inj (hw610_0.symm.trans hx617_0); injection ea_ with ea_ en_ ec_; subst ea_; subst ec_; clear en_))
                   (try (have ea_ := Option.some.inj (hw611_0.symm.trans hx617_0); injection ea_ with ea_ en_ ec_; subst ea_; subst ec_; clear en_))
                   (try (have ea_ := Option.some.inj (hw612_0.symm.trans hx617_0); injection ea_ with ea_ en_ ec_; subst ea_; subst ec_; clear en_))
                   replace hx617_0 := (HB.out.cell (World.block_lt_of_cell? w _ hx617_0)).trans hx617_0
                   (try (have ea_ := Option.some.inj (hw609_1.symm.trans hx617_1); injection ea_ with ea_ en_ ec_; subst ea_; subst ec_; clear en_))
                   (try (have ea_ := Option.some.inj (hw610_1.symm.trans hx617_1); injection ea_ with ea_ en_ ec_; subst ea_; subst ec_; clear en_))
                   (try (have ea_ := Option.some.inj (hw611_1.symm.trans hx617_1); injection ea_ with ea_ en_ ec_; subst ea_; subst ec_; clear en_))
                   (try (have ea_ := Option.some.inj (hw612_1.symm.trans hx617_1); injection ea_ with ea_ en_ ec_; subst ea_; subst ec_; clear en_))
                   replace hx617_1 := (HB.out.cell (World.block_lt_of_cell? w _ hx617_1)).trans hx617_1
                   (try (have ea_ := Option.some.inj (hw609_2.symm.trans hx617_2); injection ea_ with ea_ en_ ec_; subst ea_; subst ec_; clear en_))
                   (try (have ea_ := Option.some.inj (hw610_2.symm.trans hx617_2); injection ea_ with ea_ en_ ec_; subst ea_; subst ec_; clear en_))
                   (try (have ea_ := Option.some.inj (hw611_2.symm.trans hx617_2); injection ea_ with ea_ en_ ec_; subst ea_; subst ec_; clear en_))
                   (try (have ea_ := Option.some.inj (hw612_2.symm.trans hx617_2); injection ea_ with ea_ en_ ec_; subst ea_; subst ec_; clear en_))
                   replace hx617_2 := (HB.out.cell (World.block_lt_of_cell? w _ hx617_2)).trans hx617_2
                   have HR617_2 := Aside0.mk hi617_2
                   have HC617_2 := Aside0.mk hl617_2
                   clear hi617_2 hl617_2
                   replace p617 := eq_true p617
                   replace q617 := eq_true q617
                   try go_wp2_with (first | ((with_reducible refine gate_builtin (b := .append) (xs := #[.tmp 49, .tmp 54]) rfl ?_); at_builtin; refine Kd.R_append_rows Kd.string (w0 := w) w.heap.size rfl (.tmp 49) (.tmp 54) 30 9 (.string ⟨#[]⟩) 16 rfl Try.underlying30 info9 rfl (by decide) (by omega) v615 y614 ((rd_T39 l1 x7_1).f2) _ _ _ (fun _ => True) (fun _ => False) rfl rfl ?aO ?aR (fun _ _ h => h) (fun _ h => h.elim) ?aF ?aB ?aS ?aL ?_; (case aR => repeat (first | exact (Kd.C_below HR617_2.out HB.out) | (with_reducible refine Kd.C_alloc ?_ _) | (with_reducible refine Kd.C_drewN ?_ _) | (with_reducible refine Kd.C_drew ?_))); (case aB => exact (by repeat (first | (with_reducible first | exact HB.out | apply below_alloc | apply pw_below_drewN | apply below_drew1) | exact HB.out))); (case aF => exact (fun _ _ => trivial)); (case aO => exact (by (with_reducible repeat (first | apply Kd.R_alloc | apply Kd.R_drewN | apply Kd.R_drew)); exact HO616.out)); (case aS => exact (below_size (by repeat (first | (with_reducible first | exact HB.out | apply below_alloc | apply pw_below_drewN | apply below_drew1) | exact HB.out)))); (case aL => have := LMc13.out; omega); intro v619 w18 ho hb hg hat; rw [← Ny618.out] at ho; have n0_ := Aside0.mk (hb); have n1_ := Aside0.mk (ho); clear HB; clear HO616; have HB := n0_; have HO620 := n1_; clear n0_ n1_; clear ho hb hg hat))
                   go_roundg k1
                   case measure => have := HK1.out; omega
                   case rel => exact ⟨(y618), (wrap64 (x7_1 + 1)), (by first | rfl | (simp; done) | (simp [*]; done)), H', ⟨by have := HK1.out; omega⟩, ⟨by (with_reducible repeat (first | apply Kd.R_alloc | apply Kd.R_drewN | apply Kd.R_drew)); exact HO620.out⟩, ⟨by repeat (first | (with_reducible first | exact HB.out | apply below_alloc | apply pw_below_drewN | apply below_drew1) | exact HB.out)⟩⟩
                 · rw [if_neg c13] at H
                   exact absurd H (by simp)
               · rw [if_neg c12] at H
                 exact absurd H (by simp)
             · rw [if_neg c11] at H
               exact absurd H (by simp)
           · rw [if_neg c10] at H
             exact absurd H (by simp)
         · rw [if_neg c9] at H
           exact absurd H (by simp)
     · rw [if_neg c6] at H
       exact absurd H (by simp)
   · rw [if_neg c5] at H
     have c5b0 : decide (x7_1 < (l1.length : Int)) = false := decide_eq_false c5
     clear c5
     replace H := Option.bind_eq_some_iff.mp H
     obtain ⟨t621, A190, H⟩ := H
     replace H : (if t621 = true then (some (x6_1, true)) else (some (([] : List ByteArray), false))) = some (r1, r2) := H
     have A19 := Aside0.mk A190
     clear A190
     by_cases c20 : t621 = true
     · subst c20
       have H1 : (some (x6_1, true)) = some (r1, r2) := by rw [if_pos rfl] at H; exact H
       clear H
       have H := H1
       clear H1
       simp only [Option.some.injEq, Prod.mk.injEq] at H
       obtain ⟨rfl, rfl⟩ := H
       obtain ⟨Ao21, co21, eo21⟩ := Kd.R_slice HO_6.out
       subst eo21
       go_wp2_with (first | ((with_reducible refine gate_callee (f := 71) rfl ?_); refine goesL_ (some 57) rfl rfl Try.func71 (by kernel_rfl) rfl #[.slice Ao21 x6_1.length co21] rfl (by (try simp only [List.map_toArray, List.map_cons, List.map_nil]); first | done | rfl | (simp only [List.length_drop, List.length_take]; rfl)) ?_; (with_reducible refine (spec_l1Ok.calls k1 _ _ x6_1 true _ ?side1 ?side2 A19.out).mono ?_); (case side1 => repeat (first | exact (Kd.R_reads' HO_6.out).2.2 | (with_reducible refine Kd.C_alloc ?_ _) | (with_reducible refine Kd.C_drewN ?_ _) | (with_reducible refine Kd.C_drew ?_))); (case side2 => exact (Kd.R_reads' HO_6.out).2.1); rintro e w' ⟨rfl, ⟨nd, rfl⟩⟩; refine ⟨_, rfl, ?_⟩))
       go_ret2
       exact ⟨_, by first | rfl | (simp [errW_none, errW_some] <;> rfl) | (simp [*, errW_none, errW_some] <;> rfl), by (with_reducible repeat (first | apply Kd.R_alloc | apply Kd.R_drewN | apply Kd.R_drew)); exact HO_6.out, by repeat (first | (with_reducible first | exact HB.out | apply below_alloc | apply pw_below_drewN | apply below_drew1) | exact HB.out)⟩
     · replace c20 := Bool.eq_false_iff.mpr c20
       subst c20
       have H1 : (some (([] : List ByteArray), false)) = some (r1, r2) := by rw [if_neg (show ¬ (false = true) by decide)] at H; exact H
       clear H
       have H := H1
       clear H1
       simp only [Option.some.injEq, Prod.mk.injEq] at H
       obtain ⟨rfl, rfl⟩ := H
       obtain ⟨Ao22, co22, eo22⟩ := Kd.R_slice HO_6.out
       subst eo22
       go_wp2_with (first | ((with_reducible refine gate_callee (f := 71) rfl ?_); refine goesL_ (some 57) rfl rfl Try.func71 (by kernel_rfl) rfl #[.slice Ao22 x6_1.length co22] rfl (by (try simp only [List.map_toArray, List.map_cons, List.map_nil]); first | done | rfl | (simp only [List.length_drop, List.length_take]; rfl)) ?_; (with_reducible refine (spec_l1Ok.calls k1 _ _ x6_1 false _ ?side1 ?side2 A19.out).mono ?_); (case side1 => repeat (first | exact (Kd.R_reads' HO_6.out).2.2 | (with_reducible refine Kd.C_alloc ?_ _) | (with_reducible refine Kd.C_drewN ?_ _) | (with_reducible refine Kd.C_drew ?_))); (case side2 => exact (Kd.R_reads' HO_6.out).2.1); rintro e w' ⟨rfl, ⟨nd, rfl⟩⟩; refine ⟨_, rfl, ?_⟩))
       go_ret2
       exact ⟨_, by first | rfl | (simp [errW_none, errW_some] <;> rfl) | (simp [*, errW_none, errW_some] <;> rfl), by first | exact Kd.R_nil _ _ _ _ _ | exact Kd.N_nil _ _ _ _ _ | exact Kd.V_nil _ _ _ _ _ | exact Kd.Q_nil _ _ _ _ _ | exact Kd.S_nil _ _ _ _ _, by repeat (first | (with_reducible first | exact HB.out | apply below_alloc | apply pw_below_drewN | apply below_drew1) | exact HB.out)⟩
end Go.Proofs.Ytfnhjaiioojbkaa.Q
end
section
namespace Go.Proofs.Ytfnhjaiioojbkaa.Q
open Go.RowKit Go.Proofs.YtfnhjaiioojbkaaW.PrintWords Go.Proofs.YtfnhjaiioojbkaaW.PrintLast Go.Proofs.YtfnhjaiioojbkaaW.PrintMore
attribute [local go_sem] max2_int min2_int max_two min_two max_three min_three max_four min_four   -- for this text's walks alone
set_option linter.unusedVariables false
set_option linter.unusedSimpArgs false
def spec_DeltaDo.f (k : Nat) (l0 : List ByteArray) (l1 : List (S39)) : Option (List ByteArray × Bool) := (spec_l1Ok.f k l0).bind fun t622 => (if t622 = true then ((spec_l13Ok.f k l1).bind fun t623 => (if t623 = true then ((spec_l13Do.f k l0 l1).bind fun bt624 => (some (bt624.1, bt624.2))) else (some (([] : List ByteArray), false)))) else (some (([] : List ByteArray), false)))
theorem spec_DeltaDo.mono : ∀ a0 a1 k, LeO (spec_DeltaDo.f k a0 a1) (spec_DeltaDo.f (k + 1) a0 a1) := by
 intro a0 a1 k
 unfold spec_DeltaDo.f
 repeat' first
  | (with_reducible exact spec_l13Do.mono _ _ _)
  | (with_reducible exact spec_l13Ok.mono _ _)
  | (with_reducible exact spec_l1Ok.mono _ _)
  | (with_reducible exact LeO.refl _)
  | (with_reducible exact LeO.none _)
  | (with_reducible refine LeO.ite ?_ ?_)
  | (with_reducible refine LeO.bind ?_ (fun _ => ?_))
  | exact spec_l13Do.mono _ _ _
  | exact spec_l13Ok.mono _ _
  | exact spec_l1Ok.mono _ _
  | exact LeO.none _
  | refine LeO.ite ?_ ?_
  | refine LeO.bind ?_ (fun _ => ?_)
set_option maxHeartbeats 8000000 in
set_option maxRecDepth 100000 in
theorem spec_DeltaDo.calls (k : Nat) (A0 : Option Addr) (c0 : Nat) (l0 : List ByteArray) (A1 : Option Addr) (c1 : Nat) (l1 : List (S39)) (r1 : List ByteArray) (r2 : Bool) (w : World) (hr0 : Kd.C Kd.string w A0 l0.length l0) (hc0 : l0.length ≤ c0) (hr1 : Kd.C k39 w A1 l1.length l1) (hc1 : l1.length ≤ c1) (h : spec_DeltaDo.f k l0 l1 = some (r1, r2)) :
 Calls Try.prog 35 #[.slice A0 l0.length c0, .slice A1 l1.length c1] w fun e w' => ∃ v0_ : Value, e = .returned (.tuple #[v0_, .bool r2]) ∧ Kd.R Kd.string 9 w' w.heap.size (fun _ => True) v0_ r1 ∧ Below w.heap.size w w' := by
 have HR0 := Aside0.mk hr0
 have HC0 := Aside0.mk hc0
 clear hr0 hc0
 have HR1 := Aside0.mk hr1
 have HC1 := Aside0.mk hc1
 clear hr1 hc1
 have HB := Aside0.mk (Below.refl w.heap.size w)
 have H : ((spec_l1Ok.f k l0).bind fun t622 => (if t622 = true then ((spec_l13Ok.f k l1).bind fun t623 => (if t623 = true then ((spec_l13Do.f k l0 l1).bind fun bt624 => (some (bt624.1, bt624.2))) else (some (([] : List ByteArray), false)))) else (some (([] : List ByteArray), false)))) = some (r1, r2) := h
 clear h
 replace H := Option.bind_eq_some_iff.mp H
 obtain ⟨t622, A30, H⟩ := H
 replace H : (if t622 = true then ((spec_l13Ok.f k l1).bind fun t623 => (if t623 = true then ((spec_l13Do.f k l0 l1).bind fun bt624 => (some (bt624.1, bt624.2))) else (some (([] : List ByteArray), false)))) else (some (([] : List ByteArray), false))) = some (r1, r2) := H
 have A3 := Aside0.mk A30
 clear A30
 by_cases c4 : t622 = true
 · subst c4
   have H1 : ((spec_l13Ok.f k l1).bind fun t623 => (if t623 = true then ((spec_l13Do.f k l0 l1).bind fun bt624 => (some (bt624.1, bt624.2))) else (some (([] : List ByteArray), false)))) = some (r1, r2) := by rw [if_pos rfl] at H; exact H
   clear H
   have H := H1
   clear H1
   replace H := Option.bind_eq_some_iff.mp H
   obtain ⟨t623, A50, H⟩ := H
   replace H : (if t623 = true then ((spec_l13Do.f k l0 l1).bind fun bt624 => (some (bt624.1, bt624.2))) else (some (([] : List ByteArray), false))) = some (r1, r2) := H
   have A5 := Aside0.mk A50
   clear A50
   by_cases c6 : t623 = true
   · subst c6
     have H1 : ((spec_l13Do.f k l0 l1).bind fun bt624 => (some (bt624.1, bt624.2))) = some (r1, r2) := by rw [if_pos rfl] at H; exact H
     clear H
     have H := H1
     clear H1
     replace H := Option.bind_eq_some_iff.mp H
     obtain ⟨⟨t624, t625⟩, A70, H⟩ := H
     replace H : (some (t624, t625)) = some (r1, r2) := H
     have A7 := Aside0.mk A70
     clear A70
     simp only [Option.some.injEq, Prod.mk.injEq] at H
     obtain ⟨rfl, rfl⟩ := H
     go_enter Try.func35, Try.ntmps35
     go_wp2_with (first | ((with_reducible refine gate_callee (f := 71) rfl ?_); refine goesL_ (some 7) rfl rfl Try.func71 (by kernel_rfl) rfl #[.slice A0 l0.length c0] rfl (by (try simp only [List.map_toArray, List.map_cons, List.map_nil]); first | done | rfl | (simp only [List.length_drop, List.length_take]; rfl)) ?_; (with_reducible refine (spec_l1Ok.calls k _ _ l0 true _ ?side1 ?side2 A3.out).mono ?_); (case side1 => repeat (first | exact HR0.out | (with_reducible refine Kd.C_alloc ?_ _) | (with_reducible refine Kd.C_drewN ?_ _) | (with_reducible refine Kd.C_drew ?_))); (case side2 => exact HC0.out); rintro e w' ⟨rfl, ⟨nd, rfl⟩⟩; refine ⟨_, rfl, ?_⟩) | (go_at_call 61; (with_reducible refine (spec_l13Ok.calls k _ _ l1 true _ ?side1 ?side2 A5.out).mono ?_); (case side1 => repeat (first | exact HR1.out | (with_reducible refine Kd.C_alloc ?_ _) | (with_reducible refine Kd.C_drewN ?_ _) | (with_reducible refine Kd.C_drew ?_))); (case side2 => exact HC1.out); rintro e w8 ⟨rfl, hb⟩; have n0_ := Aside0.mk (below_step (by repeat (first | (with_reducible first | exact HB.out | apply below_alloc | apply pw_below_drewN | apply below_drew1) | exact HB.out)) hb); clear HB; have HB := n0_; clear n0_; (try clear hb); (try clear hb2); (try clear hk); (try clear hi)) | ((with_reducible refine gate_callee (f := 83) rfl ?_); refine goesL_ (some 16) rfl rfl Try.func83 (by kernel_rfl) rfl #[.slice A0 l0.length c0, .slice A1 l1.length c1] rfl (by (try simp only [List.map_toArray, List.map_cons, List.map_nil]); first | done | rfl | (simp only [List.length_drop, List.length_take]; rfl)) ?_; (with_reducible refine (spec_l13Do.calls k _ _ l0 _ _ l1 t624 t625 _ ?side1 ?side2 ?side3 ?side4 A7.out).mono ?_); (case side1 => repeat (first | exact (Kd.C_below HR0.out HB.out) | (with_reducible refine Kd.C_alloc ?_ _) | (with_reducible refine Kd.C_drewN ?_ _) | (with_reducible refine Kd.C_drew ?_))); (case side2 => exact HC0.out); (case side3 => repeat (first | exact (Kd.C_below HR1.out HB.out) | (with_reducible refine Kd.C_alloc ?_ _) | (with_reducible refine Kd.C_drewN ?_ _) | (with_reducible refine Kd.C_drew ?_))); (case side4 => exact HC1.out); rintro e w9 ⟨v626, rfl, ho0, hb⟩; refine ⟨_, rfl, ?_⟩; have n0_ := Aside0.mk (Kd.R_lower ho0 (below_size (by repeat (first | (with_reducible first | exact HB.out | apply below_alloc | apply pw_below_drewN | apply below_drew1) | exact HB.out)))); have n1_ := Aside0.mk (below_step (by repeat (first | (with_reducible first | exact HB.out | apply below_alloc | apply pw_below_drewN | apply below_drew1) | exact HB.out)) hb); clear HB; have HO627 := n0_; have HB := n1_; clear n0_ n1_; (try clear hb); (try clear hb2); (try clear hk); (try clear hi); (try clear ho0)))
     go_ret2
     exact ⟨_, by first | rfl | (simp [errW_none, errW_some] <;> rfl) | (simp [*, errW_none, errW_some] <;> rfl), by (with_reducible repeat (first | apply Kd.R_alloc | apply Kd.R_drewN | apply Kd.R_drew)); exact HO627.out, by repeat (first | (with_reducible first | exact HB.out | apply below_alloc | apply pw_below_drewN | apply below_drew1) | exact HB.out)⟩
   · replace c6 := Bool.eq_false_iff.mpr c6
     subst c6
     have H1 : (some (([] : List ByteArray), false)) = some (r1, r2) := by rw [if_neg (show ¬ (false = true) by decide)] at H; exact H
     clear H
     have H := H1
     clear H1
     simp only [Option.some.injEq, Prod.mk.injEq] at H
     obtain ⟨rfl, rfl⟩ := H
     go_enter Try.func35, Try.ntmps35
     go_wp2_with (first | ((with_reducible refine gate_callee (f := 71) rfl ?_); refine goesL_ (some 7) rfl rfl Try.func71 (by kernel_rfl) rfl #[.slice A0 l0.length c0] rfl (by (try simp only [List.map_toArray, List.map_cons, List.map_nil]); first | done | rfl | (simp only [List.length_drop, List.length_take]; rfl)) ?_; (with_reducible refine (spec_l1Ok.calls k _ _ l0 true _ ?side1 ?side2 A3.out).mono ?_); (case side1 => repeat (first | exact HR0.out | (with_reducible refine Kd.C_alloc ?_ _) | (with_reducible refine Kd.C_drewN ?_ _) | (with_reducible refine Kd.C_drew ?_))); (case side2 => exact HC0.out); rintro e w' ⟨rfl, ⟨nd, rfl⟩⟩; refine ⟨_, rfl, ?_⟩) | (go_at_call 61; (with_reducible refine (spec_l13Ok.calls k _ _ l1 false _ ?side1 ?side2 A5.out).mono ?_); (case side1 => repeat (first | exact HR1.out | (with_reducible refine Kd.C_alloc ?_ _) | (with_reducible refine Kd.C_drewN ?_ _) | (with_reducible refine Kd.C_drew ?_))); (case side2 => exact HC1.out); rintro e w10 ⟨rfl, hb⟩; have n0_ := Aside0.mk (below_step (by repeat (first | (with_reducible first | exact HB.out | apply below_alloc | apply pw_below_drewN | apply below_drew1) | exact HB.out)) hb); clear HB; have HB := n0_; clear n0_; (try clear hb); (try clear hb2); (try clear hk); (try clear hi)))
     go_ret2
     exact ⟨_, by first | rfl | (simp [errW_none, errW_some] <;> rfl) | (simp [*, errW_none, errW_some] <;> rfl), by first | exact Kd.R_nil _ _ _ _ _ | exact Kd.N_nil _ _ _ _ _ | exact Kd.V_nil _ _ _ _ _ | exact Kd.Q_nil _ _ _ _ _ | exact Kd.S_nil _ _ _ _ _, by repeat (first | (with_reducible first | exact HB.out | apply below_alloc | apply pw_below_drewN | apply below_drew1) | exact HB.out)⟩
 · replace c4 := Bool.eq_false_iff.mpr c4
   subst c4
   have H1 : (some (([] : List ByteArray), false)) = some (r1, r2) := by rw [if_neg (show ¬ (false = true) by decide)] at H; exact H
   clear H
   have H := H1
   clear H1
   simp only [Option.some.injEq, Prod.mk.injEq] at H
   obtain ⟨rfl, rfl⟩ := H
   go_enter Try.func35, Try.ntmps35
   go_wp2_with (first | ((with_reducible refine gate_callee (f := 71) rfl ?_); refine goesL_ (some 7) rfl rfl Try.func71 (by kernel_rfl) rfl #[.slice A0 l0.length c0] rfl (by (try simp only [List.map_toArray, List.map_cons, List.map_nil]); first | done | rfl | (simp only [List.length_drop, List.length_take]; rfl)) ?_; (with_reducible refine (spec_l1Ok.calls k _ _ l0 false _ ?side1 ?side2 A3.out).mono ?_); (case side1 => repeat (first | exact HR0.out | (with_reducible refine Kd.C_alloc ?_ _) | (with_reducible refine Kd.C_drewN ?_ _) | (with_reducible refine Kd.C_drew ?_))); (case side2 => exact HC0.out); rintro e w' ⟨rfl, ⟨nd, rfl⟩⟩; refine ⟨_, rfl, ?_⟩))
   go_ret2
   exact ⟨_, by first | rfl | (simp [errW_none, errW_some] <;> rfl) | (simp [*, errW_none, errW_some] <;> rfl), by first | exact Kd.R_nil _ _ _ _ _ | exact Kd.N_nil _ _ _ _ _ | exact Kd.V_nil _ _ _ _ _ | exact Kd.Q_nil _ _ _ _ _ | exact Kd.S_nil _ _ _ _ _, by repeat (first | (with_reducible first | exact HB.out | apply below_alloc | apply pw_below_drewN | apply below_drew1) | exact HB.out)⟩
end Go.Proofs.Ytfnhjaiioojbkaa.Q
end
section
namespace Go.Proofs.Ytfnhjaiioojbkaa.Q
open Go.RowKit Go.Proofs.YtfnhjaiioojbkaaW.PrintWords Go.Proofs.YtfnhjaiioojbkaaW.PrintLast Go.Proofs.YtfnhjaiioojbkaaW.PrintMore
attribute [local go_sem] max2_int min2_int max_two min_two max_three min_three max_four min_four   -- for this text's walks alone
set_option linter.unusedVariables false
set_option linter.unusedSimpArgs false
def spec_DeltaOk.f (k : Nat) (l0 : List (S39)) : Option (Bool) := (spec_l13Ok.f k l0).bind fun t119 => (some t119)
theorem spec_DeltaOk.mono : ∀ a0 k, LeO (spec_DeltaOk.f k a0) (spec_DeltaOk.f (k + 1) a0) := by
 intro a0 k
 unfold spec_DeltaOk.f
 repeat' first
  | (with_reducible exact spec_l13Ok.mono _ _)
  | (with_reducible exact LeO.refl _)
  | (with_reducible exact LeO.none _)
  | (with_reducible refine LeO.ite ?_ ?_)
  | (with_reducible refine LeO.bind ?_ (fun _ => ?_))
  | exact spec_l13Ok.mono _ _
  | exact LeO.none _
  | refine LeO.ite ?_ ?_
  | refine LeO.bind ?_ (fun _ => ?_)
set_option maxHeartbeats 8000000 in
set_option maxRecDepth 100000 in
theorem spec_DeltaOk.calls (k : Nat) (A0 : Option Addr) (c0 : Nat) (l0 : List (S39)) (r : Bool) (w : World) (hr0 : Kd.C k39 w A0 l0.length l0) (hc0 : l0.length ≤ c0) (h : spec_DeltaOk.f k l0 = some r) :
 Calls Try.prog 16 #[.slice A0 l0.length c0] w fun e w' => e = .returned (.bool r) ∧ Below w.heap.size w w' := by
 have HR0 := Aside0.mk hr0
 have HC0 := Aside0.mk hc0
 clear hr0 hc0
 have HB := Aside0.mk (Below.refl w.heap.size w)
 have H : ((spec_l13Ok.f k l0).bind fun t119 => (some t119)) = some r := h
 clear h
 replace H := Option.bind_eq_some_iff.mp H
 obtain ⟨t119, A20, H⟩ := H
 replace H : (some t119) = some r := H
 have A2 := Aside0.mk A20
 clear A20
 obtain rfl := Option.some.inj H
 go_enter Try.func16, Try.ntmps16
 go_wp2_with (first | ((with_reducible refine gate_callee (f := 61) rfl ?_); refine goesL_ (some 4) rfl rfl Try.func61 (by kernel_rfl) rfl #[.slice A0 l0.length c0] rfl (by (try simp only [List.map_toArray, List.map_cons, List.map_nil]); first | done | rfl | (simp only [List.length_drop, List.length_take]; rfl)) ?_; (with_reducible refine (spec_l13Ok.calls k _ _ l0 t119 _ ?side1 ?side2 A2.out).mono ?_); (case side1 => repeat (first | exact HR0.out | (with_reducible refine Kd.C_alloc ?_ _) | (with_reducible refine Kd.C_drewN ?_ _) | (with_reducible refine Kd.C_drew ?_))); (case side2 => exact HC0.out); rintro e w3 ⟨rfl, hb⟩; refine ⟨_, rfl, ?_⟩; have n0_ := Aside0.mk (below_step (by repeat (first | (with_reducible first | exact HB.out | apply below_alloc | apply pw_below_drewN | apply below_drew1) | exact HB.out)) hb); clear HB; have HB := n0_; clear n0_; (try clear hb); (try clear hb2); (try clear hk); (try clear hi)))
 go_ret
 exact ⟨by first | rfl | (simp [errW_none, errW_some] <;> rfl) | (simp [*, errW_none, errW_some] <;> rfl), by repeat (first | (with_reducible first | exact HB.out | apply below_alloc | apply pw_below_drewN | apply below_drew1) | exact HB.out)⟩
end Go.Proofs.Ytfnhjaiioojbkaa.Q
end
section
namespace Go.Proofs.Ytfnhjaiioojbkaa.Q
open Go.RowKit Go.Proofs.YtfnhjaiioojbkaaW.PrintWords
set_option linter.unusedVariables false
set_option linter.unusedSimpArgs false
def pB (f0 f1 : Int) (L : Nat) (T : Bool) : Bool := (decide (1 ≤ f1) && decide (0 ≤ f0) && decide (f0 ≤ 10) && decide (f1 ≤ 10 - f0) && decide (L = 0)) || (decide (f0 = 0) && decide (f1 = 0) && decide (0 < L) && T)
def pieceB (x : Dl) : Bool := pB x.f0 x.f1 x.f2.length (textB x.f2)
theorem textB_nil {l : List ByteArray} (h : l.length = 0) : textB l = true := by
  rw [List.eq_nil_of_length_eq_zero h]
  rfl
theorem pB_good {f0 f1 : Int} {L : Nat} {T bad : Bool} (hbad : bad = (!(decide (0 ≤ f0) && decide (f0 ≤ 10) && (decide (0 ≤ f1) && decide (f1 ≤ 10 - f0)) && T)))
    (c1 : bad = false) (c2 : ¬ ((decide (f1 > 0)) == (decide ((L : Int) > 0))) = true) (c3 : f1 = 0 → f0 = 0) : pB f0 f1 L T = true := by
  subst hbad
  by_cases a : f1 > 0 <;> by_cases b : (L : Int) > 0 <;> cases T <;> simp [a, b] at c1 c2 <;> simp [pB] <;> omega
theorem pB_bad {f0 f1 : Int} {L : Nat} {T bad : Bool} (hT : L = 0 → T = true) (hbad : bad = (!(decide (0 ≤ f0) && decide (f0 ≤ 10) && (decide (0 ≤ f1) && decide (f1 ≤ 10 - f0)) && T)))
    (hb : bad = true ∨ ((decide (f1 > 0)) == (decide ((L : Int) > 0))) = true ∨ (f1 = 0 ∧ f0 ≠ 0)) : pB f0 f1 L T = false := by
  subst hbad
  rw [Bool.eq_false_iff]
  intro h
  simp only [pB, Bool.or_eq_true, Bool.and_eq_true, decide_eq_true_eq] at h
  rcases h with ⟨⟨⟨⟨h1, h2⟩, h3⟩, h4⟩, h5⟩ | ⟨⟨⟨h1, h2⟩, h3⟩, h4⟩
  · have ht := hT h5
    rcases hb with hb | hb | hb
    · rw [ht, decide_eq_true h2, decide_eq_true h3, decide_eq_true h4, decide_eq_true (show 0 ≤ f1 by omega)] at hb
      cases hb
    · rw [decide_eq_true (show f1 > 0 by omega), decide_eq_false (show ¬ (L : Int) > 0 by omega)] at hb
      cases hb
    · omega
  · subst h1; subst h2; subst h4
    rcases hb with hb | hb | hb
    · simp at hb
    · rw [decide_eq_false (show ¬ (0 : Int) > 0 by omega), decide_eq_true (show (L : Int) > 0 by omega)] at hb
      cases hb
    · exact hb.2 rfl
def deltaB (d : List Dl) : Bool := decide (d.length ≤ 10) && d.all pieceB
theorem within_eq (a b c : Int) : impl_within.f a b c = some (decide (b ≤ a) && decide (a ≤ c)) := by
  unfold impl_within.f
  by_cases h : b ≤ a
  · rw [if_pos h]; simp [h]
  · rw [if_neg h]; simp [h]
theorem in_eq (a b c : Int) : spec_l1In.f a b c = some (decide (b ≤ a) && decide (a ≤ c)) := by
  unfold spec_l1In.f
  by_cases h : b ≤ a
  · rw [if_pos h]; simp [h]
  · rw [if_neg h]; simp [h]
theorem implPiece_ev (k0 k1 : Int) (l : List ByteArray) (hl : Sm l) : Ev (fun k => impl_DeltaOk_1.f k k0 k1 l) (!pieceB ⟨k0, k1, l⟩) := by
  have hT := implText_ev l hl
  unfold impl_DeltaOk_1.f
  by_cases h0 : 0 ≤ k0 ∧ k0 ≤ 10
  · have hw : wrap64 (10 - k0) = 10 - k0 := w64 (by omega) (by omega)
    simp only [within_eq, Option.bind_some, hw]
    repeat' first
      | (refine Ev.ite (fun _ => ?_) (fun _ => ?_))
      | (refine Ev.bind hT ?_)
    all_goals (refine EvT (Ev.now _) ?_; clear hT hl; show _ = !pB k0 k1 l.length (textB l); generalize textB l = T at *; generalize l.length = L at *; cases T <;> simp_all [pB] <;> omega)
  · have hn : (decide (0 ≤ k0) && decide (k0 ≤ 10)) = false := by rw [Bool.eq_false_iff]; simpa using h0
    simp only [within_eq, Option.bind_some, hn]
    repeat' first
      | (refine Ev.negf (show ¬ (false = true) by decide) ?_)
      | (refine Ev.ite (fun _ => ?_) (fun _ => ?_))
      | (refine Ev.bind hT ?_)
    all_goals (refine EvT (Ev.now _) ?_; clear hT hl; show _ = !pB k0 k1 l.length (textB l); generalize textB l = T at *; generalize l.length = L at *; cases T <;> simp_all [pB] <;> omega)
/-- Pieces whose loops are not long. -/
def SmD (d : List Dl) : Prop := d.length ≤ 100000 ∧ ∀ x ∈ d, Sm x.f2
theorem implOk_ev (d : List Dl) (hd : SmD d) : Ev (fun k => impl_DeltaOk.f k d) (deltaB d) := by
  unfold impl_DeltaOk.f
  by_cases c : d.length ≤ 10
  · refine Ev.posf c (EvT (Ev.mapf _ (anyF_ev impl_DeltaOk.p (fun x => !pieceB x) d (fun x hx => ?_))) ?_)
    · exact implPiece_ev x.f0 x.f1 x.f2 (hd.2 x hx)
    · rw [deltaB, decide_eq_true c, Bool.true_and, ← List.not_all_eq_any_not]
      simp
  · exact Ev.negf c (EvT (Ev.now _) (by simp [deltaB]; omega))
theorem specOk1_ev (d : List Dl) (hd : SmD d) (i : Nat) (hi : i < d.length) (bad : Bool) (r : Bool)
    (hg : (bad = false → ¬ ((decide (d[i].f1 > 0)) == (decide (((d[i].f2).length : Int) > 0))) = true → (d[i].f1 = 0 → d[i].f0 = 0) → Ev (fun k => spec_l13Ok.l0 k d ((i + 1 : Nat) : Int)) r))
    (hb : bad = true ∨ ((decide (d[i].f1 > 0)) == (decide (((d[i].f2).length : Int) > 0))) = true ∨ (d[i].f1 = 0 ∧ d[i].f0 ≠ 0) → r = false) :
    Ev (fun k => spec_l13Ok.j1 k d i bad) r := by
  refine Ev.step' ?_
  have hi2 := hd.1
  simp only [spec_l13Ok.j1, rdD hi, w64_succ i (by omega)]
  refine Ev.ite (fun c => EvT (Ev.now _) (hb (.inl c)).symm) (fun c => Ev.posf (by omega) (Ev.posf (by omega) (Ev.ite (fun c1 => EvT (Ev.now _) (hb (.inr (.inl c1))).symm) (fun c1 => Ev.ite (fun c2 => Ev.ite (fun c3 => hg (by simpa using c) c1 (fun _ => c3)) (fun c3 => EvT (Ev.now _) (hb (.inr (.inr ⟨c2, c3⟩))).symm)) (fun c2 => hg (by simpa using c) c1 (fun h => absurd h c2))))))
theorem specOk0_ev (d : List Dl) (hd : SmD d) : ∀ (n i : Nat), i ≤ d.length → d.length - i = n → Ev (fun k => spec_l13Ok.l0 k d i) ((d.drop i).all pieceB && decide (d.length ≤ 10))
  | 0, i, hi, hn => by
    refine Ev.step' ?_
    simp only [spec_l13Ok.l0]
    rw [List.drop_eq_nil_of_le (by omega)]
    exact Ev.negf (by omega) (EvT (Ev.now _) (by simp; omega))
  | n + 1, i, hi, hn => by
    have h : i < d.length := by omega
    have hT := specText_ev _ (hd.2 _ (List.getElem_mem h))
    have ih := specOk0_ev d hd n (i + 1) (by omega) (by omega)
    rw [drop_all pieceB d i h]
    refine Ev.step' ?_
    simp only [spec_l13Ok.l0, rdD h, in_eq, Option.bind_some]
    refine Ev.posf (by omega) (Ev.posf (by omega) ?_)
    generalize (d.drop (i + 1)).all pieceB = q at ih
    have key : ∀ bad : Bool, (bad = (!(decide (0 ≤ d[i].f0) && decide (d[i].f0 ≤ 10) && (decide (0 ≤ d[i].f1) && decide (d[i].f1 ≤ 10 - d[i].f0)) && textB d[i].f2))) → Ev (fun k => spec_l13Ok.j1 k d i bad) (pieceB d[i] && q && decide (d.length ≤ 10)) := by
      intro bad hbad
      refine specOk1_ev d hd i h bad _ (fun c1 c2 c3 => ?_) (fun hb => ?_)
      · rw [show pieceB d[i] = true from pB_good hbad c1 c2 c3, Bool.true_and]
        exact ih
      · rw [show pieceB d[i] = false from pB_bad textB_nil hbad hb]; rfl
    by_cases h0 : 0 ≤ d[i].f0 ∧ d[i].f0 ≤ 10
    · have hw : wrap64 (10 - d[i].f0) = 10 - d[i].f0 := w64 (by omega) (by omega)
      simp only [hw]
      refine Ev.posf (by simpa using h0) (Ev.ite (fun c => Ev.bind hT (key _ ?_)) (fun c => key _ ?_))
      · simp at c; simp [h0, c]
      · rw [Bool.eq_false_iff.mpr c]; simp
    · exact Ev.negf (by simpa using h0) (key _ (by rw [show (decide (0 ≤ d[i].f0) && decide (d[i].f0 ≤ 10)) = false by rw [Bool.eq_false_iff]; simpa using h0]; simp))
theorem specOk_ev (d : List Dl) (hd : SmD d) : Ev (fun k => spec_l13Ok.f k d) (deltaB d) := by
  unfold spec_l13Ok.f
  exact EvT (specOk0_ev d hd _ 0 (by omega) rfl) (by simp [deltaB, Bool.and_comm])
theorem specDeltaOk_ev (d : List Dl) (hd : SmD d) : Ev (fun k => spec_DeltaOk.f k d) (deltaB d) := by
  unfold spec_DeltaOk.f
  exact Ev.bind (specOk_ev d hd) (Ev.now _)
end Go.Proofs.Ytfnhjaiioojbkaa.Q
end
section
namespace Go.Proofs.Ytfnhjaiioojbkaa.Q
open Go.RowKit Go.Proofs.YtfnhjaiioojbkaaW.PrintWords
set_option linter.unusedVariables false
set_option linter.unusedSimpArgs false
def doGo (base : Tx) : List Dl → Tx → Option Tx
  | [], acc => some acc
  | x :: d, acc => if x.f0 + x.f1 > base.length then none else doGo base d (acc ++ seg base x)
def fin : Option Tx → Tx × Bool
  | some x => if textB x = true then (x, true) else ([], false)
  | none => ([], false)
def doB (base : Tx) (d : List Dl) : Tx × Bool := if textB base = true ∧ deltaB d = true then fin (doGo base d []) else ([], false)
theorem textB_len {l : Tx} (h : textB l = true) : l.length ≤ 10 := by
  simp only [textB, Bool.and_eq_true, decide_eq_true_eq] at h
  exact h.1
theorem textB_size {l : Tx} (h : textB l = true) : ∀ s ∈ l, s.size ≤ 12 := by
  simp only [textB, Bool.and_eq_true, List.all_eq_true] at h
  intro s hs
  have := h.2 s hs
  simp only [lineB, Bool.and_eq_true, decide_eq_true_eq] at this
  exact this.2
theorem textB_Sm {l : Tx} (h : textB l = true) : Sm l := ⟨by have := textB_len h; omega, fun s hs => by have := textB_size h s hs; omega⟩
/-- What an ok piece is like. -/
theorem piece_ok {x : Dl} (h : pieceB x = true) : 0 ≤ x.f0 ∧ 0 ≤ x.f1 ∧ x.f0 + x.f1 ≤ 10 ∧ x.f2.length ≤ 10 ∧ ∀ s ∈ x.f2, s.size ≤ 12 := by
  simp only [pieceB, pB, Bool.or_eq_true, Bool.and_eq_true, decide_eq_true_eq] at h
  rcases h with ⟨⟨⟨⟨h1, h2⟩, h3⟩, h4⟩, h5⟩ | ⟨⟨⟨h1, h2⟩, h3⟩, h4⟩
  · rw [List.eq_nil_of_length_eq_zero h5]
    exact ⟨by omega, by omega, by omega, by simp, by simp⟩
  · exact ⟨by omega, by omega, by omega, textB_len h4, textB_size h4⟩
theorem seg_in {base : Tx} {x : Dl} (hb : textB base = true) (h : pieceB x = true) : (seg base x).length ≤ 20 ∧ ∀ s ∈ seg base x, s.size ≤ 12 := by
  have hb1 := textB_len hb
  obtain ⟨_, _, _, h4, h5⟩ := piece_ok h
  refine ⟨by simp [seg]; omega, fun s hs => ?_⟩
  rcases List.mem_append.mp hs with hs | hs
  · exact textB_size hb s (List.mem_of_mem_take (List.mem_of_mem_drop hs))
  · exact h5 s hs
theorem implDo_ev {base : Tx} (hb : textB base = true) (d : List Dl) (hd : ∀ x ∈ d, pieceB x = true) (hl : d.length ≤ 1000) : ∀ (n i : Nat) (acc : Tx), i ≤ d.length → d.length - i = n → acc.length ≤ 20 * i → (∀ s ∈ acc, s.size ≤ 12) →
    Ev (fun k => impl_DeltaDo.l0 k base acc d d.length i) (fin (doGo base (d.drop i) acc))
  | 0, i, acc, hi, hn, ha, hz => by
    rw [List.drop_eq_nil_of_le (by omega)]
    have hT := implText_ev acc ⟨by omega, fun s hs => by have := hz s hs; omega⟩
    refine Ev.step' ?_
    simp only [impl_DeltaDo.l0]
    refine Ev.negf (by omega) (Ev.bind hT (Ev.ite (fun c => EvT (Ev.now _) ?_) (fun c => EvT (Ev.now _) ?_)))
    · simp [doGo, fin, c]
    · simp [doGo, fin, c]
  | n + 1, i, acc, hi, hn, ha, hz => by
    have h : i < d.length := by omega
    obtain ⟨p1, p2, p3, p4, p5⟩ := piece_ok (hd _ (List.getElem_mem h))
    have hb1 := textB_len hb
    obtain ⟨s1, s2⟩ := seg_in hb (hd _ (List.getElem_mem h))
    rw [List.drop_eq_getElem_cons h, doGo]
    have ih := implDo_ev hb d hd hl n (i + 1) (acc ++ seg base d[i]) (by omega) (by omega) (by simp; omega) (fun s hs => by rcases List.mem_append.mp hs with hs | hs; exact hz s hs; exact s2 s hs)
    refine Ev.step' ?_
    simp only [impl_DeltaDo.l0, rdD h, w64 (x := d[i].f0 + d[i].f1) (by omega) (by omega), w64_succ i (by omega)]
    refine Ev.posf (by omega) (Ev.posf (by omega) (Ev.posf (by omega) ?_))
    by_cases c : d[i].f0 + d[i].f1 > base.length
    · rw [if_pos c]
      exact Ev.posf c (Ev.now _)
    · rw [if_neg c]
      refine Ev.negf c (Ev.posf p1 (Ev.posf (by omega) (Ev.posf (by omega) (Ev.posf (by simp; omega) (Ev.somef (Ev.posf (by simp; omega) ?_))))))
      rw [List.append_assoc]
      exact ih
theorem specDo_ev {base : Tx} (hb : textB base = true) (d : List Dl) (hd : ∀ x ∈ d, pieceB x = true) (hl : d.length ≤ 1000) : ∀ (n i : Nat) (acc : Tx), i ≤ d.length → d.length - i = n → acc.length ≤ 20 * i → (∀ s ∈ acc, s.size ≤ 12) →
    Ev (fun k => spec_l13Do.l0 k base d acc i) (fin (doGo base (d.drop i) acc))
  | 0, i, acc, hi, hn, ha, hz => by
    rw [List.drop_eq_nil_of_le (by omega)]
    have hT := specText_ev acc ⟨by omega, fun s hs => by have := hz s hs; omega⟩
    refine Ev.step' ?_
    simp only [spec_l13Do.l0]
    refine Ev.negf (by omega) (Ev.bind hT (Ev.ite (fun c => EvT (Ev.now _) ?_) (fun c => EvT (Ev.now _) ?_)))
    · simp [doGo, fin, c]
    · simp [doGo, fin, c]
  | n + 1, i, acc, hi, hn, ha, hz => by
    have h : i < d.length := by omega
    obtain ⟨p1, p2, p3, p4, p5⟩ := piece_ok (hd _ (List.getElem_mem h))
    have hb1 := textB_len hb
    obtain ⟨s1, s2⟩ := seg_in hb (hd _ (List.getElem_mem h))
    rw [List.drop_eq_getElem_cons h, doGo]
    have ih := specDo_ev hb d hd hl n (i + 1) (acc ++ seg base d[i]) (by omega) (by omega) (by simp; omega) (fun s hs => by rcases List.mem_append.mp hs with hs | hs; exact hz s hs; exact s2 s hs)
    refine Ev.step' ?_
    simp only [spec_l13Do.l0, rdD h, w64 (x := d[i].f0 + d[i].f1) (by omega) (by omega), w64_succ i (by omega)]
    refine Ev.posf (by omega) (Ev.posf (by omega) ?_)
    by_cases c : d[i].f0 + d[i].f1 > base.length
    · rw [if_pos c]
      exact Ev.posf c (Ev.now _)
    · rw [if_neg c]
      refine Ev.negf c (Ev.posf p1 (Ev.posf (by omega) (Ev.posf (by omega) (Ev.posf (by simp; omega) (Ev.somef (Ev.posf (by simp; omega) ?_))))))
      rw [List.append_assoc]
      exact ih
theorem deltaB_len {d : List Dl} (h : deltaB d = true) : d.length ≤ 10 ∧ ∀ x ∈ d, pieceB x = true := by
  simp only [deltaB, Bool.and_eq_true, decide_eq_true_eq, List.all_eq_true] at h
  exact h
theorem implDeltaDo_ev (base : Tx) (d : List Dl) (hb : Sm base) (hd : SmD d) : Ev (fun k => impl_DeltaDo.f k base d) (doB base d) := by
  unfold impl_DeltaDo.f
  have bad : ∀ q : Bool, q = true → Ev (fun k => impl_DeltaDo.j0 k base d q) (([] : Tx), false) := fun q hq => by
    subst hq
    refine Ev.step' ?_
    simp only [impl_DeltaDo.j0]
    exact Ev.posf trivial (Ev.now _)
  refine Ev.bind (implText_ev base hb) (Ev.ite (fun c => Ev.bind (implOk_ev d hd) ?_) (fun c => EvT (bad _ rfl) (by rw [doB, if_neg (fun h => c h.1)])))
  cases hk : deltaB d with
  | false => exact EvT (bad _ rfl) (by rw [doB, if_neg (fun h => by rw [hk] at h; cases h.2)])
  | true =>
    refine Ev.step' ?_
    simp only [impl_DeltaDo.j0]
    obtain ⟨h1, h2⟩ := deltaB_len hk
    refine Ev.negf (by simp) (EvT (implDo_ev c d h2 (by omega) _ 0 [] (by omega) rfl (by simp) (by simp)) ?_)
    rw [doB, if_pos ⟨c, hk⟩, List.drop_zero]
theorem specDeltaDo_ev (base : Tx) (d : List Dl) (hb : Sm base) (hd : SmD d) : Ev (fun k => spec_DeltaDo.f k base d) (doB base d) := by
  unfold spec_DeltaDo.f spec_l13Do.f
  refine Ev.bind (specText_ev base hb) (Ev.ite (fun c => Ev.bind (specOk_ev d hd) (Ev.ite (fun c2 => ?_) (fun c2 => EvT (Ev.now _) (by rw [doB, if_neg (fun h => c2 h.2)])))) (fun c => EvT (Ev.now _) (by rw [doB, if_neg (fun h => c h.1)])))
  obtain ⟨h1, h2⟩ := deltaB_len c2
  refine Ev.bind (specDo_ev c d h2 (by omega) _ 0 [] (by omega) rfl (by simp) (by simp)) (EvT (Ev.now _) ?_)
  rw [doB, if_pos ⟨c, c2⟩, List.drop_zero]
def ofB (a b : Tx) : List Dl := if textB a = true ∧ textB b = true then dOf a b else []
theorem implDeltaOf_ev (a b : Tx) (ha : Sm a) (hb : Sm b) : Ev (fun k => impl_DeltaOf.f k a b) (ofB a b) := by
  unfold impl_DeltaOf.f
  refine Ev.bind (implText_ev a ha) (Ev.ite (fun c => Ev.bind (implText_ev b hb) (Ev.ite (fun c2 => ?_) (fun c2 => EvT (Ev.now _) (by rw [ofB, if_neg (fun h => c2 h.2)])))) (fun c => EvT (Ev.now _) (by rw [ofB, if_neg (fun h => c h.1)])))
  have l1 := textB_len c
  have l2 := textB_len c2
  exact Ev.bind (implOf_ev (by omega) (by omega)) (EvT (Ev.now _) (by rw [ofB, if_pos ⟨c, c2⟩]))
theorem specDeltaOf_ev (a b : Tx) (ha : Sm a) (hb : Sm b) : Ev (fun k => spec_DeltaOf.f k a b) (ofB a b) := by
  unfold spec_DeltaOf.f
  refine Ev.bind (specText_ev a ha) (Ev.ite (fun c => Ev.bind (specText_ev b hb) (Ev.ite (fun c2 => ?_) (fun c2 => EvT (Ev.now _) (by rw [ofB, if_neg (fun h => c2 h.2)])))) (fun c => EvT (Ev.now _) (by rw [ofB, if_neg (fun h => c h.1)])))
  have l1 := textB_len c
  have l2 := textB_len c2
  exact Ev.bind (specOf_ev (by omega) (by omega)) (EvT (Ev.now _) (by rw [ofB, if_pos ⟨c, c2⟩]))
theorem smDelta0_refl (d : List Dl) (hd : SmD d) : ∀ (n i : Nat), i ≤ d.length → d.length - i = n → Ev (fun k => laws_smDelta.l0 k d d i) true
  | 0, i, hi, hn => by
    refine Ev.step' ?_
    simp only [laws_smDelta.l0]
    exact Ev.negf (by omega) (Ev.now _)
  | n + 1, i, hi, hn => by
    have h : i < d.length := by omega
    have h2 := hd.1
    refine Ev.step' ?_
    simp only [laws_smDelta.l0, rdD h, w64_succ i (by omega)]
    exact Ev.posf (by omega) (Ev.posf (by omega) (Ev.posf (by omega) (Ev.posf trivial (Ev.posf trivial (Ev.bind (smTexts_refl _ (by have := (hd.2 _ (List.getElem_mem h)).1; omega)) (Ev.posf rfl (smDelta0_refl d hd n (i + 1) (by omega) (by omega))))))))
theorem smDelta_refl (d : List Dl) (hd : SmD d) : Ev (fun k => laws_smDelta.f k d d) true := by
  unfold laws_smDelta.f
  exact Ev.posf rfl (smDelta0_refl d hd _ 0 (by omega) rfl)
/-- A text's delta is ok, and not long. -/
theorem dOf_ok {a b : Tx} (ha : textB a = true) (hb : textB b = true) : deltaB (dOf a b) = true := by
  obtain ⟨h1, h2⟩ := dOf_right a b
  have hla := textB_len ha
  have hlb := textB_len hb
  have hlen := ap_len h2
  rw [h1] at hlen
  simp only [deltaB, Bool.and_eq_true, decide_eq_true_eq, List.all_eq_true]
  refine ⟨by omega, fun x hx => ?_⟩
  have hx2 : ∀ s ∈ x.f2, lineB s = true := fun s hs => by
    have : s ∈ b := by rw [← h1]; exact mem_ap hx hs
    simp only [textB, Bool.and_eq_true, List.all_eq_true] at hb
    exact hb.2 s this
  have hx3 : x.f2.length ≤ b.length := by
    have : (seg a x).length ≤ (ap a (dOf a b)).length := by
      obtain ⟨p, q, e⟩ := List.append_of_mem hx
      rw [e]
      simp [ap]
      omega
    rw [h1] at this
    have := (piece_len (h2 x hx)).2.1
    omega
  rcases h2 x hx with ⟨g1, g2, g3, g4⟩ | ⟨g1, g2, g3⟩
  · simp [pieceB, pB, g4]
    exact ⟨⟨⟨g1, g2⟩, by omega⟩, by omega⟩
  · have : textB x.f2 = true := by
      simp only [textB, Bool.and_eq_true, decide_eq_true_eq, List.all_eq_true]
      exact ⟨by omega, hx2⟩
    simp [pieceB, pB, g1, g2, this]
    omega
theorem doGo_ap {base : Tx} : ∀ (d : List Dl) (acc : Tx), (∀ x ∈ d, Piece base x) → doGo base d acc = some (acc ++ ap base d)
  | [], acc, h => by simp [doGo, ap]
  | x :: d, acc, h => by
    have := (piece_len (h x List.mem_cons_self)).2.2.2.2
    rw [doGo, if_neg (by omega), doGo_ap d _ (fun y hy => h y (List.mem_cons_of_mem _ hy))]
    simp [ap]
theorem doB_of {a b : Tx} (ha : textB a = true) (hb : textB b = true) : doB a (dOf a b) = (b, true) := by
  obtain ⟨h1, h2⟩ := dOf_right a b
  rw [doB, if_pos ⟨ha, dOf_ok ha hb⟩, doGo_ap _ _ h2, h1]
  simp [fin, hb]
/-- A longer base makes the same. -/
theorem doGo_more {base more : Tx} : ∀ (d : List Dl) (acc x : Tx), (∀ y ∈ d, pieceB y = true) → doGo base d acc = some x → doGo (base ++ more) d acc = some x
  | [], acc, x, h, e => e
  | y :: d, acc, x, h, e => by
    obtain ⟨p1, p2, _⟩ := piece_ok (h y List.mem_cons_self)
    unfold doGo at e ⊢
    by_cases c : y.f0 + y.f1 > base.length
    · rw [if_pos c] at e; cases e
    · rw [if_neg c] at e
      rw [if_neg (by simp; omega)]
      have : seg (base ++ more) y = seg base y := by
        unfold seg
        rw [List.take_append_of_le_length (by omega)]
      rw [this]
      exact doGo_more d _ x (fun z hz => h z (List.mem_cons_of_mem _ hz)) e
end Go.Proofs.Ytfnhjaiioojbkaa.Q
end
section
namespace Go.Proofs.Ytfnhjaiioojbkaa.Pure
open Go.RowKit Go.Proofs.Ytfnhjaiioojbkaa.Q Go.Proofs.YtfnhjaiioojbkaaW.PrintWords Go.Proofs.YtfnhjaiioojbkaaW.PrintLast
set_option linter.unusedVariables false
set_option linter.unusedSimpArgs false
theorem bytes_of {l : List Int} (h : ∀ x ∈ l, (Lit.int .u8 x).wf = true) : ∀ x ∈ l, 0 ≤ x ∧ x ≤ 255 := fun x hx => by
  have := h x hx
  simp [Lit.wf, IntKind.bits, IntKind.signed, IntKind.min, IntKind.max] at this
  omega
theorem Sm_of {l : List ByteArray} (h : l.length ≤ 100) (hz : Sz l) : Sm l := ⟨by omega, fun s hs => by have := hz s hs; omega⟩
theorem two_ev {l : List Int} (h : ∀ x ∈ l, 0 ≤ x ∧ x ≤ 255) : ∃ a b, Ev (fun k => spec_DrawDeltaOf.f k l) (a, b) ∧ Sm a ∧ Sm b := by
  obtain ⟨c, hc, hb⟩ := open_ev h
  obtain ⟨a, p, ha, la, za, p1, p2⟩ := anyText_ev hb (p := 0) (by omega) (by omega)
  obtain ⟨v, hv, v0, v1⟩ := pick_ev hb (p := p) ⟨by omega, by omega⟩ (n := 4) (by omega)
  obtain ⟨b, q, hb2, lb, zb, q1, q2⟩ := anyText_ev hb (p := p + 1) (by omega) (by omega)
  obtain ⟨b', q', hb3, lb', zb', q1', q2'⟩ := turn_ev hb (p := p + 1) (by omega) (by omega) a (by omega) za
  unfold spec_DrawDeltaOf.f spec_l30Two.f
  simp only [hc, Option.bind_some]
  by_cases h0 : v = 0
  · exact ⟨a, b, Ev.bind (Ev.bind ha (Ev.bind hv (Ev.posf h0 (Ev.bind hb2 (Ev.now _))))) (Ev.now _), Sm_of (by omega) za, Sm_of (by omega) zb⟩
  · exact ⟨a, b', Ev.bind (Ev.bind ha (Ev.bind hv (Ev.negf h0 (Ev.bind hb3 (Ev.now _))))) (Ev.now _), Sm_of (by omega) za, Sm_of (by omega) zb'⟩
theorem SmD_ofB (a b : Tx) : SmD (ofB a b) := by
  by_cases h : textB a = true ∧ textB b = true
  · rw [ofB, if_pos h]
    obtain ⟨h1, h2⟩ := deltaB_len (dOf_ok h.1 h.2)
    refine ⟨by omega, fun x hx => ?_⟩
    obtain ⟨_, _, _, p4, p5⟩ := piece_ok (h2 x hx)
    exact ⟨by omega, fun s hs => by have := p5 s hs; omega⟩
  · rw [ofB, if_neg h]
    exact ⟨by simp, by simp⟩
theorem Sm_nil : Sm [] := ⟨by simp, by simp⟩
theorem FnDeltaOf : laws_FnDeltaOf.Pure := by
  intro l _ _ h
  refine Ev.rounds (r := true) (g := fun k => laws_FnDeltaOf.f k l) ?_
  obtain ⟨a, b, hd, ha, hb⟩ := two_ev (bytes_of h)
  unfold laws_FnDeltaOf.f
  refine Ev.ite (fun _ => Ev.now _) (fun _ => Ev.bind hd (Ev.bind (implDeltaOf_ev a b ha hb) (Ev.bind (specDeltaOf_ev a b ha hb) (Ev.bind (smDelta_refl _ (SmD_ofB a b)) (Ev.posf rfl ?_)))))
  have bad : ∀ q : Bool, q = true → Ev (fun k => laws_FnDeltaOf.j0 k a b (ofB a b) q) true := fun q hq => by
    subst hq
    refine Ev.step' ?_
    simp only [laws_FnDeltaOf.j0]
    exact Ev.posf trivial (Ev.bind (specDeltaOf_ev a b ha hb) (Ev.bind (smDelta_refl _ (SmD_ofB a b)) (Ev.now _)))
  refine Ev.bind (implText_ev a ha) (Ev.ite (fun ca => Ev.bind (implText_ev b hb) ?_) (fun ca => bad _ rfl))
  cases cb : textB b with
  | false => exact bad _ rfl
  | true =>
    refine Ev.step' ?_
    simp only [laws_FnDeltaOf.j0]
    have e : ofB a b = dOf a b := by rw [ofB, if_pos ⟨ca, cb⟩]
    have eo : ofB b b = dOf b b := by rw [ofB, if_pos ⟨cb, cb⟩]
    have en : ofB [] b = dOf [] b := by rw [ofB, if_pos ⟨rfl, cb⟩]
    have hdo := implDeltaDo_ev a (ofB a b) ha (SmD_ofB a b)
    rw [e, doB_of ca cb] at hdo
    rw [e]
    refine Ev.negf (by simp) (Ev.bind hdo (Ev.bind (implDeltaOf_ev b b hb hb) (Ev.bind (implDeltaOf_ev [] b Sm_nil hb) (Ev.posf rfl (Ev.bind (smTexts_refl b (by have := hb.1; omega)) (Ev.posf rfl (Ev.bind (EvT (implOk_ev _ (e ▸ SmD_ofB a b)) (dOf_ok ca cb)) (Ev.posf rfl ?_))))))))
    rw [eo, en, dOf_self, dOf_nil]
    by_cases hnil : b = []
    · subst hnil
      exact Ev.posf (by simp) (Ev.posf (by simp) (Ev.posf (by simp) (Ev.now _)))
    · rw [if_neg hnil, if_neg hnil]
      have hlen : ¬ (b.length : Int) = 0 := fun h0 => hnil (List.eq_nil_of_length_eq_zero (by omega))
      exact Ev.posf (by simp) (Ev.posf (by simp) (Ev.negf hlen (Ev.posf (by simp) (Ev.posf rfl (Ev.posf (by simp) (Ev.bind (smTexts_refl b (by have := hb.1; omega)) (Ev.now _)))))))
end Go.Proofs.Ytfnhjaiioojbkaa.Pure
end
section
namespace Go.Proofs.YtfnhjaiioojbkaaW.PrintWords
open Go.ChangeShapes Go.WideShapes
/-- A row's slice of whole numbers is no longer than its weight allows. -/
theorem sized_ints {H : Type} {enc : TypeId × Value → H} {P : Program} {W : World} {base : Nat} {spare : Nat → Bool} {held : Bool} {t e : TypeId} {k : IntKind} {a : Option Addr} {len cap : Nat} {d : DataW H} {ps : List MemPlace} {ts : List TypeId} {ds : List (DataW H)} {j : Nat}
    (hsz : (DataW.weightsEach P ts ds).all (· ≤ reachBytes) = true) (ht : ts[j]? = some t) (hd : ds[j]? = some d) (hu : P.underlying t = some (.slice e)) (he : P.underlying e = some (.int k)) (hc : P.cellsOf e = 1) {B : Nat} (hB : P.bytesOf e = B)
    (h : DataW.Trod enc P W base spare held t (.slice a len cap) d ps) : len * B ≤ 140737488351232 := by
  obtain ⟨fuel, hf⟩ := h
  rcases open_ints hu he hc hf with ⟨hcs, _⟩ | ⟨x, l, c, zs, hcs, _, hl, _, hz, hx, _, _⟩
  · simp [Value.cells] at hcs
    obtain ⟨rfl, rfl, rfl⟩ := hcs
    simp
  · simp [Value.cells] at hcs
    obtain ⟨rfl, rfl, rfl⟩ := hcs
    obtain ⟨hx, _⟩ := Prod.mk.inj hx
    subst hx
    have z := sized_slice hsz ht hd hu
    rw [hB] at z
    have hl2 : len ≤ zs.length := by
      rw [hz]
      split
      · exact hl
      · exact Nat.le_refl _
    have h1 : (lits (H := H) k (zs.take len)).length + (lits (H := H) k (zs.drop len)).length = zs.length := by
      simp [lits]
      omega
    rw [h1] at z
    exact Nat.le_trans (Nat.mul_le_mul_right _ hl2) z
end Go.Proofs.YtfnhjaiioojbkaaW.PrintWords
end
section
namespace Go.Proofs.Ytfnhjaiioojbkaa.fnDeltaOf
open Go.ChangeShapes Go.WideShapes Go.ChangeAt Go.RowKit
open Go.ChangeMaps (open_string shut_string)
set_option linter.unusedVariables false
theorem own : ownKnob Try.prog.godebug = none := by kernel_rfl
theorem laidOut : laidOutB Try.prog = true := by kernel_rfl
def IsRow (k : IntKind) (w : World) (a : Option Addr) (len cap : Nat) (zs : List Int) : Prop :=
  (a = none ∧ len = 0 ∧ cap = 0 ∧ zs = []) ∨
  ∃ x, a = some x ∧ len ≤ cap ∧ cap ≤ maxLen ∧ zs.length = cap ∧ (∀ i, i < zs.length → w.cell? (x.add i) = some (.int k (zs.getD i 0))) ∧ ∀ n ∈ zs, (Lit.int k n).wf = true
set_option maxRecDepth 100000 in
theorem lifted (os : Os) (started : os.Started) (H : Type) (enc : TypeId × Value → H) :
    ReturnsInHanded {} Try.checked os 4 .any (Rows.fnDeltaOfSpec.pre6 enc Try.prog Try.f4 Rows.fnDeltaOfRow.domain false) (Rows.fnDeltaOfSpec.post enc Try.prog Try.f4 false true false false) := by
  refine returnsInHanded_of_change_sized (C := Try.checked) own started (by kernel_rfl) Try.func4
    (ChangeSpec.witness6 (enc := enc) (C := Try.checked) false ⟨#[], #[.slice none 0 0], []⟩ 8 (by kernel_rfl) (by kernel_rfl) (by kernel_rfl) (by kernel_rfl)) ?_
  intro W base args ds gs before hval0 hW hcnd hsz0 _
  have hsz : (DataW.weightsEach Try.prog (Try.f4.params.toList ++ Rows.fnDeltaOfSpec.plain.varTypes Try.prog) (ds ++ gs)).all (· ≤ reachBytes) = true := hsz0
  have hval : ∀ (j : Nat) t v, Try.f4.params[j]? = some t → args[j]? = some v → Value.okWide Try.prog W .any base t v := hval0
  have hW' := hW
  obtain ⟨p, q, hA0, hV, rfl, hfz, hnd⟩ := hW
  have hA : DataW.TrodAll enc Try.prog W 0 (fun _ => true) true Try.f4.params.toList args.toList ds p := hA0
  rw [Try.params4] at hA hval hsz
  obtain ⟨v0, vs0, d0, ds0, p0, q0, hargs, rfl, rfl, h0, r0⟩ := trodAll_cons hA
  obtain ⟨rfl, rfl, rfl⟩ := trodAll_nil r0
  obtain rfl : args = #[v0] := by cases args; simp_all
  obtain ⟨rfl, rfl⟩ := trodVars_none hV
  obtain ⟨a0, len0, cap0, rfl⟩ := okWide_slice Try.underlying29 (hval 0 29 v0 rfl rfl)
  have k0 := h0
  have lt0 : ∀ x ∈ p0, x.block < W.heap.size := by obtain ⟨m, hm⟩ := k0; exact DataW.trod_lt m _ _ _ hm
  obtain ⟨z0, w0⟩ : ∃ zs, IsRow .u8 W a0 len0 cap0 zs := by
    obtain ⟨fuel, hf⟩ := h0
    rcases open_ints Try.underlying29 Try.underlying5 (by kernel_rfl) hf with ⟨hcs, _⟩ | ⟨x, l, c, zs, hcs, _, hl, hm, hz, _, hcell, hwz⟩
    · simp [Value.cells] at hcs
      obtain ⟨rfl, rfl, rfl⟩ := hcs
      exact ⟨[], .inl ⟨rfl, rfl, rfl, rfl⟩⟩
    · simp [Value.cells] at hcs
      obtain ⟨rfl, rfl, rfl⟩ := hcs
      exact ⟨zs, .inr ⟨_, rfl, hl, hm, by simpa using hz, hcell, hwz⟩⟩
  have y0 : len0 * 1 ≤ 140737488351232 := Go.Proofs.YtfnhjaiioojbkaaW.PrintWords.sized_ints hsz (j := 0) (t := 29) rfl rfl Try.underlying29 Try.underlying5 (by kernel_rfl) (by kernel_rfl) h0
  clear hA0 hval0 hsz0 hsz
  refine (Q.laws_FnDeltaOf.walk Pure.FnDeltaOf a0 len0 cap0 z0 W w0 y0).mono fun e W' ⟨he, bel⟩ => ?_
  subst he
  exact ⟨_, rfl, _, _, _, [], _, [], hW', trodAll_mk1 (shut_bool Try.underlying4 _), (trodAll_cons_mk (Below.trod laidOut (by kernel_rfl) (of_decide_eq_true (by kernel_rfl)) k0 bel lt0) trodAll_mk0), rfl, bel.frame _, fun h => by cases h⟩
theorem over : Rows.fnDeltaOfRow.holds Try.pinned (OpenSpec.ofChange Rows.fnDeltaOfSpec) :=
  OpenClaim.holds_of_wide 4 Try.f4 rfl rfl rfl rfl rfl rfl rfl ⟨rfl, rfl, rfl, rfl, rfl⟩ rfl rfl rfl rfl rfl (by kernel_rfl) Try.func4 (by kernel_rfl)
    (of_decide_eq_true (by kernel_rfl)) (by unfold Func.isWrapper; first | (rw [if_pos (by decide +kernel)]; kernel_rfl) | (rw [if_neg (by decide +kernel)]; exact ⟨rfl, rfl⟩))
    (fun os started H enc _ => lifted os started H enc)
theorem proved : Rows.FnDeltaOfSaid := over
#print axioms proved
end Go.Proofs.Ytfnhjaiioojbkaa.fnDeltaOf
namespace Go.Proofs.Ytfnhjaiioojbkaa
/-- The row, under a short name, for the claim. -/
theorem fnDeltaOf_holds : Rows.FnDeltaOfSaid := fnDeltaOf.proved
end Go.Proofs.Ytfnhjaiioojbkaa
end
