/- A part of the proof of FnPackFew: functions of the program, the reference and the law, each with what its call comes to. Conditions: those that each theorem names. -/
import Derived.Laws.BitsLemmas
import Derived.Test.YtfnhjaiioojbkaaMPackFew0
import Derived.Test.YtfnhjaiioojbkaaMPackFew1
import Derived.Test.YtfnhjaiioojbkaaMPackFew2
import Derived.Test.YtfnhjaiioojbkaaMPackFew3
set_option linter.unusedVariables false
set_option linter.unusedSimpArgs false
section
namespace Go.Proofs.Ytfnhjaiioojbkaa.Q
open Go.RowKit Go.Proofs.YtfnhjaiioojbkaaW.PrintWords Go.Proofs.YtfnhjaiioojbkaaW.PrintLast Go.Proofs.YtfnhjaiioojbkaaW.PrintMore
attribute [local go_sem] max2_int min2_int max_two min_two max_three min_three max_four min_four   -- for this text's walks alone
set_option linter.unusedVariables false
set_option linter.unusedSimpArgs false
def spec_l13Do.l0 : Nat → List ByteArray → List (S39) → List ByteArray → Int → Option (List ByteArray × Bool)
 | 0, _, _, _, _ => none
 | k + 1, x0, x1, x6, x7 => if x7 < (x1.length : Int) then (if 0 ≤ x7 then (if (wrap64 (((rd_T39 x1 x7).f0) + ((rd_T39 x1 x7).f1))) > (x0.length : Int) then (some (([] : List ByteArray), false)) else (if 0 ≤ ((rd_T39 x1 x7).f0) then (if ((rd_T39 x1 x7).f0) ≤ (wrap64 (((rd_T39 x1 x7).f0) + ((rd_T39 x1 x7).f1))) then (if (wrap64 (((rd_T39 x1 x7).f0) + ((rd_T39 x1 x7).f1))) ≤ (x0.length : Int) then (if x6.length + ((x0.take ((wrap64 (((rd_T39 x1 x7).f0) + ((rd_T39 x1 x7).f1))) : Int).toNat).drop (((rd_T39 x1 x7).f0) : Int).toNat).length < 8796093022208 then ((some (x6 ++ ((x0.take ((wrap64 (((rd_T39 x1 x7).f0) + ((rd_T39 x1 x7).f1))) : Int).toNat).drop (((rd_T39 x1 x7).f0) : Int).toNat) : List ByteArray)).bind fun y596 => (if y596.length + ((rd_T39 x1 x7).f2).length < 8796093022208 then (spec_l13Do.l0 k x0 x1 (y596 ++ ((rd_T39 x1 x7).f2)) (wrap64 (x7 + 1))) else (none))) else (none)) else (none)) else (none)) else (none))) else (none)) else ((spec_l1Ok.f k x6).bind fun t603 => (if t603 = true then (some (x6, true)) else (some (([] : List ByteArray), false))))
def spec_l13Do.f (k : Nat) (l0 : List ByteArray) (l1 : List (S39)) : Option (List ByteArray × Bool) := spec_l13Do.l0 k l0 l1 (([] : List ByteArray)) 0
def spec_l13Do.T5 : Bool × List (List Nat × List Nat) := (true, [([], []), ([], []), ([0, 1], [0, 1]), ([2], [2]), ([3], [3]), ([], []), ([], []), ([5, 6], [5, 6]), ([7], [7]), ([8], [8]), ([4, 9], [4, 9]), ([], []), ([11], [11]), ([10, 12], [10, 12])])
def spec_l13Do.B5 : List Nat := [0, 0, 3, 7, 15, 0, 0, 96, 224, 480, 1023, 0, 2048, 8191]
theorem spec_l13Do.tab5 : rtab .any (opsOf Try.f83 5) = spec_l13Do.T5 := by kernel_rfl
theorem spec_l13Do.bits5 : waitsOk spec_l13Do.T5.2 spec_l13Do.B5 = true := by kernel_rfl
def spec_l13Do.T7 : Bool × List (List Nat × List Nat) := (true, [([], []), ([], []), ([], []), ([], []), ([2, 3], [2, 3]), ([4], [4]), ([5], [5]), ([], []), ([], []), ([7, 8], [7, 8]), ([9], [9]), ([10], [10]), ([], []), ([], []), ([12, 13], [12, 13]), ([14], [14]), ([15], [15]), ([11, 16], [11, 16]), ([1, 6, 17], [1, 6, 17]), ([0, 18], [0, 18]), ([19, 19, 0, 1, 2, 3, 4, 5, 6, 7, 8, 9, 10, 11, 12, 13, 14, 15, 16, 17, 18, 19], [0, 19])])
def spec_l13Do.B7 : List Nat := [0, 0, 0, 0, 12, 28, 60, 0, 0, 384, 896, 1920, 0, 0, 12288, 28672, 61440, 130944, 262142, 524287, 1048575]
theorem spec_l13Do.tab7 : rtab .any (opsOf Try.f83 7) = spec_l13Do.T7 := by kernel_rfl
theorem spec_l13Do.bits7 : waitsOk spec_l13Do.T7.2 spec_l13Do.B7 = true := by kernel_rfl
set_option maxHeartbeats 8000000 in
set_option maxRecDepth 100000 in
theorem spec_l13Do.calls (k : Nat) (A0 : Option Addr) (c0 : Nat) (l0 : List ByteArray) (A1 : Option Addr) (c1 : Nat) (l1 : List (S39)) (r1 : List ByteArray) (r2 : Bool) (w : World) (hr0 : Kd.C Kd.string w A0 l0.length l0) (hc0 : l0.length ≤ c0) (hr1 : Kd.C k39 w A1 l1.length l1) (hc1 : l1.length ≤ c1) (h : spec_l13Do.f k l0 l1 = some (r1, r2)) :
 Calls Try.prog 83 #[.slice A0 l0.length c0, .slice A1 l1.length c1] w fun e w' => ∃ v0_ : Value, e = .returned (.tuple #[v0_, .bool r2]) ∧ Kd.R Kd.string 9 w' w.heap.size (fun _ => True) v0_ r1 ∧ Below w.heap.size w w' := by
 have HR0 := Aside0.mk hr0; have HC0 := Aside0.mk hc0; clear hr0 hc0; have HR1 := Aside0.mk hr1; have HC1 := Aside0.mk hc1; clear hr1 hc1; have HB := Aside0.mk (Below.refl w.heap.size w); have H : (spec_l13Do.l0 k l0 l1 (([] : List ByteArray)) 0) = some (r1, r2) := h; clear h; obtain ⟨y587, hy587⟩ : ∃ y_ : List ByteArray, y_ = (([] : List ByteArray)) := ⟨_, rfl⟩; (replace H : (spec_l13Do.l0 k l0 l1 y587 0) = some (r1, r2) := by first | (rw [hy587]; with_reducible exact H) | (have H2_ := (Option.bind_some _ _).symm.trans H; rw [hy587]; with_reducible exact H2_) | (have H2_ := (Option.bind_some _ _).symm.trans H; with_reducible exact H2_) | with_reducible exact H | (rw [hy587]; exact H) | exact H); have Ny587 := Aside0.mk hy587; clear hy587; have H' := Aside0.mk H; clear H; go_enter Try.func83, Try.ntmps83; go_wp2_with (first | ((with_reducible refine gate_dst (N := 8) rfl ?_); refine Kd.R_lit Kd.string _ 9 ?hg (N := 8) ?hd (xs := ([] : List ByteArray)) (inner := []) (ok := fun _ => True) (okp := fun _ => True) ?hr ?hp (fun _ hk => hk) trivial (Below.refl _ _) (Nat.le_refl _) (by simp) ?_; (case hd => rfl); (case hg => rfl); (case hr => first | (go_simp; done) | (go_simp; rfl)); (case hp => exact (Reps.none _ _)); intro v588 w3 ho4 hb hg_ hnew_; clear hg_ hnew_; (first | rw [← Ny587.out] at ho4 | (simp only [Int.reduceToNat] at ho4; rw [← Ny587.out] at ho4)); have n0_ := Aside0.mk (Kd.R_lower ho4 (below_size (by repeat (first | (with_reducible first | exact HB.out | apply below_alloc | apply pw_below_drewN | apply below_drew1) | exact HB.out)))); have n1_ := Aside0.mk (below_step (by repeat (first | (with_reducible first | exact HB.out | apply below_alloc | apply pw_below_drewN | apply below_drew1) | exact HB.out)) hb); clear HB; have HO589 := n0_; have HB := n1_; clear n0_ n1_; clear hb ho4)); go_loopg [6, 7] k (fun kq v6 v7 w' => ∃ (x6_1 : List ByteArray) (x7_1 : Int), v7 = .int .i64 x7_1 ∧ Aside0 (spec_l13Do.l0 kq l0 l1 x6_1 x7_1 = some (r1, r2)) ∧ Aside0 (kq ≤ k) ∧ Aside0 (Kd.R Kd.string 9 w' w.heap.size (fun _ => True) v6 x6_1) ∧ Aside0 (Below w.heap.size w w'))
 case atStart => exact ⟨(y587), (0), (by first | rfl | (simp; done) | (simp [*]; done)), H', ⟨Nat.le_refl _⟩, ⟨by (with_reducible repeat (first | apply Kd.R_alloc | apply Kd.R_drewN | apply Kd.R_drew)); exact HO589.out⟩, ⟨by repeat (first | (with_reducible first | exact HB.out | apply below_alloc | apply pw_below_drewN | apply below_drew1) | exact HB.out)⟩⟩
 case round =>
  clear H'; (try clear c1); (try clear p2); obtain ⟨x6_1, x7_1, rfl, HA, HK1, HO_6, HB⟩ := hrel
  cases gk with
  | zero => exact absurd HA.out (by simp [spec_l13Do.l0])
  | succ k1 =>
   have H := HA.out; clear HA; simp only [spec_l13Do.l0] at H; by_cases c5 : x7_1 < (l1.length : Int)
   ·rw [if_pos c5] at H; have c5b0 : decide (x7_1 < (l1.length : Int)) = true := decide_eq_true c5; clear c5; by_cases c6 : 0 ≤ x7_1
    ·rw [if_pos c6] at H; have c6b0 : decide (0 ≤ x7_1) = true := decide_eq_true c6; clear c6; by_cases c7 : (wrap64 (((rd_T39 l1 x7_1).f0) + ((rd_T39 l1 x7_1).f1))) > (l0.length : Int)
     ·rw [if_pos c7] at H; have c7b0 : decide ((l0.length : Int) < (wrap64 (((rd_T39 l1 x7_1).f0) + ((rd_T39 l1 x7_1).f1)))) = true := decide_eq_true c7; clear c7; simp only [Option.some.injEq, Prod.mk.injEq] at H; obtain ⟨rfl, rfl⟩ := H; (try go_wp2); have n0_ := Aside0.mk (Kd.R_drew HO_6.out); have n1_ := Aside0.mk (below_drew1 HB.out); clear HO_6; clear HB; have HO_6 := n0_; have HB := n1_; clear n0_ n1_; have p590 : 0 ≤ (x7_1 : Int) := of_decide_eq_true (by assumption); have q590 : x7_1 < (l1.length : Int) := of_decide_eq_true (by assumption); obtain ⟨ad590, A590_2, c590_2, e590, hx590_0, hx590_1, hx590_2, hl590_2, hi590_2⟩ := at_T39 HR1.out x7_1 p590 q590; have hw590_2 := hx590_2; have hw590_1 := hx590_1; have hw590_0 := hx590_0; cases e590; replace hx590_0 := (HB.out.cell (World.block_lt_of_cell? w _ hx590_0)).trans hx590_0; replace hx590_1 := (HB.out.cell (World.block_lt_of_cell? w _ hx590_1)).trans hx590_1; replace hx590_2 := (HB.out.cell (World.block_lt_of_cell? w _ hx590_2)).trans hx590_2; have HR590_2 := Aside0.mk hi590_2; have HC590_2 := Aside0.mk hl590_2; clear hi590_2 hl590_2; replace p590 := eq_true p590; replace q590 := eq_true q590; have p591 : 0 ≤ (x7_1 : Int) := of_decide_eq_true (by assumption); have q591 : x7_1 < (l1.length : Int) := of_decide_eq_true (by assumption); obtain ⟨ad591, A591_2, c591_2, e591, hx591_0, hx591_1, hx591_2, hl591_2, hi591_2⟩ := at_T39 HR1.out x7_1 p591 q591; have hw591_2 := hx591_2; have hw591_1 := hx591_1; have hw591_0 := hx591_0; obtain rfl : ad590 = ad591 := (by injection e591); replace hx591_0 := (HB.out.cell (World.block_lt_of_cell? w _ hx591_0)).trans hx591_0; replace hx591_1 := (HB.out.cell (World.block_lt_of_cell? w _ hx591_1)).trans hx591_1; replace hx591_2 := (HB.out.cell (World.block_lt_of_cell? w _ hx591_2)).trans hx591_2; have HR591_2 := Aside0.mk hi591_2; have HC591_2 := Aside0.mk hl591_2; clear hi591_2 hl591_2; replace p591 := eq_true p591; replace q591 := eq_true q591; have ea_ := Option.some.inj (hx590_2.symm.trans hx591_2); (injection ea_ with ea_ en_ ec_); subst ea_; subst ec_; clear en_; refine start_ (n := 14) (S := fun w' => w'.cell? (ad590.add ((x7_1).toNat * 3)) = some (.int .i64 ((rd_T39 l1 x7_1).f0)) ∧ w'.cell? ⟨(ad590.add ((x7_1).toNat * 3)).block, (ad590.add ((x7_1).toNat * 3)).off + 1, none⟩ = some (.int .i64 ((rd_T39 l1 x7_1).f1)) ∧ w'.cell? ⟨(ad590.add ((x7_1).toNat * 3)).block, (ad590.add ((x7_1).toNat * 3)).off + 2, none⟩ = some (.slice A590_2 ((rd_T39 l1 x7_1).f2).length c590_2) ∧ w'.cell? (ad590.add ((x7_1).toNat * 3)) = some (.int .i64 ((rd_T39 l1 x7_1).f0)) ∧ w'.cell? ⟨(ad590.add ((x7_1).toNat * 3)).block, (ad590.add ((x7_1).toNat * 3)).off + 1, none⟩ = some (.int .i64 ((rd_T39 l1 x7_1).f1)) ∧ w'.cell? ⟨(ad590.add ((x7_1).toNat * 3)).block, (ad590.add ((x7_1).toNat * 3)).off + 2, none⟩ = some (.slice A590_2 ((rd_T39 l1 x7_1).f2).length c590_2)) (ds := []) #[f_, f_, f_, f_, f_, f_, f_, f_, f_, f_, f_, f_, f_, f_] (by kernel_rfl) rfl rfl ⟨((HB.out.cell (World.block_lt_of_cell? w _ hw590_0)).trans hw590_0), ((HB.out.cell (World.block_lt_of_cell? w _ hw590_1)).trans hw590_1), ((HB.out.cell (World.block_lt_of_cell? w _ hw590_2)).trans hw590_2), ((HB.out.cell (World.block_lt_of_cell? w _ hw591_0)).trans hw591_0), ((HB.out.cell (World.block_lt_of_cell? w _ hw591_1)).trans hw591_1), ((HB.out.cell (World.block_lt_of_cell? w _ hw591_2)).trans hw591_2)⟩ (fun hHeld => ?_); refine with_tabW spec_l13Do.tab5 spec_l13Do.bits5 (fun HT_ HW_ => ?_)
      generalize wr.drew = w8 at HO_6 HB HR590_2 HR591_2 hx590_0 hx590_1 hx590_2 hx591_0 hx591_1 hx591_2 hHeld ⊢; refine pure_ (i := 0) (N := some 15) (v := ?_) (a' := ?_) #[t_, f_, f_, f_, f_, f_, f_, f_, f_, f_, f_, f_, f_, f_] rfl rfl (any_of HT_.out (by kernel_rfl)) (fun _ _ _ h => h) (Or.inl ⟨by rfl, ?_⟩) ?_ ?_
      rotate_left
      ·intro w'; go_simp
       with_reducible rfl
      rotate_left
      ·simp only [Act.put, List.setIfInBounds_toArray, List.set_cons_zero, List.set_cons_succ, i64_w, i32_w]
       rfl
      refine pure_ (i := 1) (N := some 16) (v := ?_) (a' := ?_) #[t_, t_, f_, f_, f_, f_, f_, f_, f_, f_, f_, f_, f_, f_] rfl rfl (any_of HT_.out (by kernel_rfl)) (fun _ _ _ h => h) (Or.inl ⟨by rfl, ?_⟩) ?_ ?_
      rotate_left
      ·intro w'; go_simp
       with_reducible rfl
      rotate_left
      ·simp only [Act.put, List.setIfInBounds_toArray, List.set_cons_zero, List.set_cons_succ, i64_w, i32_w]
       rfl
      refine pure_ (i := 2) (N := some 17) (v := ?_) (a' := ?_) #[t_, t_, t_, f_, f_, f_, f_, f_, f_, f_, f_, f_, f_, f_] rfl rfl (any_of HT_.out (by kernel_rfl)) (fun _ _ _ h => h) (Or.inl ⟨by rfl, ?_⟩) ?_ ?_
      rotate_left
      ·intro w'; go_simp
       with_reducible rfl
      rotate_left
      ·simp only [Act.put, List.setIfInBounds_toArray, List.set_cons_zero, List.set_cons_succ, i64_w, i32_w]
       rfl
      refine pure_ (i := 3) (N := some 18) (v := ?_) (a' := ?_) #[t_, t_, t_, t_, f_, f_, f_, f_, f_, f_, f_, f_, f_, f_] rfl rfl (any_of HT_.out (by kernel_rfl)) (fun _ _ _ h => h) (Or.inl ⟨by rfl, ?_⟩) ?_ ?_
      rotate_left
      ·intro w'; go_simp
       with_reducible rfl
      rotate_left
      ·simp only [Act.put, List.setIfInBounds_toArray, List.set_cons_zero, List.set_cons_succ, i64_w, i32_w]
       rfl
      refine pure_ (i := 5) (N := some 20) (v := ?_) (a' := ?_) #[t_, t_, t_, t_, f_, t_, f_, f_, f_, f_, f_, f_, f_, f_] rfl rfl (any_of HT_.out (by kernel_rfl)) (fun _ _ _ h => h) (Or.inl ⟨by rfl, ?_⟩) ?_ ?_
      rotate_left
      ·intro w'; go_simp
       with_reducible rfl
      rotate_left
      ·simp only [Act.put, List.setIfInBounds_toArray, List.set_cons_zero, List.set_cons_succ, i64_w, i32_w]
       rfl
      refine pure_ (i := 6) (N := some 21) (v := ?_) (a' := ?_) #[t_, t_, t_, t_, f_, t_, t_, f_, f_, f_, f_, f_, f_, f_] rfl rfl (any_of HT_.out (by kernel_rfl)) (fun _ _ _ h => h) (Or.inl ⟨by rfl, ?_⟩) ?_ ?_
      rotate_left
      ·intro w'; go_simp
       with_reducible rfl
      rotate_left
      ·simp only [Act.put, List.setIfInBounds_toArray, List.set_cons_zero, List.set_cons_succ, i64_w, i32_w]
       rfl
      refine pure_ (i := 7) (N := some 22) (v := ?_) (a' := ?_) #[t_, t_, t_, t_, f_, t_, t_, t_, f_, f_, f_, f_, f_, f_] rfl rfl (any_of HT_.out (by kernel_rfl)) (fun _ _ _ h => h) (Or.inl ⟨by rfl, ?_⟩) ?_ ?_
      rotate_left
      ·intro w'; go_simp
       with_reducible rfl
      rotate_left
      ·simp only [Act.put, List.setIfInBounds_toArray, List.set_cons_zero, List.set_cons_succ, i64_w, i32_w]
       rfl
      refine pure_ (i := 8) (N := some 23) (v := ?_) (a' := ?_) #[t_, t_, t_, t_, f_, t_, t_, t_, t_, f_, f_, f_, f_, f_] rfl rfl (any_of HT_.out (by kernel_rfl)) (fun _ _ _ h => h) (Or.inl ⟨by rfl, ?_⟩) ?_ ?_
      rotate_left
      ·intro w'; go_simp
       with_reducible rfl
      rotate_left
      ·simp only [Act.put, List.setIfInBounds_toArray, List.set_cons_zero, List.set_cons_succ, i64_w, i32_w]
       rfl
      refine pure_ (i := 11) (N := some 26) (v := ?_) (a' := ?_) #[t_, t_, t_, t_, f_, t_, t_, t_, t_, f_, f_, t_, f_, f_] rfl rfl (any_of HT_.out (by kernel_rfl)) (fun _ _ _ h => h) (Or.inl ⟨by rfl, ?_⟩) ?_ ?_
      rotate_left
      ·intro w'; go_simp
       with_reducible rfl
      rotate_left
      ·simp only [Act.put, List.setIfInBounds_toArray, List.set_cons_zero, List.set_cons_succ, i64_w, i32_w]
       rfl
      refine pure_ (i := 12) (N := some 27) (v := ?_) (a' := ?_) #[t_, t_, t_, t_, f_, t_, t_, t_, t_, f_, f_, t_, t_, f_] rfl rfl (any_of HT_.out (by kernel_rfl)) (fun _ _ _ h => h) (Or.inl ⟨by rfl, ?_⟩) ?_ ?_
      rotate_left
      ·intro w'; go_simp
       with_reducible rfl
      rotate_left
      ·simp only [Act.put, List.setIfInBounds_toArray, List.set_cons_zero, List.set_cons_succ, i64_w, i32_w]
       rfl
      refine take_ (i := 4) (N := some 19) (v := ?_) (a' := ?_) #[t_, t_, t_, t_, t_, t_, t_, t_, t_, f_, f_, t_, t_, f_] rfl rfl (take_ofW HT_.out HW_.out (by kernel_rfl)) (fun _ _ _ h => h) (Or.inl ⟨by rfl, ?_⟩) hHeld ?_ ?_
      rotate_left
      ·rintro w' ⟨s0, s1, s2, s3, s4, s5⟩; go_simp
       with_reducible rfl
      rotate_left
      ·simp only [Act.put, List.setIfInBounds_toArray, List.set_cons_zero, List.set_cons_succ, i64_w, i32_w]
       rfl
      refine take_ (i := 9) (N := some 24) (v := ?_) (a' := ?_) #[t_, t_, t_, t_, t_, t_, t_, t_, t_, t_, f_, t_, t_, f_] rfl rfl (take_ofW HT_.out HW_.out (by kernel_rfl)) (fun _ _ _ h => h) (Or.inl ⟨by rfl, ?_⟩) hHeld ?_ ?_
      rotate_left
      ·rintro w' ⟨s0, s1, s2, s3, s4, s5⟩; go_simp
       with_reducible rfl
      rotate_left
      ·simp only [Act.put, List.setIfInBounds_toArray, List.set_cons_zero, List.set_cons_succ, i64_w, i32_w]
       rfl
      refine pure_ (i := 10) (N := some 25) (v := ?_) (a' := ?_) #[t_, t_, t_, t_, t_, t_, t_, t_, t_, t_, t_, t_, t_, f_] rfl rfl (any_of HT_.out (by kernel_rfl)) (fun _ _ _ h => h) (Or.inl ⟨by rfl, ?_⟩) ?_ ?_
      rotate_left
      ·intro w'; go_simp
       with_reducible rfl
      rotate_left
      ·simp only [Act.put, List.setIfInBounds_toArray, List.set_cons_zero, List.set_cons_succ, i64_w, i32_w]
       rfl
      refine pure_ (i := 13) (N := some 28) (v := ?_) (a' := ?_) #[t_, t_, t_, t_, t_, t_, t_, t_, t_, t_, t_, t_, t_, t_] rfl rfl (any_of HT_.out (by kernel_rfl)) (fun _ _ _ h => h) (Or.inl ⟨by rfl, ?_⟩) ?_ ?_
      rotate_left
      ·intro w'; go_simp
       with_reducible rfl
      rotate_left
      ·simp only [Act.put, List.setIfInBounds_toArray, List.set_cons_zero, List.set_cons_succ, i64_w, i32_w]
       rfl
      refine done_ (done_of HT_.out (by kernel_rfl)) ?_; (try go_wp2); go_ret2; exact ⟨_, by first | rfl | (simp <;> rfl) | (simp [*] <;> rfl), by first | exact Kd.R_nil _ _ _ _ _ | exact Kd.N_nil _ _ _ _ _ | exact Kd.V_nil _ _ _ _ _ | exact Kd.Q_nil _ _ _ _ _ | exact Kd.S_nil _ _ _ _ _, by repeat (first | (with_reducible first | exact HB.out | apply below_alloc | apply pw_below_drewN | apply below_drew1) | exact HB.out)⟩
     ·rw [if_neg c7] at H; have c7b0 : decide ((l0.length : Int) < (wrap64 (((rd_T39 l1 x7_1).f0) + ((rd_T39 l1 x7_1).f1)))) = false := decide_eq_false c7; clear c7; by_cases c9 : 0 ≤ ((rd_T39 l1 x7_1).f0)
      ·rw [if_pos c9] at H; have c9b0 := eq_true c9; have c9b1 : decide (0 ≤ ((rd_T39 l1 x7_1).f0)) = true := decide_eq_true c9; clear c9; by_cases c10 : ((rd_T39 l1 x7_1).f0) ≤ (wrap64 (((rd_T39 l1 x7_1).f0) + ((rd_T39 l1 x7_1).f1)))
       ·rw [if_pos c10] at H; have c10b0 := eq_true c10; have c10b1 : decide (((rd_T39 l1 x7_1).f0) ≤ (wrap64 (((rd_T39 l1 x7_1).f0) + ((rd_T39 l1 x7_1).f1)))) = true := decide_eq_true c10; by_cases c11 : (wrap64 (((rd_T39 l1 x7_1).f0) + ((rd_T39 l1 x7_1).f1))) ≤ (l0.length : Int)
        ·rw [if_pos c11] at H; have c11b0 := eq_true c11; have c11b1 : decide ((wrap64 (((rd_T39 l1 x7_1).f0) + ((rd_T39 l1 x7_1).f1))) ≤ (l0.length : Int)) = true := decide_eq_true c11; by_cases c12 : x6_1.length + ((l0.take ((wrap64 (((rd_T39 l1 x7_1).f0) + ((rd_T39 l1 x7_1).f1))) : Int).toNat).drop (((rd_T39 l1 x7_1).f0) : Int).toNat).length < 8796093022208
         ·rw [if_pos c12] at H; have LMc12 := Aside0.mk c12; clear c12; obtain ⟨y596, hy596⟩ : ∃ y_ : List ByteArray, y_ = (x6_1 ++ ((l0.take ((wrap64 (((rd_T39 l1 x7_1).f0) + ((rd_T39 l1 x7_1).f1))) : Int).toNat).drop (((rd_T39 l1 x7_1).f0) : Int).toNat)) := ⟨_, rfl⟩; (replace H : (if y596.length + ((rd_T39 l1 x7_1).f2).length < 8796093022208 then (spec_l13Do.l0 k1 l0 l1 (y596 ++ ((rd_T39 l1 x7_1).f2)) (wrap64 (x7_1 + 1))) else (none)) = some (r1, r2) := by first | (rw [hy596]; with_reducible exact H) | (have H2_ := (Option.bind_some _ _).symm.trans H; rw [hy596]; with_reducible exact H2_) | (have H2_ := (Option.bind_some _ _).symm.trans H; with_reducible exact H2_) | with_reducible exact H | (rw [hy596]; exact H) | exact H); have Ny596 := Aside0.mk hy596; clear hy596; by_cases c13 : y596.length + ((rd_T39 l1 x7_1).f2).length < 8796093022208
          ·rw [if_pos c13] at H; have LMc13 := Aside0.mk c13; clear c13; obtain ⟨y600, hy600⟩ : ∃ y_ : List ByteArray, y_ = (y596 ++ ((rd_T39 l1 x7_1).f2)) := ⟨_, rfl⟩; (replace H : (spec_l13Do.l0 k1 l0 l1 y600 (wrap64 (x7_1 + 1))) = some (r1, r2) := by first | (rw [hy600]; with_reducible exact H) | (have H2_ := (Option.bind_some _ _).symm.trans H; rw [hy600]; with_reducible exact H2_) | (have H2_ := (Option.bind_some _ _).symm.trans H; with_reducible exact H2_) | with_reducible exact H | (rw [hy600]; exact H) | exact H); have Ny600 := Aside0.mk hy600; clear hy600; have H' := Aside0.mk H; clear H; (try go_wp2); have n0_ := Aside0.mk (Kd.R_drew HO_6.out); have n1_ := Aside0.mk (below_drew1 HB.out); clear HO_6; clear HB; have HO_6 := n0_; have HB := n1_; clear n0_ n1_; have p590 : 0 ≤ (x7_1 : Int) := of_decide_eq_true (by assumption); have q590 : x7_1 < (l1.length : Int) := of_decide_eq_true (by assumption); obtain ⟨ad590, A590_2, c590_2, e590, hx590_0, hx590_1, hx590_2, hl590_2, hi590_2⟩ := at_T39 HR1.out x7_1 p590 q590; have hw590_2 := hx590_2; have hw590_1 := hx590_1; have hw590_0 := hx590_0; cases e590; replace hx590_0 := (HB.out.cell (World.block_lt_of_cell? w _ hx590_0)).trans hx590_0; replace hx590_1 := (HB.out.cell (World.block_lt_of_cell? w _ hx590_1)).trans hx590_1; replace hx590_2 := (HB.out.cell (World.block_lt_of_cell? w _ hx590_2)).trans hx590_2; have HR590_2 := Aside0.mk hi590_2; have HC590_2 := Aside0.mk hl590_2; clear hi590_2 hl590_2; replace p590 := eq_true p590; replace q590 := eq_true q590; have p591 : 0 ≤ (x7_1 : Int) := of_decide_eq_true (by assumption); have q591 : x7_1 < (l1.length : Int) := of_decide_eq_true (by assumption); obtain ⟨ad591, A591_2, c591_2, e591, hx591_0, hx591_1, hx591_2, hl591_2, hi591_2⟩ := at_T39 HR1.out x7_1 p591 q591; have hw591_2 := hx591_2; have hw591_1 := hx591_1; have hw591_0 := hx591_0; obtain rfl : ad590 = ad591 := (by injection e591); replace hx591_0 := (HB.out.cell (World.block_lt_of_cell? w _ hx591_0)).trans hx591_0; replace hx591_1 := (HB.out.cell (World.block_lt_of_cell? w _ hx591_1)).trans hx591_1; replace hx591_2 := (HB.out.cell (World.block_lt_of_cell? w _ hx591_2)).trans hx591_2; have HR591_2 := Aside0.mk hi591_2; have HC591_2 := Aside0.mk hl591_2; clear hi591_2 hl591_2; replace p591 := eq_true p591; replace q591 := eq_true q591; have ea_ := Option.some.inj (hx590_2.symm.trans hx591_2); (injection ea_ with ea_ en_ ec_); subst ea_; subst ec_; clear en_; refine start_ (n := 14) (S := fun w' => w'.cell? (ad590.add ((x7_1).toNat * 3)) = some (.int .i64 ((rd_T39 l1 x7_1).f0)) ∧ w'.cell? ⟨(ad590.add ((x7_1).toNat * 3)).block, (ad590.add ((x7_1).toNat * 3)).off + 1, none⟩ = some (.int .i64 ((rd_T39 l1 x7_1).f1)) ∧ w'.cell? ⟨(ad590.add ((x7_1).toNat * 3)).block, (ad590.add ((x7_1).toNat * 3)).off + 2, none⟩ = some (.slice A590_2 ((rd_T39 l1 x7_1).f2).length c590_2) ∧ w'.cell? (ad590.add ((x7_1).toNat * 3)) = some (.int .i64 ((rd_T39 l1 x7_1).f0)) ∧ w'.cell? ⟨(ad590.add ((x7_1).toNat * 3)).block, (ad590.add ((x7_1).toNat * 3)).off + 1, none⟩ = some (.int .i64 ((rd_T39 l1 x7_1).f1)) ∧ w'.cell? ⟨(ad590.add ((x7_1).toNat * 3)).block, (ad590.add ((x7_1).toNat * 3)).off + 2, none⟩ = some (.slice A590_2 ((rd_T39 l1 x7_1).f2).length c590_2)) (ds := []) #[f_, f_, f_, f_, f_, f_, f_, f_, f_, f_, f_, f_, f_, f_] (by kernel_rfl) rfl rfl ⟨((HB.out.cell (World.block_lt_of_cell? w _ hw590_0)).trans hw590_0), ((HB.out.cell (World.block_lt_of_cell? w _ hw590_1)).trans hw590_1), ((HB.out.cell (World.block_lt_of_cell? w _ hw590_2)).trans hw590_2), ((HB.out.cell (World.block_lt_of_cell? w _ hw591_0)).trans hw591_0), ((HB.out.cell (World.block_lt_of_cell? w _ hw591_1)).trans hw591_1), ((HB.out.cell (World.block_lt_of_cell? w _ hw591_2)).trans hw591_2)⟩ (fun hHeld => ?_); refine with_tabW spec_l13Do.tab5 spec_l13Do.bits5 (fun HT_ HW_ => ?_)
           generalize wr.drew = w14 at HO_6 HB HR590_2 HR591_2 hx590_0 hx590_1 hx590_2 hx591_0 hx591_1 hx591_2 hHeld ⊢; refine pure_ (i := 0) (N := some 15) (v := ?_) (a' := ?_) #[t_, f_, f_, f_, f_, f_, f_, f_, f_, f_, f_, f_, f_, f_] rfl rfl (any_of HT_.out (by kernel_rfl)) (fun _ _ _ h => h) (Or.inl ⟨by rfl, ?_⟩) ?_ ?_
           rotate_left
           ·intro w'; go_simp
            with_reducible rfl
           rotate_left
           ·simp only [Act.put, List.setIfInBounds_toArray, List.set_cons_zero, List.set_cons_succ, i64_w, i32_w]
            rfl
           refine pure_ (i := 1) (N := some 16) (v := ?_) (a' := ?_) #[t_, t_, f_, f_, f_, f_, f_, f_, f_, f_, f_, f_, f_, f_] rfl rfl (any_of HT_.out (by kernel_rfl)) (fun _ _ _ h => h) (Or.inl ⟨by rfl, ?_⟩) ?_ ?_
           rotate_left
           ·intro w'; go_simp
            with_reducible rfl
           rotate_left
           ·simp only [Act.put, List.setIfInBounds_toArray, List.set_cons_zero, List.set_cons_succ, i64_w, i32_w]
            rfl
           refine pure_ (i := 2) (N := some 17) (v := ?_) (a' := ?_) #[t_, t_, t_, f_, f_, f_, f_, f_, f_, f_, f_, f_, f_, f_] rfl rfl (any_of HT_.out (by kernel_rfl)) (fun _ _ _ h => h) (Or.inl ⟨by rfl, ?_⟩) ?_ ?_
           rotate_left
           ·intro w'; go_simp
            with_reducible rfl
           rotate_left
           ·simp only [Act.put, List.setIfInBounds_toArray, List.set_cons_zero, List.set_cons_succ, i64_w, i32_w]
            rfl
           refine pure_ (i := 3) (N := some 18) (v := ?_) (a' := ?_) #[t_, t_, t_, t_, f_, f_, f_, f_, f_, f_, f_, f_, f_, f_] rfl rfl (any_of HT_.out (by kernel_rfl)) (fun _ _ _ h => h) (Or.inl ⟨by rfl, ?_⟩) ?_ ?_
           rotate_left
           ·intro w'; go_simp
            with_reducible rfl
           rotate_left
           ·simp only [Act.put, List.setIfInBounds_toArray, List.set_cons_zero, List.set_cons_succ, i64_w, i32_w]
            rfl
           refine pure_ (i := 5) (N := some 20) (v := ?_) (a' := ?_) #[t_, t_, t_, t_, f_, t_, f_, f_, f_, f_, f_, f_, f_, f_] rfl rfl (any_of HT_.out (by kernel_rfl)) (fun _ _ _ h => h) (Or.inl ⟨by rfl, ?_⟩) ?_ ?_
           rotate_left
           ·intro w'; go_simp
            with_reducible rfl
           rotate_left
           ·simp only [Act.put, List.setIfInBounds_toArray, List.set_cons_zero, List.set_cons_succ, i64_w, i32_w]
            rfl
           refine pure_ (i := 6) (N := some 21) (v := ?_) (a' := ?_) #[t_, t_, t_, t_, f_, t_, t_, f_, f_, f_, f_, f_, f_, f_] rfl rfl (any_of HT_.out (by kernel_rfl)) (fun _ _ _ h => h) (Or.inl ⟨by rfl, ?_⟩) ?_ ?_
           rotate_left
           ·intro w'; go_simp
            with_reducible rfl
           rotate_left
           ·simp only [Act.put, List.setIfInBounds_toArray, List.set_cons_zero, List.set_cons_succ, i64_w, i32_w]
            rfl
           refine pure_ (i := 7) (N := some 22) (v := ?_) (a' := ?_) #[t_, t_, t_, t_, f_, t_, t_, t_, f_, f_, f_, f_, f_, f_] rfl rfl (any_of HT_.out (by kernel_rfl)) (fun _ _ _ h => h) (Or.inl ⟨by rfl, ?_⟩) ?_ ?_
           rotate_left
           ·intro w'; go_simp
            with_reducible rfl
           rotate_left
           ·simp only [Act.put, List.setIfInBounds_toArray, List.set_cons_zero, List.set_cons_succ, i64_w, i32_w]
            rfl
           refine pure_ (i := 8) (N := some 23) (v := ?_) (a' := ?_) #[t_, t_, t_, t_, f_, t_, t_, t_, t_, f_, f_, f_, f_, f_] rfl rfl (any_of HT_.out (by kernel_rfl)) (fun _ _ _ h => h) (Or.inl ⟨by rfl, ?_⟩) ?_ ?_
           rotate_left
           ·intro w'; go_simp
            with_reducible rfl
           rotate_left
           ·simp only [Act.put, List.setIfInBounds_toArray, List.set_cons_zero, List.set_cons_succ, i64_w, i32_w]
            rfl
           refine pure_ (i := 11) (N := some 26) (v := ?_) (a' := ?_) #[t_, t_, t_, t_, f_, t_, t_, t_, t_, f_, f_, t_, f_, f_] rfl rfl (any_of HT_.out (by kernel_rfl)) (fun _ _ _ h => h) (Or.inl ⟨by rfl, ?_⟩) ?_ ?_
           rotate_left
           ·intro w'; go_simp
            with_reducible rfl
           rotate_left
           ·simp only [Act.put, List.setIfInBounds_toArray, List.set_cons_zero, List.set_cons_succ, i64_w, i32_w]
            rfl
           refine pure_ (i := 12) (N := some 27) (v := ?_) (a' := ?_) #[t_, t_, t_, t_, f_, t_, t_, t_, t_, f_, f_, t_, t_, f_] rfl rfl (any_of HT_.out (by kernel_rfl)) (fun _ _ _ h => h) (Or.inl ⟨by rfl, ?_⟩) ?_ ?_
           rotate_left
           ·intro w'; go_simp
            with_reducible rfl
           rotate_left
           ·simp only [Act.put, List.setIfInBounds_toArray, List.set_cons_zero, List.set_cons_succ, i64_w, i32_w]
            rfl
           refine take_ (i := 4) (N := some 19) (v := ?_) (a' := ?_) #[t_, t_, t_, t_, t_, t_, t_, t_, t_, f_, f_, t_, t_, f_] rfl rfl (take_ofW HT_.out HW_.out (by kernel_rfl)) (fun _ _ _ h => h) (Or.inl ⟨by rfl, ?_⟩) hHeld ?_ ?_
           rotate_left
           ·rintro w' ⟨s0, s1, s2, s3, s4, s5⟩; go_simp
            with_reducible rfl
           rotate_left
           ·simp only [Act.put, List.setIfInBounds_toArray, List.set_cons_zero, List.set_cons_succ, i64_w, i32_w]
            rfl
           refine take_ (i := 9) (N := some 24) (v := ?_) (a' := ?_) #[t_, t_, t_, t_, t_, t_, t_, t_, t_, t_, f_, t_, t_, f_] rfl rfl (take_ofW HT_.out HW_.out (by kernel_rfl)) (fun _ _ _ h => h) (Or.inl ⟨by rfl, ?_⟩) hHeld ?_ ?_
           rotate_left
           ·rintro w' ⟨s0, s1, s2, s3, s4, s5⟩; go_simp
            with_reducible rfl
           rotate_left
           ·simp only [Act.put, List.setIfInBounds_toArray, List.set_cons_zero, List.set_cons_succ, i64_w, i32_w]
            rfl
           refine pure_ (i := 10) (N := some 25) (v := ?_) (a' := ?_) #[t_, t_, t_, t_, t_, t_, t_, t_, t_, t_, t_, t_, t_, f_] rfl rfl (any_of HT_.out (by kernel_rfl)) (fun _ _ _ h => h) (Or.inl ⟨by rfl, ?_⟩) ?_ ?_
           rotate_left
           ·intro w'; go_simp
            with_reducible rfl
           rotate_left
           ·simp only [Act.put, List.setIfInBounds_toArray, List.set_cons_zero, List.set_cons_succ, i64_w, i32_w]
            rfl
           refine pure_ (i := 13) (N := some 28) (v := ?_) (a' := ?_) #[t_, t_, t_, t_, t_, t_, t_, t_, t_, t_, t_, t_, t_, t_] rfl rfl (any_of HT_.out (by kernel_rfl)) (fun _ _ _ h => h) (Or.inl ⟨by rfl, ?_⟩) ?_ ?_
           rotate_left
           ·intro w'; go_simp
            with_reducible rfl
           rotate_left
           ·simp only [Act.put, List.setIfInBounds_toArray, List.set_cons_zero, List.set_cons_succ, i64_w, i32_w]
            rfl
           refine done_ (done_of HT_.out (by kernel_rfl)) ?_; (try go_wp2); have n0_ := Aside0.mk (Kd.R_drew HO_6.out); have n1_ := Aside0.mk (below_drew1 HB.out); clear HO_6; clear HB; have HO_6 := n0_; have HB := n1_; clear n0_ n1_; have p592 : 0 ≤ (x7_1 : Int) := of_decide_eq_true (by assumption); have q592 : x7_1 < (l1.length : Int) := of_decide_eq_true (by assumption); obtain ⟨ad592, A592_2, c592_2, e592, hx592_0, hx592_1, hx592_2, hl592_2, hi592_2⟩ := at_T39 HR1.out x7_1 p592 q592; have hw592_2 := hx592_2; have hw592_1 := hx592_1; have hw592_0 := hx592_0; obtain rfl : ad590 = ad592 := (by injection e592); replace hx592_0 := (HB.out.cell (World.block_lt_of_cell? w _ hx592_0)).trans hx592_0; replace hx592_1 := (HB.out.cell (World.block_lt_of_cell? w _ hx592_1)).trans hx592_1; replace hx592_2 := (HB.out.cell (World.block_lt_of_cell? w _ hx592_2)).trans hx592_2; have HR592_2 := Aside0.mk hi592_2; have HC592_2 := Aside0.mk hl592_2; clear hi592_2 hl592_2; replace p592 := eq_true p592; replace q592 := eq_true q592; have p593 : 0 ≤ (x7_1 : Int) := of_decide_eq_true (by assumption); have q593 : x7_1 < (l1.length : Int) := of_decide_eq_true (by assumption); obtain ⟨ad593, A593_2, c593_2, e593, hx593_0, hx593_1, hx593_2, hl593_2, hi593_2⟩ := at_T39 HR1.out x7_1 p593 q593; have hw593_2 := hx593_2; have hw593_1 := hx593_1; have hw593_0 := hx593_0; obtain rfl : ad590 = ad593 := (by injection e593); replace hx593_0 := (HB.out.cell (World.block_lt_of_cell? w _ hx593_0)).trans hx593_0; replace hx593_1 := (HB.out.cell (World.block_lt_of_cell? w _ hx593_1)).trans hx593_1; replace hx593_2 := (HB.out.cell (World.block_lt_of_cell? w _ hx593_2)).trans hx593_2; have HR593_2 := Aside0.mk hi593_2; have HC593_2 := Aside0.mk hl593_2; clear hi593_2 hl593_2; replace p593 := eq_true p593; replace q593 := eq_true q593; have ea_ := Option.some.inj (hx592_2.symm.trans hx593_2); (injection ea_ with ea_ en_ ec_); subst ea_; subst ec_; clear en_; have p594 : 0 ≤ (x7_1 : Int) := of_decide_eq_true (by assumption); have q594 : x7_1 < (l1.length : Int) := of_decide_eq_true (by assumption); obtain ⟨ad594, A594_2, c594_2, e594, hx594_0, hx594_1, hx594_2, hl594_2, hi594_2⟩ := at_T39 HR1.out x7_1 p594 q594; have hw594_2 := hx594_2; have hw594_1 := hx594_1; have hw594_0 := hx594_0; obtain rfl : ad590 = ad594 := (by injection e594); replace hx594_0 := (HB.out.cell (World.block_lt_of_cell? w _ hx594_0)).trans hx594_0; replace hx594_1 := (HB.out.cell (World.block_lt_of_cell? w _ hx594_1)).trans hx594_1; replace hx594_2 := (HB.out.cell (World.block_lt_of_cell? w _ hx594_2)).trans hx594_2; have HR594_2 := Aside0.mk hi594_2; have HC594_2 := Aside0.mk hl594_2; clear hi594_2 hl594_2; replace p594 := eq_true p594; replace q594 := eq_true q594; have ea_ := Option.some.inj (hx592_2.symm.trans hx594_2); (injection ea_ with ea_ en_ ec_); subst ea_; subst ec_; clear en_; obtain ⟨i016, hi016, _, hsz16, _⟩ := info_parts info9; obtain ⟨A16, hcut16, hA16, hC16⟩ := print_mid_of (P := Try.prog) Value.string (⟨#[]⟩ : ByteArray) 30 9 .i64 .i64 Try.underlying30 hi016 hsz16 A0 c0 l0 ((rd_T39 l1 x7_1).f0) (wrap64 (((rd_T39 l1 x7_1).f0) + ((rd_T39 l1 x7_1).f1))) (of_decide_eq_true (by assumption)) (by first | omega | exact of_decide_eq_true (by assumption)) (of_decide_eq_true (by assumption)) HC0.out
           have HR595 := Aside0.mk (Kd.C_of_reads (h1 := fun _ => rfl) (hA16 _ (Kd.reads_of_C HR0.out))); have HC595 := Aside0.mk hC16; clear hA16 hC16 hi016 hsz16; refine start_ (n := 21) (S := fun w' => w'.cell? (ad590.add ((x7_1).toNat * 3)) = some (.int .i64 ((rd_T39 l1 x7_1).f0)) ∧ w'.cell? ⟨(ad590.add ((x7_1).toNat * 3)).block, (ad590.add ((x7_1).toNat * 3)).off + 1, none⟩ = some (.int .i64 ((rd_T39 l1 x7_1).f1)) ∧ w'.cell? ⟨(ad590.add ((x7_1).toNat * 3)).block, (ad590.add ((x7_1).toNat * 3)).off + 2, none⟩ = some (.slice A592_2 ((rd_T39 l1 x7_1).f2).length c592_2) ∧ w'.cell? (ad590.add ((x7_1).toNat * 3)) = some (.int .i64 ((rd_T39 l1 x7_1).f0)) ∧ w'.cell? ⟨(ad590.add ((x7_1).toNat * 3)).block, (ad590.add ((x7_1).toNat * 3)).off + 1, none⟩ = some (.int .i64 ((rd_T39 l1 x7_1).f1)) ∧ w'.cell? ⟨(ad590.add ((x7_1).toNat * 3)).block, (ad590.add ((x7_1).toNat * 3)).off + 2, none⟩ = some (.slice A592_2 ((rd_T39 l1 x7_1).f2).length c592_2) ∧ w'.cell? (ad590.add ((x7_1).toNat * 3)) = some (.int .i64 ((rd_T39 l1 x7_1).f0)) ∧ w'.cell? ⟨(ad590.add ((x7_1).toNat * 3)).block, (ad590.add ((x7_1).toNat * 3)).off + 1, none⟩ = some (.int .i64 ((rd_T39 l1 x7_1).f1)) ∧ w'.cell? ⟨(ad590.add ((x7_1).toNat * 3)).block, (ad590.add ((x7_1).toNat * 3)).off + 2, none⟩ = some (.slice A592_2 ((rd_T39 l1 x7_1).f2).length c592_2)) (ds := []) #[f_, f_, f_, f_, f_, f_, f_, f_, f_, f_, f_, f_, f_, f_, f_, f_, f_, f_, f_, f_, f_] (by kernel_rfl) rfl rfl ⟨((HB.out.cell (World.block_lt_of_cell? w _ hw592_0)).trans hw592_0), ((HB.out.cell (World.block_lt_of_cell? w _ hw592_1)).trans hw592_1), ((HB.out.cell (World.block_lt_of_cell? w _ hw592_2)).trans hw592_2), ((HB.out.cell (World.block_lt_of_cell? w _ hw593_0)).trans hw593_0), ((HB.out.cell (World.block_lt_of_cell? w _ hw593_1)).trans hw593_1), ((HB.out.cell (World.block_lt_of_cell? w _ hw593_2)).trans hw593_2), ((HB.out.cell (World.block_lt_of_cell? w _ hw594_0)).trans hw594_0), ((HB.out.cell (World.block_lt_of_cell? w _ hw594_1)).trans hw594_1), ((HB.out.cell (World.block_lt_of_cell? w _ hw594_2)).trans hw594_2)⟩ (fun hHeld => ?_); refine with_tabW spec_l13Do.tab7 spec_l13Do.bits7 (fun HT_ HW_ => ?_); generalize w14.drew = w15 at HO_6 HB HR592_2 HR593_2 HR594_2 HR595 hx592_0 hx592_1 hx592_2 hx593_0 hx593_1 hx593_2 hx594_0 hx594_1 hx594_2 hHeld ⊢; refine pure_ (i := 0) (N := some 29) (v := ?_) (a' := ?_) #[t_, f_, f_, f_, f_, f_, f_, f_, f_, f_, f_, f_, f_, f_, f_, f_, f_, f_, f_, f_, f_] rfl rfl (any_of HT_.out (by kernel_rfl)) (fun _ _ _ h => h) (Or.inl ⟨by rfl, ?_⟩) ?_ ?_
           rotate_left
           ·intro w'; go_simp
            with_reducible rfl
           rotate_left
           ·simp only [Act.put, List.setIfInBounds_toArray, List.set_cons_zero, List.set_cons_succ, i64_w, i32_w]
            rfl
           refine pure_ (i := 1) (N := some 30) (v := ?_) (a' := ?_) #[t_, t_, f_, f_, f_, f_, f_, f_, f_, f_, f_, f_, f_, f_, f_, f_, f_, f_, f_, f_, f_] rfl rfl (any_of HT_.out (by kernel_rfl)) (fun _ _ _ h => h) (Or.inl ⟨by rfl, ?_⟩) ?_ ?_
           rotate_left
           ·intro w'; go_simp
            with_reducible rfl
           rotate_left
           ·simp only [Act.put, List.setIfInBounds_toArray, List.set_cons_zero, List.set_cons_succ, i64_w, i32_w]
            rfl
           refine pure_ (i := 2) (N := some 31) (v := ?_) (a' := ?_) #[t_, t_, t_, f_, f_, f_, f_, f_, f_, f_, f_, f_, f_, f_, f_, f_, f_, f_, f_, f_, f_] rfl rfl (any_of HT_.out (by kernel_rfl)) (fun _ _ _ h => h) (Or.inl ⟨by rfl, ?_⟩) ?_ ?_
           rotate_left
           ·intro w'; go_simp
            with_reducible rfl
           rotate_left
           ·simp only [Act.put, List.setIfInBounds_toArray, List.set_cons_zero, List.set_cons_succ, i64_w, i32_w]
            rfl
           refine pure_ (i := 3) (N := some 32) (v := ?_) (a' := ?_) #[t_, t_, t_, t_, f_, f_, f_, f_, f_, f_, f_, f_, f_, f_, f_, f_, f_, f_, f_, f_, f_] rfl rfl (any_of HT_.out (by kernel_rfl)) (fun _ _ _ h => h) (Or.inl ⟨by rfl, ?_⟩) ?_ ?_
           rotate_left
           ·intro w'; go_simp
            with_reducible rfl
           rotate_left
           ·simp only [Act.put, List.setIfInBounds_toArray, List.set_cons_zero, List.set_cons_succ, i64_w, i32_w]
            rfl
           refine pure_ (i := 4) (N := some 33) (v := ?_) (a' := ?_) #[t_, t_, t_, t_, t_, f_, f_, f_, f_, f_, f_, f_, f_, f_, f_, f_, f_, f_, f_, f_, f_] rfl rfl (any_of HT_.out (by kernel_rfl)) (fun _ _ _ h => h) (Or.inl ⟨by rfl, ?_⟩) ?_ ?_
           rotate_left
           ·intro w'; go_simp
            with_reducible rfl
           rotate_left
           ·simp only [Act.put, List.setIfInBounds_toArray, List.set_cons_zero, List.set_cons_succ, i64_w, i32_w]
            rfl
           refine pure_ (i := 5) (N := some 34) (v := ?_) (a' := ?_) #[t_, t_, t_, t_, t_, t_, f_, f_, f_, f_, f_, f_, f_, f_, f_, f_, f_, f_, f_, f_, f_] rfl rfl (any_of HT_.out (by kernel_rfl)) (fun _ _ _ h => h) (Or.inl ⟨by rfl, ?_⟩) ?_ ?_
           rotate_left
           ·intro w'; go_simp
            with_reducible rfl
           rotate_left
           ·simp only [Act.put, List.setIfInBounds_toArray, List.set_cons_zero, List.set_cons_succ, i64_w, i32_w]
            rfl
           refine pure_ (i := 7) (N := some 36) (v := ?_) (a' := ?_) #[t_, t_, t_, t_, t_, t_, f_, t_, f_, f_, f_, f_, f_, f_, f_, f_, f_, f_, f_, f_, f_] rfl rfl (any_of HT_.out (by kernel_rfl)) (fun _ _ _ h => h) (Or.inl ⟨by rfl, ?_⟩) ?_ ?_
           rotate_left
           ·intro w'; go_simp
            with_reducible rfl
           rotate_left
           ·simp only [Act.put, List.setIfInBounds_toArray, List.set_cons_zero, List.set_cons_succ, i64_w, i32_w]
            rfl
           refine pure_ (i := 8) (N := some 37) (v := ?_) (a' := ?_) #[t_, t_, t_, t_, t_, t_, f_, t_, t_, f_, f_, f_, f_, f_, f_, f_, f_, f_, f_, f_, f_] rfl rfl (any_of HT_.out (by kernel_rfl)) (fun _ _ _ h => h) (Or.inl ⟨by rfl, ?_⟩) ?_ ?_
           rotate_left
           ·intro w'; go_simp
            with_reducible rfl
           rotate_left
           ·simp only [Act.put, List.setIfInBounds_toArray, List.set_cons_zero, List.set_cons_succ, i64_w, i32_w]
            rfl
           refine pure_ (i := 9) (N := some 38) (v := ?_) (a' := ?_) #[t_, t_, t_, t_, t_, t_, f_, t_, t_, t_, f_, f_, f_, f_, f_, f_, f_, f_, f_, f_, f_] rfl rfl (any_of HT_.out (by kernel_rfl)) (fun _ _ _ h => h) (Or.inl ⟨by rfl, ?_⟩) ?_ ?_
           rotate_left
           ·intro w'; go_simp
            with_reducible rfl
           rotate_left
           ·simp only [Act.put, List.setIfInBounds_toArray, List.set_cons_zero, List.set_cons_succ, i64_w, i32_w]
            rfl
           refine pure_ (i := 10) (N := some 39) (v := ?_) (a' := ?_) #[t_, t_, t_, t_, t_, t_, f_, t_, t_, t_, t_, f_, f_, f_, f_, f_, f_, f_, f_, f_, f_] rfl rfl (any_of HT_.out (by kernel_rfl)) (fun _ _ _ h => h) (Or.inl ⟨by rfl, ?_⟩) ?_ ?_
           rotate_left
           ·intro w'; go_simp
            with_reducible rfl
           rotate_left
           ·simp only [Act.put, List.setIfInBounds_toArray, List.set_cons_zero, List.set_cons_succ, i64_w, i32_w]
            rfl
           refine pure_ (i := 12) (N := some 41) (v := ?_) (a' := ?_) #[t_, t_, t_, t_, t_, t_, f_, t_, t_, t_, t_, f_, t_, f_, f_, f_, f_, f_, f_, f_, f_] rfl rfl (any_of HT_.out (by kernel_rfl)) (fun _ _ _ h => h) (Or.inl ⟨by rfl, ?_⟩) ?_ ?_
           rotate_left
           ·intro w'; go_simp
            with_reducible rfl
           rotate_left
           ·simp only [Act.put, List.setIfInBounds_toArray, List.set_cons_zero, List.set_cons_succ, i64_w, i32_w]
            rfl
           refine pure_ (i := 13) (N := some 42) (v := ?_) (a' := ?_) #[t_, t_, t_, t_, t_, t_, f_, t_, t_, t_, t_, f_, t_, t_, f_, f_, f_, f_, f_, f_, f_] rfl rfl (any_of HT_.out (by kernel_rfl)) (fun _ _ _ h => h) (Or.inl ⟨by rfl, ?_⟩) ?_ ?_
           rotate_left
           ·intro w'; go_simp
            with_reducible rfl
           rotate_left
           ·simp only [Act.put, List.setIfInBounds_toArray, List.set_cons_zero, List.set_cons_succ, i64_w, i32_w]
            rfl
           refine pure_ (i := 14) (N := some 43) (v := ?_) (a' := ?_) #[t_, t_, t_, t_, t_, t_, f_, t_, t_, t_, t_, f_, t_, t_, t_, f_, f_, f_, f_, f_, f_] rfl rfl (any_of HT_.out (by kernel_rfl)) (fun _ _ _ h => h) (Or.inl ⟨by rfl, ?_⟩) ?_ ?_
           rotate_left
           ·intro w'; go_simp
            with_reducible rfl
           rotate_left
           ·simp only [Act.put, List.setIfInBounds_toArray, List.set_cons_zero, List.set_cons_succ, i64_w, i32_w]
            rfl
           refine pure_ (i := 15) (N := some 44) (v := ?_) (a' := ?_) #[t_, t_, t_, t_, t_, t_, f_, t_, t_, t_, t_, f_, t_, t_, t_, t_, f_, f_, f_, f_, f_] rfl rfl (any_of HT_.out (by kernel_rfl)) (fun _ _ _ h => h) (Or.inl ⟨by rfl, ?_⟩) ?_ ?_
           rotate_left
           ·intro w'; go_simp
            with_reducible rfl
           rotate_left
           ·simp only [Act.put, List.setIfInBounds_toArray, List.set_cons_zero, List.set_cons_succ, i64_w, i32_w]
            rfl
           refine take_ (i := 6) (N := some 35) (v := ?_) (a' := ?_) #[t_, t_, t_, t_, t_, t_, t_, t_, t_, t_, t_, f_, t_, t_, t_, t_, f_, f_, f_, f_, f_] rfl rfl (take_ofW HT_.out HW_.out (by kernel_rfl)) (fun _ _ _ h => h) (Or.inl ⟨by rfl, ?_⟩) hHeld ?_ ?_
           rotate_left
           ·rintro w' ⟨s0, s1, s2, s3, s4, s5, s6, s7, s8⟩; go_simp
            with_reducible rfl
           rotate_left
           ·simp only [Act.put, List.setIfInBounds_toArray, List.set_cons_zero, List.set_cons_succ, i64_w, i32_w]
            rfl
           refine take_ (i := 11) (N := some 40) (v := ?_) (a' := ?_) #[t_, t_, t_, t_, t_, t_, t_, t_, t_, t_, t_, t_, t_, t_, t_, t_, f_, f_, f_, f_, f_] rfl rfl (take_ofW HT_.out HW_.out (by kernel_rfl)) (fun _ _ _ h => h) (Or.inl ⟨by rfl, ?_⟩) hHeld ?_ ?_
           rotate_left
           ·rintro w' ⟨s0, s1, s2, s3, s4, s5, s6, s7, s8⟩; go_simp
            with_reducible rfl
           rotate_left
           ·simp only [Act.put, List.setIfInBounds_toArray, List.set_cons_zero, List.set_cons_succ, i64_w, i32_w]
            rfl
           refine take_ (i := 16) (N := some 45) (v := ?_) (a' := ?_) #[t_, t_, t_, t_, t_, t_, t_, t_, t_, t_, t_, t_, t_, t_, t_, t_, t_, f_, f_, f_, f_] rfl rfl (take_ofW HT_.out HW_.out (by kernel_rfl)) (fun _ _ _ h => h) (Or.inl ⟨by rfl, ?_⟩) hHeld ?_ ?_
           rotate_left
           ·rintro w' ⟨s0, s1, s2, s3, s4, s5, s6, s7, s8⟩; go_simp
            with_reducible rfl
           rotate_left
           ·simp only [Act.put, List.setIfInBounds_toArray, List.set_cons_zero, List.set_cons_succ, i64_w, i32_w]
            rfl
           refine pure_ (i := 17) (N := some 46) (v := ?_) (a' := ?_) #[t_, t_, t_, t_, t_, t_, t_, t_, t_, t_, t_, t_, t_, t_, t_, t_, t_, t_, f_, f_, f_] rfl rfl (any_of HT_.out (by kernel_rfl)) (fun _ _ _ h => h) (Or.inl ⟨by rfl, ?_⟩) ?_ ?_
           rotate_left
           ·intro w'; go_simp
            with_reducible rfl
           rotate_left
           ·simp only [Act.put, List.setIfInBounds_toArray, List.set_cons_zero, List.set_cons_succ, i64_w, i32_w]
            rfl
           refine pure_ (i := 18) (N := some 47) (v := ?_) (a' := ?_) #[t_, t_, t_, t_, t_, t_, t_, t_, t_, t_, t_, t_, t_, t_, t_, t_, t_, t_, t_, f_, f_] rfl rfl (any_of HT_.out (by kernel_rfl)) (fun _ _ _ h => h) (Or.inl ⟨by rfl, ?_⟩) ?_ ?_
           rotate_left
           ·intro w'; go_simp
            with_reducible rfl
           rotate_left
           ·simp only [Act.put, List.setIfInBounds_toArray, List.set_cons_zero, List.set_cons_succ, i64_w, i32_w]
            rfl
           refine one_ (i := 19) (N := some 48) #[t_, t_, t_, t_, t_, t_, t_, t_, t_, t_, t_, t_, t_, t_, t_, t_, t_, t_, t_, t_, f_] rfl rfl (one_of HT_.out (by kernel_rfl)) (by decide) (fun K hK => ?_); refine Kd.R_append_rows_step Kd.string (w0 := w) w.heap.size (by rfl) (.tmp 29) (.tmp 47) 30 9 (.string ⟨#[]⟩) 16 rfl Try.underlying30 info9 rfl (by decide) (by omega) u6 x6_1 ((l0.take ((wrap64 (((rd_T39 l1 x7_1).f0) + ((rd_T39 l1 x7_1).f1))) : Int).toNat).drop (((rd_T39 l1 x7_1).f0) : Int).toNat) _ _ _ (fun _ => True) (fun _ => False) rfl rfl ?aO ?aR (fun _ _ h => h) (fun _ h => h.elim) ?aF ?aB ?aS ?aL ?_
           (case aR => first | (rw [← show ((l0.take ((wrap64 (((rd_T39 l1 x7_1).f0) + ((rd_T39 l1 x7_1).f1))) : Int).toNat).drop (((rd_T39 l1 x7_1).f0) : Int).toNat).length = ((wrap64 (((rd_T39 l1 x7_1).f0) + ((rd_T39 l1 x7_1).f1))).toNat - ((rd_T39 l1 x7_1).f0).toNat) from (by rw [List.length_drop, List.length_take]; have h_ : ((wrap64 (((rd_T39 l1 x7_1).f0) + ((rd_T39 l1 x7_1).f1))) : Int) ≤ (l0.length : Int) := of_decide_eq_true (by assumption); omega)]; repeat (first | exact (Kd.C_below HR595.out HB.out) | (with_reducible refine Kd.C_alloc ?_ _) | (with_reducible refine Kd.C_drewN ?_ _) | (with_reducible refine Kd.C_drew ?_))) | (repeat (first | exact (Kd.C_below HR595.out HB.out) | (with_reducible refine Kd.C_alloc ?_ _) | (with_reducible refine Kd.C_drewN ?_ _) | (with_reducible refine Kd.C_drew ?_))))
           (case aB => exact (by repeat (first | (with_reducible first | exact HB.out | apply below_alloc | apply pw_below_drewN | apply below_drew1) | exact HB.out)))
           (case aF => exact (fun _ _ => trivial))
           (case aO => exact (by (with_reducible repeat (first | apply Kd.R_alloc | apply Kd.R_drewN | apply Kd.R_drew)); exact HO_6.out))
           (case aS => exact (below_size (by repeat (first | (with_reducible first | exact HB.out | apply below_alloc | apply pw_below_drewN | apply below_drew1) | exact HB.out))))
           (case aL => have := LMc12.out; have hlx_ := (show ((l0.take ((wrap64 (((rd_T39 l1 x7_1).f0) + ((rd_T39 l1 x7_1).f1))) : Int).toNat).drop (((rd_T39 l1 x7_1).f0) : Int).toNat).length = ((wrap64 (((rd_T39 l1 x7_1).f0) + ((rd_T39 l1 x7_1).f1))).toNat - ((rd_T39 l1 x7_1).f0).toNat) from (by rw [List.length_drop, List.length_take]; have h_ : ((wrap64 (((rd_T39 l1 x7_1).f0) + ((rd_T39 l1 x7_1).f1))) : Int) ≤ (l0.length : Int) := of_decide_eq_true (by assumption); omega)); omega)
           intro v597 w17 ho hb hg hat; rw [← Ny596.out] at ho; have n0_ := Aside0.mk (hb); have n1_ := Aside0.mk (ho); clear HB; clear HO_6; have HB := n0_; have HO598 := n1_; clear n0_ n1_; clear ho hb hg hat; refine hK.out _ _ ⟨((HB.out.cell (World.block_lt_of_cell? w _ hw592_0)).trans hw592_0), ((HB.out.cell (World.block_lt_of_cell? w _ hw592_1)).trans hw592_1), ((HB.out.cell (World.block_lt_of_cell? w _ hw592_2)).trans hw592_2), ((HB.out.cell (World.block_lt_of_cell? w _ hw593_0)).trans hw593_0), ((HB.out.cell (World.block_lt_of_cell? w _ hw593_1)).trans hw593_1), ((HB.out.cell (World.block_lt_of_cell? w _ hw593_2)).trans hw593_2), ((HB.out.cell (World.block_lt_of_cell? w _ hw594_0)).trans hw594_0), ((HB.out.cell (World.block_lt_of_cell? w _ hw594_1)).trans hw594_1), ((HB.out.cell (World.block_lt_of_cell? w _ hw594_2)).trans hw594_2)⟩ (fun hHeld => ?_); clear hK K; refine norm_ (a' := ?_) ?_ ?_
           rotate_left
           ·show Act.put _ (some 48) _ = _
            simp only [Act.put, List.setIfInBounds_toArray, List.set_cons_zero, List.set_cons_succ, i64_w, i32_w]
            rfl
           refine pure_ (i := 20) (N := some 6) (v := ?_) (a' := ?_) #[t_, t_, t_, t_, t_, t_, t_, t_, t_, t_, t_, t_, t_, t_, t_, t_, t_, t_, t_, t_, t_] rfl rfl (any_of HT_.out (by kernel_rfl)) (fun _ _ _ h => h) (Or.inl ⟨by rfl, ?_⟩) ?_ ?_
           rotate_left
           ·intro w'; go_simp
            with_reducible rfl
           rotate_left
           ·simp only [Act.put, List.setIfInBounds_toArray, List.set_cons_zero, List.set_cons_succ, i64_w, i32_w]
            rfl
           refine done_ (done_of HT_.out (by kernel_rfl)) ?_; have p599 : 0 ≤ (x7_1 : Int) := of_decide_eq_true (by assumption); have q599 : x7_1 < (l1.length : Int) := of_decide_eq_true (by assumption); obtain ⟨ad599, A599_2, c599_2, e599, hx599_0, hx599_1, hx599_2, hl599_2, hi599_2⟩ := at_T39 HR1.out x7_1 p599 q599; obtain rfl : ad590 = ad599 := (by injection e599)
           (try (have ea_ := Option.some.inj (hw591_0.symm.trans hx599_0); injection ea_ with ea_ en_ ec_; subst ea_; subst ec_; clear en_))
           (try (have ea_ := Option.some.inj (hw592_0.symm.trans hx599_0); injection ea_ with ea_ en_ ec_; subst ea_; subst ec_; clear en_))
           (try (have ea_ := Option.some.inj (hw593_0.symm.trans hx599_0); injection ea_ with ea_ en_ ec_; subst ea_; subst ec_; clear en_))
           (try (have ea_ := Option.some.inj (hw594_0.symm.trans hx599_0); injection ea_ with ea_ en_ ec_; subst ea_; subst ec_; clear en_))
           replace hx599_0 := (HB.out.cell (World.block_lt_of_cell? w _ hx599_0)).trans hx599_0
           (try (have ea_ := Option.some.inj (hw591_1.symm.trans hx599_1); injection ea_ with ea_ en_ ec_; subst ea_; subst ec_; clear en_))
           (try (have ea_ := Option.some.inj (hw592_1.symm.trans hx599_1); injection ea_ with ea_ en_ ec_; subst ea_; subst ec_; clear en_))
           (try (have ea_ := Option.some.inj (hw593_1.symm.trans hx599_1); injection ea_ with ea_ en_ ec_; subst ea_; subst ec_; clear en_))
           (try (have ea_ := Option.some.inj (hw594_1.symm.trans hx599_1); injection ea_ with ea_ en_ ec_; subst ea_; subst ec_; clear en_))
           replace hx599_1 := (HB.out.cell (World.block_lt_of_cell? w _ hx599_1)).trans hx599_1
           (try (have ea_ := Option.some.inj (hw591_2.symm.trans hx599_2); injection ea_ with ea_ en_ ec_; subst ea_; subst ec_; clear en_))
           (try (have ea_ := Option.some.inj (hw592_2.symm.trans hx599_2); injection ea_ with ea_ en_ ec_; subst ea_; subst ec_; clear en_))
           (try (have ea_ := Option.some.inj (hw593_2.symm.trans hx599_2); injection ea_ with ea_ en_ ec_; subst ea_; subst ec_; clear en_))
           (try (have ea_ := Option.some.inj (hw594_2.symm.trans hx599_2); injection ea_ with ea_ en_ ec_; subst ea_; subst ec_; clear en_))
           replace hx599_2 := (HB.out.cell (World.block_lt_of_cell? w _ hx599_2)).trans hx599_2; have HR599_2 := Aside0.mk hi599_2; have HC599_2 := Aside0.mk hl599_2; clear hi599_2 hl599_2; replace p599 := eq_true p599; replace q599 := eq_true q599; (try go_wp2_with (first | ((with_reducible refine gate_builtin (b := .append) (xs := #[.tmp 49, .tmp 54]) rfl ?_); at_builtin; refine Kd.R_append_rows Kd.string (w0 := w) w.heap.size rfl (.tmp 49) (.tmp 54) 30 9 (.string ⟨#[]⟩) 16 rfl Try.underlying30 info9 rfl (by decide) (by omega) v597 y596 ((rd_T39 l1 x7_1).f2) _ _ _ (fun _ => True) (fun _ => False) rfl rfl ?aO ?aR (fun _ _ h => h) (fun _ h => h.elim) ?aF ?aB ?aS ?aL ?_; (case aR => repeat (first | exact (Kd.C_below HR599_2.out HB.out) | (with_reducible refine Kd.C_alloc ?_ _) | (with_reducible refine Kd.C_drewN ?_ _) | (with_reducible refine Kd.C_drew ?_))); (case aB => exact (by repeat (first | (with_reducible first | exact HB.out | apply below_alloc | apply pw_below_drewN | apply below_drew1) | exact HB.out))); (case aF => exact (fun _ _ => trivial)); (case aO => exact (by (with_reducible repeat (first | apply Kd.R_alloc | apply Kd.R_drewN | apply Kd.R_drew)); exact HO598.out)); (case aS => exact (below_size (by repeat (first | (with_reducible first | exact HB.out | apply below_alloc | apply pw_below_drewN | apply below_drew1) | exact HB.out)))); (case aL => have := LMc13.out; omega); intro v601 w18 ho hb hg hat; rw [← Ny600.out] at ho; have n0_ := Aside0.mk (hb); have n1_ := Aside0.mk (ho); clear HB; clear HO598; have HB := n0_; have HO602 := n1_; clear n0_ n1_; clear ho hb hg hat))); go_roundg k1
           case measure => have := HK1.out; omega
           case rel => exact ⟨(y600), (wrap64 (x7_1 + 1)), (by first | rfl | (simp; done) | (simp [*]; done)), H', ⟨by have := HK1.out; omega⟩, ⟨by (with_reducible repeat (first | apply Kd.R_alloc | apply Kd.R_drewN | apply Kd.R_drew)); exact HO602.out⟩, ⟨by repeat (first | (with_reducible first | exact HB.out | apply below_alloc | apply pw_below_drewN | apply below_drew1) | exact HB.out)⟩⟩
          ·rw [if_neg c13] at H; exact absurd H (by simp)
         ·rw [if_neg c12] at H; exact absurd H (by simp)
        ·rw [if_neg c11] at H; exact absurd H (by simp)
       ·rw [if_neg c10] at H; exact absurd H (by simp)
      ·rw [if_neg c9] at H; exact absurd H (by simp)
    ·rw [if_neg c6] at H; exact absurd H (by simp)
   ·rw [if_neg c5] at H; have c5b0 : decide (x7_1 < (l1.length : Int)) = false := decide_eq_false c5; clear c5; replace H := Option.bind_eq_some_iff.mp H; obtain ⟨t603, A190, H⟩ := H; replace H : (if t603 = true then (some (x6_1, true)) else (some (([] : List ByteArray), false))) = some (r1, r2) := H; have A19 := Aside0.mk A190; clear A190; by_cases c20 : t603 = true
    ·subst c20; (have H1 : (some (x6_1, true)) = some (r1, r2) := by rw [if_pos rfl] at H; exact H); clear H; have H := H1; clear H1; simp only [Option.some.injEq, Prod.mk.injEq] at H; obtain ⟨rfl, rfl⟩ := H; obtain ⟨Ao21, co21, eo21⟩ := Kd.R_slice HO_6.out; subst eo21; go_wp2_with (first | ((with_reducible refine gate_callee (f := 71) rfl ?_); refine goesL_ (some 57) rfl rfl Try.func71 (by kernel_rfl) rfl #[.slice Ao21 x6_1.length co21] rfl (by (try simp only [List.map_toArray, List.map_cons, List.map_nil]); first | done | rfl | (simp only [List.length_drop, List.length_take]; rfl)) ?_; (with_reducible refine (spec_l1Ok.calls k1 _ _ x6_1 true _ ?side1 ?side2 A19.out).mono ?_); (case side1 => repeat (first | exact (Kd.R_reads' HO_6.out).2.2 | (with_reducible refine Kd.C_alloc ?_ _) | (with_reducible refine Kd.C_drewN ?_ _) | (with_reducible refine Kd.C_drew ?_))); (case side2 => exact (Kd.R_reads' HO_6.out).2.1); rintro e w' ⟨rfl, ⟨nd, rfl⟩⟩; refine ⟨_, rfl, ?_⟩)); go_ret2; exact ⟨_, by first | rfl | (simp <;> rfl) | (simp [*] <;> rfl), by (with_reducible repeat (first | apply Kd.R_alloc | apply Kd.R_drewN | apply Kd.R_drew)); exact HO_6.out, by repeat (first | (with_reducible first | exact HB.out | apply below_alloc | apply pw_below_drewN | apply below_drew1) | exact HB.out)⟩
    ·replace c20 := Bool.eq_false_iff.mpr c20; subst c20; (have H1 : (some (([] : List ByteArray), false)) = some (r1, r2) := by rw [if_neg (show ¬ (false = true) by decide)] at H; exact H); clear H; have H := H1; clear H1; simp only [Option.some.injEq, Prod.mk.injEq] at H; obtain ⟨rfl, rfl⟩ := H; obtain ⟨Ao22, co22, eo22⟩ := Kd.R_slice HO_6.out; subst eo22; go_wp2_with (first | ((with_reducible refine gate_callee (f := 71) rfl ?_); refine goesL_ (some 57) rfl rfl Try.func71 (by kernel_rfl) rfl #[.slice Ao22 x6_1.length co22] rfl (by (try simp only [List.map_toArray, List.map_cons, List.map_nil]); first | done | rfl | (simp only [List.length_drop, List.length_take]; rfl)) ?_; (with_reducible refine (spec_l1Ok.calls k1 _ _ x6_1 false _ ?side1 ?side2 A19.out).mono ?_); (case side1 => repeat (first | exact (Kd.R_reads' HO_6.out).2.2 | (with_reducible refine Kd.C_alloc ?_ _) | (with_reducible refine Kd.C_drewN ?_ _) | (with_reducible refine Kd.C_drew ?_))); (case side2 => exact (Kd.R_reads' HO_6.out).2.1); rintro e w' ⟨rfl, ⟨nd, rfl⟩⟩; refine ⟨_, rfl, ?_⟩)); go_ret2; exact ⟨_, by first | rfl | (simp <;> rfl) | (simp [*] <;> rfl), by first | exact Kd.R_nil _ _ _ _ _ | exact Kd.N_nil _ _ _ _ _ | exact Kd.V_nil _ _ _ _ _ | exact Kd.Q_nil _ _ _ _ _ | exact Kd.S_nil _ _ _ _ _, by repeat (first | (with_reducible first | exact HB.out | apply below_alloc | apply pw_below_drewN | apply below_drew1) | exact HB.out)⟩
end Go.Proofs.Ytfnhjaiioojbkaa.Q
end
section
namespace Go.Proofs.Ytfnhjaiioojbkaa.Q
open Go.RowKit Go.Proofs.YtfnhjaiioojbkaaW.PrintWords Go.Proofs.YtfnhjaiioojbkaaW.PrintLast Go.Proofs.YtfnhjaiioojbkaaW.PrintMore
attribute [local go_sem] max2_int min2_int max_two min_two max_three min_three max_four min_four   -- for this text's walks alone
set_option linter.unusedVariables false
set_option linter.unusedSimpArgs false
def spec_l13Get.f : Nat → List (S53) → Int → Option (List ByteArray × Bool)
 | 0, _, _ => none
 | k + 1, l0, a1 => if 0 ≤ a1 then (if a1 < (l0.length : Int) then (if ((rd_T53 l0 a1).f0) ≥ 0 then ((spec_l13Get.f k l0 ((rd_T53 l0 a1).f0)).bind fun bt804 => (if bt804.2 = true then ((spec_l13Do.f k bt804.1 ((rd_T53 l0 a1).f1)).bind fun bt809 => (some (bt809.1, bt809.2))) else (some (([] : List ByteArray), false)))) else ((spec_l13Do.f k (([] : List ByteArray)) ((rd_T53 l0 a1).f1)).bind fun bt814 => (some (bt814.1, bt814.2)))) else (none)) else (none)
set_option maxHeartbeats 8000000 in
set_option maxRecDepth 100000 in
theorem spec_l13Get.calls (k : Nat) : ∀ (A0 : Option Addr) (c0 : Nat) (l0 : List (S53)) (a1 : Int) (r1 : List ByteArray) (r2 : Bool) (w : World) (hr0 : Kd.C k53 w A0 l0.length l0) (hc0 : l0.length ≤ c0) (h : spec_l13Get.f k l0 a1 = some (r1, r2)),
 Calls Try.prog 88 #[.slice A0 l0.length c0, .int .i64 a1] w fun e w' => ∃ v0_ : Value, e = .returned (.tuple #[v0_, .bool r2]) ∧ Kd.R Kd.string 9 w' w.heap.size (fun _ => True) v0_ r1 ∧ Below w.heap.size w w' := by
 induction k using Nat.strongRecOn with
 | _ k ih =>
 intro A0 c0 l0 a1 r1 r2 w hr0 hc0 h
 cases k with
 | zero => exact absurd h (by simp [spec_l13Get.f])
 | succ k =>
 simp only [spec_l13Get.f] at h; have HR0 := Aside0.mk hr0; have HC0 := Aside0.mk hc0; clear hr0 hc0; have HB := Aside0.mk (Below.refl w.heap.size w); have H : (if 0 ≤ a1 then (if a1 < (l0.length : Int) then (if ((rd_T53 l0 a1).f0) ≥ 0 then ((spec_l13Get.f k l0 ((rd_T53 l0 a1).f0)).bind fun bt804 => (if bt804.2 = true then ((spec_l13Do.f k bt804.1 ((rd_T53 l0 a1).f1)).bind fun bt809 => (some (bt809.1, bt809.2))) else (some (([] : List ByteArray), false)))) else ((spec_l13Do.f k (([] : List ByteArray)) ((rd_T53 l0 a1).f1)).bind fun bt814 => (some (bt814.1, bt814.2)))) else (none)) else (none)) = some (r1, r2) := h; clear h; obtain ⟨y799, hy799⟩ : ∃ y_ : List ByteArray, y_ = (([] : List ByteArray)) := ⟨_, rfl⟩; (replace H : (if 0 ≤ a1 then (if a1 < (l0.length : Int) then (if ((rd_T53 l0 a1).f0) ≥ 0 then ((spec_l13Get.f k l0 ((rd_T53 l0 a1).f0)).bind fun bt804 => (if bt804.2 = true then ((spec_l13Do.f k bt804.1 ((rd_T53 l0 a1).f1)).bind fun bt809 => (some (bt809.1, bt809.2))) else (some (([] : List ByteArray), false)))) else ((spec_l13Do.f k y799 ((rd_T53 l0 a1).f1)).bind fun bt814 => (some (bt814.1, bt814.2)))) else (none)) else (none)) = some (r1, r2) := by first | (rw [hy799]; with_reducible exact H) | (have H2_ := (Option.bind_some _ _).symm.trans H; rw [hy799]; with_reducible exact H2_) | (have H2_ := (Option.bind_some _ _).symm.trans H; with_reducible exact H2_) | with_reducible exact H | (rw [hy799]; exact H) | exact H); have Ny799 := Aside0.mk hy799; clear hy799; by_cases c3 : 0 ≤ a1
 ·rw [if_pos c3] at H; have c3b0 : decide (0 ≤ a1) = true := decide_eq_true c3; clear c3; by_cases c4 : a1 < (l0.length : Int)
  ·rw [if_pos c4] at H; have c4b0 : decide (a1 < (l0.length : Int)) = true := decide_eq_true c4; clear c4; by_cases c5 : ((rd_T53 l0 a1).f0) ≥ 0
   ·rw [if_pos c5] at H; have c5b0 : decide (0 ≤ ((rd_T53 l0 a1).f0)) = true := decide_eq_true c5; clear c5; replace H := Option.bind_eq_some_iff.mp H; obtain ⟨⟨t804, t805⟩, A60, H⟩ := H; replace H : (if t805 = true then ((spec_l13Do.f k t804 ((rd_T53 l0 a1).f1)).bind fun bt809 => (some (bt809.1, bt809.2))) else (some (([] : List ByteArray), false))) = some (r1, r2) := H; have A6 := Aside0.mk A60; clear A60; by_cases c7 : t805 = true
    ·subst c7; (have H1 : ((spec_l13Do.f k t804 ((rd_T53 l0 a1).f1)).bind fun bt809 => (some (bt809.1, bt809.2))) = some (r1, r2) := by rw [if_pos rfl] at H; exact H); clear H; have H := H1; clear H1; replace H := Option.bind_eq_some_iff.mp H; obtain ⟨⟨t809, t810⟩, A80, H⟩ := H; replace H : (some (t809, t810)) = some (r1, r2) := H; have A8 := Aside0.mk A80; clear A80; simp only [Option.some.injEq, Prod.mk.injEq] at H; obtain ⟨rfl, rfl⟩ := H; go_enter Try.func88, Try.ntmps88; go_wp2_with (first | ((with_reducible refine gate_dst (N := 9) rfl ?_); refine Kd.R_lit Kd.string _ 9 ?hg (N := 9) ?hd (xs := ([] : List ByteArray)) (inner := []) (ok := fun _ => True) (okp := fun _ => True) ?hr ?hp (fun _ hk => hk) trivial (Below.refl _ _) (Nat.le_refl _) (by simp) ?_; (case hd => rfl); (case hg => rfl); (case hr => first | (go_simp; done) | (go_simp; rfl)); (case hp => exact (Reps.none _ _)); intro v800 w9 ho10 hb hg_ hnew_; clear hg_ hnew_; (first | rw [← Ny799.out] at ho10 | (simp only [Int.reduceToNat] at ho10; rw [← Ny799.out] at ho10)); have n0_ := Aside0.mk (Kd.R_lower ho10 (below_size (by repeat (first | (with_reducible first | exact HB.out | apply below_alloc | apply pw_below_drewN | apply below_drew1) | exact HB.out)))); have n1_ := Aside0.mk (below_step (by repeat (first | (with_reducible first | exact HB.out | apply below_alloc | apply pw_below_drewN | apply below_drew1) | exact HB.out)) hb); clear HB; have HO801 := n0_; have HB := n1_; clear n0_ n1_; clear hb ho10; have p802 : 0 ≤ (a1 : Int) := of_decide_eq_true (by assumption); have q802 : a1 < (l0.length : Int) := of_decide_eq_true (by assumption); obtain ⟨ad802, A802_1, c802_1, e802, hx802_0, hx802_1, hl802_1, hi802_1⟩ := at_T53 HR0.out a1 p802 q802; cases e802; replace hx802_0 := (HB.out.cell (World.block_lt_of_cell? w _ hx802_0)).trans hx802_0; replace hx802_1 := (HB.out.cell (World.block_lt_of_cell? w _ hx802_1)).trans hx802_1; have HR802_1 := Aside0.mk hi802_1; have HC802_1 := Aside0.mk hl802_1; clear hi802_1 hl802_1; replace p802 := eq_true p802; replace q802 := eq_true q802; have p803 : 0 ≤ (a1 : Int) := of_decide_eq_true (by assumption); have q803 : a1 < (l0.length : Int) := of_decide_eq_true (by assumption); obtain ⟨ad803, A803_1, c803_1, e803, hx803_0, hx803_1, hl803_1, hi803_1⟩ := at_T53 HR0.out a1 p803 q803; obtain rfl : ad802 = ad803 := (by injection e803); replace hx803_0 := (HB.out.cell (World.block_lt_of_cell? w _ hx803_0)).trans hx803_0; replace hx803_1 := (HB.out.cell (World.block_lt_of_cell? w _ hx803_1)).trans hx803_1; have HR803_1 := Aside0.mk hi803_1; have HC803_1 := Aside0.mk hl803_1; clear hi803_1 hl803_1; replace p803 := eq_true p803; replace q803 := eq_true q803; have ea_ := Option.some.inj (hx802_1.symm.trans hx803_1); injection ea_ with ea_ en_ ec_; subst ea_; subst ec_; clear en_) | ((with_reducible refine gate_callee (f := 88) rfl ?_); refine goesL_ (some 23) rfl rfl Try.func88 (by kernel_rfl) rfl #[.slice (some ad802) l0.length c0, .int .i64 ((rd_T53 l0 a1).f0)] rfl (by (try simp only [List.map_toArray, List.map_cons, List.map_nil]); first | done | rfl | (simp only [List.length_drop, List.length_take]; rfl)) ?_; (with_reducible refine (ih k (by omega) _ _ l0 ((rd_T53 l0 a1).f0) t804 true _ ?side1 ?side2 A6.out).mono ?_); (case side1 => repeat (first | exact (Kd.C_below HR0.out HB.out) | (with_reducible refine Kd.C_alloc ?_ _) | (with_reducible refine Kd.C_drewN ?_ _) | (with_reducible refine Kd.C_drew ?_))); (case side2 => exact HC0.out); rintro e w11 ⟨v806, rfl, ho0, hb⟩; refine ⟨_, rfl, ?_⟩; have n0_ := Aside0.mk (Kd.R_elder' (by (with_reducible repeat (first | apply Kd.R_alloc | apply Kd.R_drewN | apply Kd.R_drew)); exact HO801.out) (Kd.R_base ho0) hb); have n1_ := Aside0.mk (Kd.R_lower (Kd.R_new' ho0 (Kd.R_lt (by (with_reducible repeat (first | apply Kd.R_alloc | apply Kd.R_drewN | apply Kd.R_drew)); exact HO801.out))) (below_size (by repeat (first | (with_reducible first | exact HB.out | apply below_alloc | apply pw_below_drewN | apply below_drew1) | exact HB.out)))); have n2_ := Aside0.mk (below_step (by repeat (first | (with_reducible first | exact HB.out | apply below_alloc | apply pw_below_drewN | apply below_drew1) | exact HB.out)) hb); clear HO801; clear HB; have HO801 := n0_; have HO807 := n1_; have HB := n2_; clear n0_ n1_ n2_; (try clear hb); (try clear hb2); (try clear hk); (try clear hi); (try clear ho0); have p808 : 0 ≤ (a1 : Int) := of_decide_eq_true (by assumption); have q808 : a1 < (l0.length : Int) := of_decide_eq_true (by assumption); obtain ⟨ad808, A808_1, c808_1, e808, hx808_0, hx808_1, hl808_1, hi808_1⟩ := at_T53 HR0.out a1 p808 q808; obtain rfl : ad802 = ad808 := (by injection e808); replace hx808_0 := (HB.out.cell (World.block_lt_of_cell? w _ hx808_0)).trans hx808_0; replace hx808_1 := (HB.out.cell (World.block_lt_of_cell? w _ hx808_1)).trans hx808_1; have HR808_1 := Aside0.mk hi808_1; have HC808_1 := Aside0.mk hl808_1; clear hi808_1 hl808_1; replace p808 := eq_true p808; replace q808 := eq_true q808; obtain ⟨Ao12, co12, eo12⟩ := Kd.R_slice HO807.out; subst eo12) | ((with_reducible refine gate_callee (f := 83) rfl ?_); refine goesL_ (some 35) rfl rfl Try.func83 (by kernel_rfl) rfl #[.slice Ao12 t804.length co12, .slice A808_1 ((rd_T53 l0 a1).f1).length c808_1] rfl (by (try simp only [List.map_toArray, List.map_cons, List.map_nil]); first | done | rfl | (simp only [List.length_drop, List.length_take]; rfl)) ?_; (with_reducible refine (spec_l13Do.calls k _ _ t804 _ _ ((rd_T53 l0 a1).f1) t809 t810 _ ?side1 ?side2 ?side3 ?side4 A8.out).mono ?_); (case side1 => repeat (first | exact (Kd.R_reads' HO807.out).2.2 | (with_reducible refine Kd.C_alloc ?_ _) | (with_reducible refine Kd.C_drewN ?_ _) | (with_reducible refine Kd.C_drew ?_))); (case side2 => exact (Kd.R_reads' HO807.out).2.1); (case side3 => repeat (first | exact (Kd.C_below HR808_1.out HB.out) | (with_reducible refine Kd.C_alloc ?_ _) | (with_reducible refine Kd.C_drewN ?_ _) | (with_reducible refine Kd.C_drew ?_))); (case side4 => exact HC808_1.out); rintro e w13 ⟨v811, rfl, ho0, hb⟩; refine ⟨_, rfl, ?_⟩; have n0_ := Aside0.mk (Kd.R_elder' (by (with_reducible repeat (first | apply Kd.R_alloc | apply Kd.R_drewN | apply Kd.R_drew)); exact HO801.out) (Kd.R_base ho0) hb); have n1_ := Aside0.mk (Kd.R_elder' (by (with_reducible repeat (first | apply Kd.R_alloc | apply Kd.R_drewN | apply Kd.R_drew)); exact HO807.out) (Kd.R_base ho0) hb); have n2_ := Aside0.mk (Kd.R_lower (Kd.R_new' (Kd.R_new' ho0 (Kd.R_lt (by (with_reducible repeat (first | apply Kd.R_alloc | apply Kd.R_drewN | apply Kd.R_drew)); exact HO801.out))) (Kd.R_lt (by (with_reducible repeat (first | apply Kd.R_alloc | apply Kd.R_drewN | apply Kd.R_drew)); exact HO807.out))) (below_size (by repeat (first | (with_reducible first | exact HB.out | apply below_alloc | apply pw_below_drewN | apply below_drew1) | exact HB.out)))); have n3_ := Aside0.mk (below_step (by repeat (first | (with_reducible first | exact HB.out | apply below_alloc | apply pw_below_drewN | apply below_drew1) | exact HB.out)) hb); clear HO801; clear HO807; clear HB; have HO801 := n0_; have HO807 := n1_; have HO812 := n2_; have HB := n3_; clear n0_ n1_ n2_ n3_; (try clear hb); (try clear hb2); (try clear hk); (try clear hi); (try clear ho0)))
     go_ret2; exact ⟨_, by first | rfl | (simp <;> rfl) | (simp [*] <;> rfl), by (with_reducible repeat (first | apply Kd.R_alloc | apply Kd.R_drewN | apply Kd.R_drew)); exact Kd.R_mono HO812.out (fun _ hk => trivial), by repeat (first | (with_reducible first | exact HB.out | apply below_alloc | apply pw_below_drewN | apply below_drew1) | exact HB.out)⟩
    ·replace c7 := Bool.eq_false_iff.mpr c7; subst c7; (have H1 : (some (([] : List ByteArray), false)) = some (r1, r2) := by rw [if_neg (show ¬ (false = true) by decide)] at H; exact H); clear H; have H := H1; clear H1; simp only [Option.some.injEq, Prod.mk.injEq] at H; obtain ⟨rfl, rfl⟩ := H; go_enter Try.func88, Try.ntmps88; go_wp2_with (first | ((with_reducible refine gate_dst (N := 9) rfl ?_); refine Kd.R_lit Kd.string _ 9 ?hg (N := 9) ?hd (xs := ([] : List ByteArray)) (inner := []) (ok := fun _ => True) (okp := fun _ => True) ?hr ?hp (fun _ hk => hk) trivial (Below.refl _ _) (Nat.le_refl _) (by simp) ?_; (case hd => rfl); (case hg => rfl); (case hr => first | (go_simp; done) | (go_simp; rfl)); (case hp => exact (Reps.none _ _)); intro v800 w14 ho15 hb hg_ hnew_; clear hg_ hnew_; (first | rw [← Ny799.out] at ho15 | (simp only [Int.reduceToNat] at ho15; rw [← Ny799.out] at ho15)); have n0_ := Aside0.mk (Kd.R_lower ho15 (below_size (by repeat (first | (with_reducible first | exact HB.out | apply below_alloc | apply pw_below_drewN | apply below_drew1) | exact HB.out)))); have n1_ := Aside0.mk (below_step (by repeat (first | (with_reducible first | exact HB.out | apply below_alloc | apply pw_below_drewN | apply below_drew1) | exact HB.out)) hb); clear HB; have HO801 := n0_; have HB := n1_; clear n0_ n1_; clear hb ho15; have p802 : 0 ≤ (a1 : Int) := of_decide_eq_true (by assumption); have q802 : a1 < (l0.length : Int) := of_decide_eq_true (by assumption); obtain ⟨ad802, A802_1, c802_1, e802, hx802_0, hx802_1, hl802_1, hi802_1⟩ := at_T53 HR0.out a1 p802 q802; cases e802; replace hx802_0 := (HB.out.cell (World.block_lt_of_cell? w _ hx802_0)).trans hx802_0; replace hx802_1 := (HB.out.cell (World.block_lt_of_cell? w _ hx802_1)).trans hx802_1; have HR802_1 := Aside0.mk hi802_1; have HC802_1 := Aside0.mk hl802_1; clear hi802_1 hl802_1; replace p802 := eq_true p802; replace q802 := eq_true q802; have p803 : 0 ≤ (a1 : Int) := of_decide_eq_true (by assumption); have q803 : a1 < (l0.length : Int) := of_decide_eq_true (by assumption); obtain ⟨ad803, A803_1, c803_1, e803, hx803_0, hx803_1, hl803_1, hi803_1⟩ := at_T53 HR0.out a1 p803 q803; obtain rfl : ad802 = ad803 := (by injection e803); replace hx803_0 := (HB.out.cell (World.block_lt_of_cell? w _ hx803_0)).trans hx803_0; replace hx803_1 := (HB.out.cell (World.block_lt_of_cell? w _ hx803_1)).trans hx803_1; have HR803_1 := Aside0.mk hi803_1; have HC803_1 := Aside0.mk hl803_1; clear hi803_1 hl803_1; replace p803 := eq_true p803; replace q803 := eq_true q803; have ea_ := Option.some.inj (hx802_1.symm.trans hx803_1); injection ea_ with ea_ en_ ec_; subst ea_; subst ec_; clear en_) | ((with_reducible refine gate_callee (f := 88) rfl ?_); refine goesL_ (some 23) rfl rfl Try.func88 (by kernel_rfl) rfl #[.slice (some ad802) l0.length c0, .int .i64 ((rd_T53 l0 a1).f0)] rfl (by (try simp only [List.map_toArray, List.map_cons, List.map_nil]); first | done | rfl | (simp only [List.length_drop, List.length_take]; rfl)) ?_; (with_reducible refine (ih k (by omega) _ _ l0 ((rd_T53 l0 a1).f0) t804 false _ ?side1 ?side2 A6.out).mono ?_); (case side1 => repeat (first | exact (Kd.C_below HR0.out HB.out) | (with_reducible refine Kd.C_alloc ?_ _) | (with_reducible refine Kd.C_drewN ?_ _) | (with_reducible refine Kd.C_drew ?_))); (case side2 => exact HC0.out); rintro e w16 ⟨v806, rfl, ho0, hb⟩; refine ⟨_, rfl, ?_⟩; have n0_ := Aside0.mk (Kd.R_elder' (by (with_reducible repeat (first | apply Kd.R_alloc | apply Kd.R_drewN | apply Kd.R_drew)); exact HO801.out) (Kd.R_base ho0) hb); have n1_ := Aside0.mk (Kd.R_lower (Kd.R_new' ho0 (Kd.R_lt (by (with_reducible repeat (first | apply Kd.R_alloc | apply Kd.R_drewN | apply Kd.R_drew)); exact HO801.out))) (below_size (by repeat (first | (with_reducible first | exact HB.out | apply below_alloc | apply pw_below_drewN | apply below_drew1) | exact HB.out)))); have n2_ := Aside0.mk (below_step (by repeat (first | (with_reducible first | exact HB.out | apply below_alloc | apply pw_below_drewN | apply below_drew1) | exact HB.out)) hb); clear HO801; clear HB; have HO801 := n0_; have HO807 := n1_; have HB := n2_; clear n0_ n1_ n2_; (try clear hb); (try clear hb2); (try clear hk); (try clear hi); (try clear ho0)))
     go_ret2; exact ⟨_, by first | rfl | (simp <;> rfl) | (simp [*] <;> rfl), by first | exact Kd.R_nil _ _ _ _ _ | exact Kd.N_nil _ _ _ _ _ | exact Kd.V_nil _ _ _ _ _ | exact Kd.Q_nil _ _ _ _ _ | exact Kd.S_nil _ _ _ _ _, by repeat (first | (with_reducible first | exact HB.out | apply below_alloc | apply pw_below_drewN | apply below_drew1) | exact HB.out)⟩
   ·rw [if_neg c5] at H; have c5b0 : decide (0 ≤ ((rd_T53 l0 a1).f0)) = false := decide_eq_false c5; clear c5; replace H := Option.bind_eq_some_iff.mp H; obtain ⟨⟨t814, t815⟩, A170, H⟩ := H; replace H : (some (t814, t815)) = some (r1, r2) := H; have A17 := Aside0.mk A170; clear A170; simp only [Option.some.injEq, Prod.mk.injEq] at H; obtain ⟨rfl, rfl⟩ := H; go_enter Try.func88, Try.ntmps88; go_wp2_with (first | ((with_reducible refine gate_dst (N := 9) rfl ?_); refine Kd.R_lit Kd.string _ 9 ?hg (N := 9) ?hd (xs := ([] : List ByteArray)) (inner := []) (ok := fun _ => True) (okp := fun _ => True) ?hr ?hp (fun _ hk => hk) trivial (Below.refl _ _) (Nat.le_refl _) (by simp) ?_; (case hd => rfl); (case hg => rfl); (case hr => first | (go_simp; done) | (go_simp; rfl)); (case hp => exact (Reps.none _ _)); intro v800 w18 ho19 hb hg_ hnew_; clear hg_ hnew_; (first | rw [← Ny799.out] at ho19 | (simp only [Int.reduceToNat] at ho19; rw [← Ny799.out] at ho19)); have n0_ := Aside0.mk (Kd.R_lower ho19 (below_size (by repeat (first | (with_reducible first | exact HB.out | apply below_alloc | apply pw_below_drewN | apply below_drew1) | exact HB.out)))); have n1_ := Aside0.mk (below_step (by repeat (first | (with_reducible first | exact HB.out | apply below_alloc | apply pw_below_drewN | apply below_drew1) | exact HB.out)) hb); clear HB; have HO801 := n0_; have HB := n1_; clear n0_ n1_; clear hb ho19; have p802 : 0 ≤ (a1 : Int) := of_decide_eq_true (by assumption); have q802 : a1 < (l0.length : Int) := of_decide_eq_true (by assumption); obtain ⟨ad802, A802_1, c802_1, e802, hx802_0, hx802_1, hl802_1, hi802_1⟩ := at_T53 HR0.out a1 p802 q802; cases e802; replace hx802_0 := (HB.out.cell (World.block_lt_of_cell? w _ hx802_0)).trans hx802_0; replace hx802_1 := (HB.out.cell (World.block_lt_of_cell? w _ hx802_1)).trans hx802_1; have HR802_1 := Aside0.mk hi802_1; have HC802_1 := Aside0.mk hl802_1; clear hi802_1 hl802_1; replace p802 := eq_true p802; replace q802 := eq_true q802; have p813 : 0 ≤ (a1 : Int) := of_decide_eq_true (by assumption); have q813 : a1 < (l0.length : Int) := of_decide_eq_true (by assumption); obtain ⟨ad813, A813_1, c813_1, e813, hx813_0, hx813_1, hl813_1, hi813_1⟩ := at_T53 HR0.out a1 p813 q813; obtain rfl : ad802 = ad813 := (by injection e813); replace hx813_0 := (HB.out.cell (World.block_lt_of_cell? w _ hx813_0)).trans hx813_0; replace hx813_1 := (HB.out.cell (World.block_lt_of_cell? w _ hx813_1)).trans hx813_1; have HR813_1 := Aside0.mk hi813_1; have HC813_1 := Aside0.mk hl813_1; clear hi813_1 hl813_1; replace p813 := eq_true p813; replace q813 := eq_true q813; have ea_ := Option.some.inj (hx802_1.symm.trans hx813_1); injection ea_ with ea_ en_ ec_; subst ea_; subst ec_; clear en_; obtain ⟨Ao20, co20, eo20⟩ := Kd.R_slice HO801.out; subst eo20) | ((with_reducible refine gate_callee (f := 83) rfl ?_); refine goesL_ (some 35) rfl rfl Try.func83 (by kernel_rfl) rfl #[.slice Ao20 y799.length co20, .slice A802_1 ((rd_T53 l0 a1).f1).length c802_1] rfl (by (try simp only [List.map_toArray, List.map_cons, List.map_nil]); first | done | rfl | (simp only [List.length_drop, List.length_take]; rfl)) ?_; (with_reducible refine (spec_l13Do.calls k _ _ y799 _ _ ((rd_T53 l0 a1).f1) t814 t815 _ ?side1 ?side2 ?side3 ?side4 A17.out).mono ?_); (case side1 => repeat (first | exact (Kd.R_reads' HO801.out).2.2 | (with_reducible refine Kd.C_alloc ?_ _) | (with_reducible refine Kd.C_drewN ?_ _) | (with_reducible refine Kd.C_drew ?_))); (case side2 => exact (Kd.R_reads' HO801.out).2.1); (case side3 => repeat (first | exact (Kd.C_below HR813_1.out HB.out) | (with_reducible refine Kd.C_alloc ?_ _) | (with_reducible refine Kd.C_drewN ?_ _) | (with_reducible refine Kd.C_drew ?_))); (case side4 => exact HC813_1.out); rintro e w21 ⟨v816, rfl, ho0, hb⟩; refine ⟨_, rfl, ?_⟩; have n0_ := Aside0.mk (Kd.R_elder' (by (with_reducible repeat (first | apply Kd.R_alloc | apply Kd.R_drewN | apply Kd.R_drew)); exact HO801.out) (Kd.R_base ho0) hb); have n1_ := Aside0.mk (Kd.R_lower (Kd.R_new' ho0 (Kd.R_lt (by (with_reducible repeat (first | apply Kd.R_alloc | apply Kd.R_drewN | apply Kd.R_drew)); exact HO801.out))) (below_size (by repeat (first | (with_reducible first | exact HB.out | apply below_alloc | apply pw_below_drewN | apply below_drew1) | exact HB.out)))); have n2_ := Aside0.mk (below_step (by repeat (first | (with_reducible first | exact HB.out | apply below_alloc | apply pw_below_drewN | apply below_drew1) | exact HB.out)) hb); clear HO801; clear HB; have HO801 := n0_; have HO817 := n1_; have HB := n2_; clear n0_ n1_ n2_; (try clear hb); (try clear hb2); (try clear hk); (try clear hi); (try clear ho0)))
    go_ret2; exact ⟨_, by first | rfl | (simp <;> rfl) | (simp [*] <;> rfl), by (with_reducible repeat (first | apply Kd.R_alloc | apply Kd.R_drewN | apply Kd.R_drew)); exact Kd.R_mono HO817.out (fun _ hk => trivial), by repeat (first | (with_reducible first | exact HB.out | apply below_alloc | apply pw_below_drewN | apply below_drew1) | exact HB.out)⟩
  ·rw [if_neg c4] at H; exact absurd H (by simp)
 ·rw [if_neg c3] at H; exact absurd H (by simp)
end Go.Proofs.Ytfnhjaiioojbkaa.Q
end
section
namespace Go.Proofs.Ytfnhjaiioojbkaa.Q
open Go.RowKit Go.Proofs.YtfnhjaiioojbkaaW.PrintWords Go.Proofs.YtfnhjaiioojbkaaW.PrintLast Go.Proofs.YtfnhjaiioojbkaaW.PrintMore
attribute [local go_sem] max2_int min2_int max_two min_two max_three min_three max_four min_four   -- for this text's walks alone
set_option linter.unusedVariables false
set_option linter.unusedSimpArgs false
mutual
def spec_l13PackOk.l0 : Nat → List (S53) → Int → Option (Bool)
 | 0, _, _ => none
 | k + 1, x0, x3 => if x3 < (x0.length : Int) then (if 0 ≤ x3 then ((spec_l1In.f ((rd_T53 x0 x3).f0) (-1) (wrap64 (x3 - 1))).bind fun t819 => (if t819 = true then ((spec_l13Ok.f k ((rd_T53 x0 x3).f1)).bind fun t821 => (if t821 = true then (spec_l13PackOk.l0 k x0 (wrap64 (x3 + 1))) else (some false))) else (some false))) else (none)) else (spec_l13PackOk.l1 k x0 0)
def spec_l13PackOk.l1 : Nat → List (S53) → Int → Option (Bool)
 | 0, _, _ => none
 | k + 1, x0, x4 => if x4 < (x0.length : Int) then ((spec_l13Get.f k x0 x4).bind fun bt822 => (if bt822.2 = true then ((spec_l13Deep.f k x0 x4).bind fun t826 => (if t826 > 3 then (some false) else (spec_l13PackOk.l1 k x0 (wrap64 (x4 + 1))))) else (some false))) else (some (decide ((x0.length : Int) ≤ 12)))
end
def spec_l13PackOk.f (k : Nat) (l0 : List (S53)) : Option (Bool) := spec_l13PackOk.l0 k l0 0
set_option maxHeartbeats 8000000 in
set_option maxRecDepth 100000 in
theorem spec_l13PackOk.calls (k : Nat) (A0 : Option Addr) (c0 : Nat) (l0 : List (S53)) (r : Bool) (w : World) (hr0 : Kd.C k53 w A0 l0.length l0) (hc0 : l0.length ≤ c0) (h : spec_l13PackOk.f k l0 = some r) :
 Calls Try.prog 86 #[.slice A0 l0.length c0] w fun e w' => e = .returned (.bool r) ∧ Below w.heap.size w w' := by
 have HR0 := Aside0.mk hr0; have HC0 := Aside0.mk hc0; clear hr0 hc0; have HB := Aside0.mk (Below.refl w.heap.size w); have H : (spec_l13PackOk.l0 k l0 0) = some r := h; clear h; have H' := Aside0.mk H; clear H; go_enter Try.func86, Try.ntmps86; go_wp2; go_loopg [3] k (fun kq v3 w' => ∃ (x3_1 : Int), v3 = .int .i64 x3_1 ∧ Aside0 (spec_l13PackOk.l0 kq l0 x3_1 = some r) ∧ Aside0 (kq ≤ k) ∧ Aside0 (Below w.heap.size w w'))
 case atStart => exact ⟨(0), (by first | rfl | (simp; done) | (simp [*]; done)), H', ⟨Nat.le_refl _⟩, ⟨by repeat (first | (with_reducible first | exact HB.out | apply below_alloc | apply pw_below_drewN | apply below_drew1) | exact HB.out)⟩⟩
 case round =>
  clear H'; obtain ⟨x3_1, rfl, HA, HK1, HB⟩ := hrel
  cases gk with
  | zero => exact absurd HA.out (by simp [spec_l13PackOk.l0])
  | succ k1 =>
   have H := HA.out; clear HA; simp only [spec_l13PackOk.l0] at H; by_cases c2 : x3_1 < (l0.length : Int)
   ·rw [if_pos c2] at H; have c2b0 : decide (x3_1 < (l0.length : Int)) = true := decide_eq_true c2; clear c2; by_cases c3 : 0 ≤ x3_1
    ·rw [if_pos c3] at H; have c3b0 : decide (0 ≤ x3_1) = true := decide_eq_true c3; clear c3; replace H := Option.bind_eq_some_iff.mp H; obtain ⟨t819, A40, H⟩ := H; replace H : (if t819 = true then ((spec_l13Ok.f k1 ((rd_T53 l0 x3_1).f1)).bind fun t821 => (if t821 = true then (spec_l13PackOk.l0 k1 l0 (wrap64 (x3_1 + 1))) else (some false))) else (some false)) = some r := H; have A4 := Aside0.mk A40; clear A40; by_cases c5 : t819 = true
     ·subst c5; (have H1 : ((spec_l13Ok.f k1 ((rd_T53 l0 x3_1).f1)).bind fun t821 => (if t821 = true then (spec_l13PackOk.l0 k1 l0 (wrap64 (x3_1 + 1))) else (some false))) = some r := by rw [if_pos rfl] at H; exact H); clear H; have H := H1; clear H1; replace H := Option.bind_eq_some_iff.mp H; obtain ⟨t821, A60, H⟩ := H; replace H : (if t821 = true then (spec_l13PackOk.l0 k1 l0 (wrap64 (x3_1 + 1))) else (some false)) = some r := H; have A6 := Aside0.mk A60; clear A60; by_cases c7 : t821 = true
      ·subst c7; (have H1 : (spec_l13PackOk.l0 k1 l0 (wrap64 (x3_1 + 1))) = some r := by rw [if_pos rfl] at H; exact H); clear H; have H := H1; clear H1; have H' := Aside0.mk H; clear H; have p818 : 0 ≤ (x3_1 : Int) := of_decide_eq_true (by assumption); have q818 : x3_1 < (l0.length : Int) := of_decide_eq_true (by assumption); obtain ⟨ad818, A818_1, c818_1, e818, hx818_0, hx818_1, hl818_1, hi818_1⟩ := at_T53 HR0.out x3_1 p818 q818; cases e818; replace hx818_0 := (HB.out.cell (World.block_lt_of_cell? w _ hx818_0)).trans hx818_0; replace hx818_1 := (HB.out.cell (World.block_lt_of_cell? w _ hx818_1)).trans hx818_1; have HR818_1 := Aside0.mk hi818_1; have HC818_1 := Aside0.mk hl818_1; clear hi818_1 hl818_1; replace p818 := eq_true p818; replace q818 := eq_true q818; go_wp2_with (first | ((with_reducible refine gate_callee (f := 87) rfl ?_); refine goesL_ (some 20) rfl rfl Try.func87 (by kernel_rfl) rfl #[.int .i64 ((rd_T53 l0 x3_1).f0), .int .i64 (-1), .int .i64 (wrap64 (x3_1 - 1))] rfl (by (try simp only [List.map_toArray, List.map_cons, List.map_nil]); first | done | rfl | (simp only [List.length_drop, List.length_take]; rfl)) ?_; (with_reducible refine (spec_l1In.calls ((rd_T53 l0 x3_1).f0) (-1) (wrap64 (x3_1 - 1)) true _ A4.out).mono ?_); rintro e w' ⟨rfl, ⟨nd, rfl⟩⟩; refine ⟨_, rfl, ?_⟩; have p820 : 0 ≤ (x3_1 : Int) := of_decide_eq_true (by assumption); have q820 : x3_1 < (l0.length : Int) := of_decide_eq_true (by assumption); obtain ⟨ad820, A820_1, c820_1, e820, hx820_0, hx820_1, hl820_1, hi820_1⟩ := at_T53 HR0.out x3_1 p820 q820; obtain rfl : ad818 = ad820 := (by injection e820); replace hx820_0 := (HB.out.cell (World.block_lt_of_cell? w _ hx820_0)).trans hx820_0; replace hx820_1 := (HB.out.cell (World.block_lt_of_cell? w _ hx820_1)).trans hx820_1; have HR820_1 := Aside0.mk hi820_1; have HC820_1 := Aside0.mk hl820_1; clear hi820_1 hl820_1; replace p820 := eq_true p820; replace q820 := eq_true q820; have ea_ := Option.some.inj (hx818_1.symm.trans hx820_1); injection ea_ with ea_ en_ ec_; subst ea_; subst ec_; clear en_) | (go_at_call 61; (with_reducible refine (spec_l13Ok.calls k1 _ _ ((rd_T53 l0 x3_1).f1) true _ ?side1 ?side2 A6.out).mono ?_); (case side1 => repeat (first | exact (Kd.C_below HR820_1.out (by repeat (first | (with_reducible first | exact HB.out | apply below_alloc | apply pw_below_drewN | apply below_drew1) | exact HB.out))) | (with_reducible refine Kd.C_alloc ?_ _) | (with_reducible refine Kd.C_drewN ?_ _) | (with_reducible refine Kd.C_drew ?_))); (case side2 => exact HC820_1.out); rintro e w8 ⟨rfl, hb⟩; have n0_ := Aside0.mk (below_step (by repeat (first | (with_reducible first | exact HB.out | apply below_alloc | apply pw_below_drewN | apply below_drew1) | exact HB.out)) hb); clear HB; have HB := n0_; clear n0_; (try clear hb); (try clear hb2); (try clear hk); (try clear hi))); go_roundg k1
       case measure => have := HK1.out; omega
       case rel => exact ⟨(wrap64 (x3_1 + 1)), (by first | rfl | (simp; done) | (simp [*]; done)), H', ⟨by have := HK1.out; omega⟩, ⟨by repeat (first | (with_reducible first | exact HB.out | apply below_alloc | apply pw_below_drewN | apply below_drew1) | exact HB.out)⟩⟩
      ·replace c7 := Bool.eq_false_iff.mpr c7; subst c7; (have H1 : (some false) = some r := by rw [if_neg (show ¬ (false = true) by decide)] at H; exact H); clear H; have H := H1; clear H1; obtain rfl := Option.some.inj H; have p818 : 0 ≤ (x3_1 : Int) := of_decide_eq_true (by assumption); have q818 : x3_1 < (l0.length : Int) := of_decide_eq_true (by assumption); obtain ⟨ad818, A818_1, c818_1, e818, hx818_0, hx818_1, hl818_1, hi818_1⟩ := at_T53 HR0.out x3_1 p818 q818; cases e818; replace hx818_0 := (HB.out.cell (World.block_lt_of_cell? w _ hx818_0)).trans hx818_0; replace hx818_1 := (HB.out.cell (World.block_lt_of_cell? w _ hx818_1)).trans hx818_1; have HR818_1 := Aside0.mk hi818_1; have HC818_1 := Aside0.mk hl818_1; clear hi818_1 hl818_1; replace p818 := eq_true p818; replace q818 := eq_true q818; go_wp2_with (first | ((with_reducible refine gate_callee (f := 87) rfl ?_); refine goesL_ (some 20) rfl rfl Try.func87 (by kernel_rfl) rfl #[.int .i64 ((rd_T53 l0 x3_1).f0), .int .i64 (-1), .int .i64 (wrap64 (x3_1 - 1))] rfl (by (try simp only [List.map_toArray, List.map_cons, List.map_nil]); first | done | rfl | (simp only [List.length_drop, List.length_take]; rfl)) ?_; (with_reducible refine (spec_l1In.calls ((rd_T53 l0 x3_1).f0) (-1) (wrap64 (x3_1 - 1)) true _ A4.out).mono ?_); rintro e w' ⟨rfl, ⟨nd, rfl⟩⟩; refine ⟨_, rfl, ?_⟩; have p820 : 0 ≤ (x3_1 : Int) := of_decide_eq_true (by assumption); have q820 : x3_1 < (l0.length : Int) := of_decide_eq_true (by assumption); obtain ⟨ad820, A820_1, c820_1, e820, hx820_0, hx820_1, hl820_1, hi820_1⟩ := at_T53 HR0.out x3_1 p820 q820; obtain rfl : ad818 = ad820 := (by injection e820); replace hx820_0 := (HB.out.cell (World.block_lt_of_cell? w _ hx820_0)).trans hx820_0; replace hx820_1 := (HB.out.cell (World.block_lt_of_cell? w _ hx820_1)).trans hx820_1; have HR820_1 := Aside0.mk hi820_1; have HC820_1 := Aside0.mk hl820_1; clear hi820_1 hl820_1; replace p820 := eq_true p820; replace q820 := eq_true q820; have ea_ := Option.some.inj (hx818_1.symm.trans hx820_1); injection ea_ with ea_ en_ ec_; subst ea_; subst ec_; clear en_) | (go_at_call 61; (with_reducible refine (spec_l13Ok.calls k1 _ _ ((rd_T53 l0 x3_1).f1) false _ ?side1 ?side2 A6.out).mono ?_); (case side1 => repeat (first | exact (Kd.C_below HR820_1.out (by repeat (first | (with_reducible first | exact HB.out | apply below_alloc | apply pw_below_drewN | apply below_drew1) | exact HB.out))) | (with_reducible refine Kd.C_alloc ?_ _) | (with_reducible refine Kd.C_drewN ?_ _) | (with_reducible refine Kd.C_drew ?_))); (case side2 => exact HC820_1.out); rintro e w9 ⟨rfl, hb⟩; have n0_ := Aside0.mk (below_step (by repeat (first | (with_reducible first | exact HB.out | apply below_alloc | apply pw_below_drewN | apply below_drew1) | exact HB.out)) hb); clear HB; have HB := n0_; clear n0_; (try clear hb); (try clear hb2); (try clear hk); (try clear hi))); go_ret; exact ⟨by first | rfl | (simp <;> rfl) | (simp [*] <;> rfl), by repeat (first | (with_reducible first | exact HB.out | apply below_alloc | apply pw_below_drewN | apply below_drew1) | exact HB.out)⟩
     ·replace c5 := Bool.eq_false_iff.mpr c5; subst c5; (have H1 : (some false) = some r := by rw [if_neg (show ¬ (false = true) by decide)] at H; exact H); clear H; have H := H1; clear H1; obtain rfl := Option.some.inj H; have p818 : 0 ≤ (x3_1 : Int) := of_decide_eq_true (by assumption); have q818 : x3_1 < (l0.length : Int) := of_decide_eq_true (by assumption); obtain ⟨ad818, A818_1, c818_1, e818, hx818_0, hx818_1, hl818_1, hi818_1⟩ := at_T53 HR0.out x3_1 p818 q818; cases e818; replace hx818_0 := (HB.out.cell (World.block_lt_of_cell? w _ hx818_0)).trans hx818_0; replace hx818_1 := (HB.out.cell (World.block_lt_of_cell? w _ hx818_1)).trans hx818_1; have HR818_1 := Aside0.mk hi818_1; have HC818_1 := Aside0.mk hl818_1; clear hi818_1 hl818_1; replace p818 := eq_true p818; replace q818 := eq_true q818; go_wp2_with (first | ((with_reducible refine gate_callee (f := 87) rfl ?_); refine goesL_ (some 20) rfl rfl Try.func87 (by kernel_rfl) rfl #[.int .i64 ((rd_T53 l0 x3_1).f0), .int .i64 (-1), .int .i64 (wrap64 (x3_1 - 1))] rfl (by (try simp only [List.map_toArray, List.map_cons, List.map_nil]); first | done | rfl | (simp only [List.length_drop, List.length_take]; rfl)) ?_; (with_reducible refine (spec_l1In.calls ((rd_T53 l0 x3_1).f0) (-1) (wrap64 (x3_1 - 1)) false _ A4.out).mono ?_); rintro e w' ⟨rfl, ⟨nd, rfl⟩⟩; refine ⟨_, rfl, ?_⟩)); go_ret; exact ⟨by first | rfl | (simp <;> rfl) | (simp [*] <;> rfl), by repeat (first | (with_reducible first | exact HB.out | apply below_alloc | apply pw_below_drewN | apply below_drew1) | exact HB.out)⟩
    ·rw [if_neg c3] at H; exact absurd H (by simp)
   ·rw [if_neg c2] at H; have c2b0 : decide (x3_1 < (l0.length : Int)) = false := decide_eq_false c2; clear c2; have H' := Aside0.mk H; clear H; go_wp2; go_loopg [4] k1 (fun kq v4 w' => ∃ (x4_2 : Int), v4 = .int .i64 x4_2 ∧ Aside0 (spec_l13PackOk.l1 kq l0 x4_2 = some r) ∧ Aside0 (kq ≤ k1) ∧ Aside0 (Below w.heap.size w w'))
    case atStart => exact ⟨(0), (by first | rfl | (simp; done) | (simp [*]; done)), H', ⟨Nat.le_refl _⟩, ⟨by repeat (first | (with_reducible first | exact HB.out | apply below_alloc | apply pw_below_drewN | apply below_drew1) | exact HB.out)⟩⟩
    case round =>
     clear H'; (try clear c2); (try clear c2b0); (try clear p2); (try clear c3); (try clear c3b0); (try clear c5); (try clear p6); (try clear c7); (try clear c8); (try clear p8); (try clear q8); (try clear hx8); (try clear hx818_0); (try clear hx818_1); (try clear hx820_0); (try clear hx820_1); (try clear p818); (try clear p820); (try clear q818); (try clear q820); obtain ⟨x4_2, rfl, HA, HK2, HB⟩ := hrel
     cases gk with
     | zero => exact absurd HA.out (by simp [spec_l13PackOk.l1])
     | succ k2 =>
      have H := HA.out; clear HA; simp only [spec_l13PackOk.l1] at H; by_cases c10 : x4_2 < (l0.length : Int)
      ·rw [if_pos c10] at H; have c10b0 : decide (x4_2 < (l0.length : Int)) = true := decide_eq_true c10; clear c10; replace H := Option.bind_eq_some_iff.mp H; obtain ⟨⟨t822, t823⟩, A110, H⟩ := H; replace H : (if t823 = true then ((spec_l13Deep.f k2 l0 x4_2).bind fun t826 => (if t826 > 3 then (some false) else (spec_l13PackOk.l1 k2 l0 (wrap64 (x4_2 + 1))))) else (some false)) = some r := H; have A11 := Aside0.mk A110; clear A110; by_cases c12 : t823 = true
       ·subst c12; (have H1 : ((spec_l13Deep.f k2 l0 x4_2).bind fun t826 => (if t826 > 3 then (some false) else (spec_l13PackOk.l1 k2 l0 (wrap64 (x4_2 + 1))))) = some r := by rw [if_pos rfl] at H; exact H); clear H; have H := H1; clear H1; replace H := Option.bind_eq_some_iff.mp H; obtain ⟨t826, A130, H⟩ := H; replace H : (if t826 > 3 then (some false) else (spec_l13PackOk.l1 k2 l0 (wrap64 (x4_2 + 1)))) = some r := H; have A13 := Aside0.mk A130; clear A130; by_cases c14 : t826 > 3
        ·rw [if_pos c14] at H; have c14b0 : decide (3 < t826) = true := decide_eq_true c14; clear c14; obtain rfl := Option.some.inj H; go_wp2_with (first | ((with_reducible refine gate_callee (f := 88) rfl ?_); refine goesL_ (some 40) rfl rfl Try.func88 (by kernel_rfl) rfl #[.slice A0 l0.length c0, .int .i64 x4_2] rfl (by (try simp only [List.map_toArray, List.map_cons, List.map_nil]); first | done | rfl | (simp only [List.length_drop, List.length_take]; rfl)) ?_; (with_reducible refine (spec_l13Get.calls k2 _ _ l0 x4_2 t822 true _ ?side1 ?side2 A11.out).mono ?_); (case side1 => repeat (first | exact (Kd.C_below HR0.out HB.out) | (with_reducible refine Kd.C_alloc ?_ _) | (with_reducible refine Kd.C_drewN ?_ _) | (with_reducible refine Kd.C_drew ?_))); (case side2 => exact HC0.out); rintro e w15 ⟨v824, rfl, ho0, hb⟩; refine ⟨_, rfl, ?_⟩; have n0_ := Aside0.mk (Kd.R_lower ho0 (below_size (by repeat (first | (with_reducible first | exact HB.out | apply below_alloc | apply pw_below_drewN | apply below_drew1) | exact HB.out)))); have n1_ := Aside0.mk (below_step (by repeat (first | (with_reducible first | exact HB.out | apply below_alloc | apply pw_below_drewN | apply below_drew1) | exact HB.out)) hb); clear HB; have HO825 := n0_; have HB := n1_; clear n0_ n1_; (try clear hb); (try clear hb2); (try clear hk); (try clear hi); (try clear ho0)) | (go_at_call 94; (with_reducible refine (spec_l13Deep.calls k2 _ _ l0 x4_2 t826 _ ?side1 ?side2 A13.out).mono ?_); (case side1 => repeat (first | exact (Kd.C_below HR0.out HB.out) | (with_reducible refine Kd.C_alloc ?_ _) | (with_reducible refine Kd.C_drewN ?_ _) | (with_reducible refine Kd.C_drew ?_))); (case side2 => exact HC0.out); rintro e w' ⟨rfl, ⟨nd, rfl⟩⟩)); go_ret; exact ⟨by first | rfl | (simp <;> rfl) | (simp [*] <;> rfl), by repeat (first | (with_reducible first | exact HB.out | apply below_alloc | apply pw_below_drewN | apply below_drew1) | exact HB.out)⟩
        ·rw [if_neg c14] at H; have c14b0 : decide (3 < t826) = false := decide_eq_false c14; clear c14; have H' := Aside0.mk H; clear H; go_wp2_with (first | ((with_reducible refine gate_callee (f := 88) rfl ?_); refine goesL_ (some 40) rfl rfl Try.func88 (by kernel_rfl) rfl #[.slice A0 l0.length c0, .int .i64 x4_2] rfl (by (try simp only [List.map_toArray, List.map_cons, List.map_nil]); first | done | rfl | (simp only [List.length_drop, List.length_take]; rfl)) ?_; (with_reducible refine (spec_l13Get.calls k2 _ _ l0 x4_2 t822 true _ ?side1 ?side2 A11.out).mono ?_); (case side1 => repeat (first | exact (Kd.C_below HR0.out HB.out) | (with_reducible refine Kd.C_alloc ?_ _) | (with_reducible refine Kd.C_drewN ?_ _) | (with_reducible refine Kd.C_drew ?_))); (case side2 => exact HC0.out); rintro e w16 ⟨v824, rfl, ho0, hb⟩; refine ⟨_, rfl, ?_⟩; have n0_ := Aside0.mk (Kd.R_lower ho0 (below_size (by repeat (first | (with_reducible first | exact HB.out | apply below_alloc | apply pw_below_drewN | apply below_drew1) | exact HB.out)))); have n1_ := Aside0.mk (below_step (by repeat (first | (with_reducible first | exact HB.out | apply below_alloc | apply pw_below_drewN | apply below_drew1) | exact HB.out)) hb); clear HB; have HO825 := n0_; have HB := n1_; clear n0_ n1_; (try clear hb); (try clear hb2); (try clear hk); (try clear hi); (try clear ho0)) | (go_at_call 94; (with_reducible refine (spec_l13Deep.calls k2 _ _ l0 x4_2 t826 _ ?side1 ?side2 A13.out).mono ?_); (case side1 => repeat (first | exact (Kd.C_below HR0.out HB.out) | (with_reducible refine Kd.C_alloc ?_ _) | (with_reducible refine Kd.C_drewN ?_ _) | (with_reducible refine Kd.C_drew ?_))); (case side2 => exact HC0.out); rintro e w' ⟨rfl, ⟨nd, rfl⟩⟩)); go_roundg k2
         case measure => have := HK1.out; have := HK2.out; omega
         case rel => exact ⟨(wrap64 (x4_2 + 1)), (by first | rfl | (simp; done) | (simp [*]; done)), H', ⟨by have := HK1.out; have := HK2.out; omega⟩, ⟨by repeat (first | (with_reducible first | exact HB.out | apply below_alloc | apply pw_below_drewN | apply below_drew1) | exact HB.out)⟩⟩
       ·replace c12 := Bool.eq_false_iff.mpr c12; subst c12; (have H1 : (some false) = some r := by rw [if_neg (show ¬ (false = true) by decide)] at H; exact H); clear H; have H := H1; clear H1; obtain rfl := Option.some.inj H; go_wp2_with (first | ((with_reducible refine gate_callee (f := 88) rfl ?_); refine goesL_ (some 40) rfl rfl Try.func88 (by kernel_rfl) rfl #[.slice A0 l0.length c0, .int .i64 x4_2] rfl (by (try simp only [List.map_toArray, List.map_cons, List.map_nil]); first | done | rfl | (simp only [List.length_drop, List.length_take]; rfl)) ?_; (with_reducible refine (spec_l13Get.calls k2 _ _ l0 x4_2 t822 false _ ?side1 ?side2 A11.out).mono ?_); (case side1 => repeat (first | exact (Kd.C_below HR0.out HB.out) | (with_reducible refine Kd.C_alloc ?_ _) | (with_reducible refine Kd.C_drewN ?_ _) | (with_reducible refine Kd.C_drew ?_))); (case side2 => exact HC0.out); rintro e w17 ⟨v824, rfl, ho0, hb⟩; refine ⟨_, rfl, ?_⟩; have n0_ := Aside0.mk (Kd.R_lower ho0 (below_size (by repeat (first | (with_reducible first | exact HB.out | apply below_alloc | apply pw_below_drewN | apply below_drew1) | exact HB.out)))); have n1_ := Aside0.mk (below_step (by repeat (first | (with_reducible first | exact HB.out | apply below_alloc | apply pw_below_drewN | apply below_drew1) | exact HB.out)) hb); clear HB; have HO825 := n0_; have HB := n1_; clear n0_ n1_; (try clear hb); (try clear hb2); (try clear hk); (try clear hi); (try clear ho0))); go_ret; exact ⟨by first | rfl | (simp <;> rfl) | (simp [*] <;> rfl), by repeat (first | (with_reducible first | exact HB.out | apply below_alloc | apply pw_below_drewN | apply below_drew1) | exact HB.out)⟩
      ·rw [if_neg c10] at H; have c10b0 : decide (x4_2 < (l0.length : Int)) = false := decide_eq_false c10; clear c10; obtain rfl := Option.some.inj H; go_wp2; go_ret; exact ⟨by first | rfl | (simp <;> rfl) | (simp [*] <;> rfl), by repeat (first | (with_reducible first | exact HB.out | apply below_alloc | apply pw_below_drewN | apply below_drew1) | exact HB.out)⟩
end Go.Proofs.Ytfnhjaiioojbkaa.Q
end
section
namespace Go.Proofs.Ytfnhjaiioojbkaa.Q
open Go.RowKit Go.Proofs.YtfnhjaiioojbkaaW.PrintWords Go.Proofs.YtfnhjaiioojbkaaW.PrintLast Go.Proofs.YtfnhjaiioojbkaaW.PrintMore
attribute [local go_sem] max2_int min2_int max_two min_two max_three min_three max_four min_four   -- for this text's walks alone
set_option linter.unusedVariables false
set_option linter.unusedSimpArgs false
def spec_PackSize.l0 : Nat → List (S53) → Int → Int → Option (Int)
 | 0, _, _, _ => none
 | k + 1, x0, x3, x4 => if x4 < (x0.length : Int) then (if 0 ≤ x4 then ((spec_l13Size.f k ((rd_T53 x0 x4).f1)).bind fun t897 => (spec_PackSize.l0 k x0 (wrap64 (x3 + t897)) (wrap64 (x4 + 1)))) else (none)) else (some x3)
def spec_PackSize.f (k : Nat) (l0 : List (S53)) : Option (Int) := (spec_l13PackOk.f k l0).bind fun t895 => (if t895 = true then (spec_PackSize.l0 k l0 0 0) else (some (-1)))
set_option maxHeartbeats 8000000 in
set_option maxRecDepth 100000 in
theorem spec_PackSize.calls (k : Nat) (A0 : Option Addr) (c0 : Nat) (l0 : List (S53)) (r : Int) (w : World) (hr0 : Kd.C k53 w A0 l0.length l0) (hc0 : l0.length ≤ c0) (h : spec_PackSize.f k l0 = some r) :
 Calls Try.prog 45 #[.slice A0 l0.length c0] w fun e w' => e = .returned (.int .i64 r) ∧ Below w.heap.size w w' := by
 have HR0 := Aside0.mk hr0; have HC0 := Aside0.mk hc0; clear hr0 hc0; have HB := Aside0.mk (Below.refl w.heap.size w); have H : ((spec_l13PackOk.f k l0).bind fun t895 => (if t895 = true then (spec_PackSize.l0 k l0 0 0) else (some (-1)))) = some r := h; clear h; replace H := Option.bind_eq_some_iff.mp H; obtain ⟨t895, A20, H⟩ := H; replace H : (if t895 = true then (spec_PackSize.l0 k l0 0 0) else (some (-1))) = some r := H; have A2 := Aside0.mk A20; clear A20; by_cases c3 : t895 = true
 ·subst c3; (have H1 : (spec_PackSize.l0 k l0 0 0) = some r := by rw [if_pos rfl] at H; exact H); clear H; have H := H1; clear H1; have H' := Aside0.mk H; clear H; go_enter Try.func45, Try.ntmps45; go_wp2_with (first | ((with_reducible refine gate_callee (f := 86) rfl ?_); refine goesL_ (some 6) rfl rfl Try.func86 (by kernel_rfl) rfl #[.slice A0 l0.length c0] rfl (by (try simp only [List.map_toArray, List.map_cons, List.map_nil]); first | done | rfl | (simp only [List.length_drop, List.length_take]; rfl)) ?_; (with_reducible refine (spec_l13PackOk.calls k _ _ l0 true _ ?side1 ?side2 A2.out).mono ?_); (case side1 => repeat (first | exact HR0.out | (with_reducible refine Kd.C_alloc ?_ _) | (with_reducible refine Kd.C_drewN ?_ _) | (with_reducible refine Kd.C_drew ?_))); (case side2 => exact HC0.out); rintro e w4 ⟨rfl, hb⟩; refine ⟨_, rfl, ?_⟩; have n0_ := Aside0.mk (below_step (by repeat (first | (with_reducible first | exact HB.out | apply below_alloc | apply pw_below_drewN | apply below_drew1) | exact HB.out)) hb); clear HB; have HB := n0_; clear n0_; (try clear hb); (try clear hb2); (try clear hk); (try clear hi))); go_loopg [3, 4] k (fun kq v3 v4 w' => ∃ (x3_1 : Int) (x4_1 : Int), v3 = .int .i64 x3_1 ∧ v4 = .int .i64 x4_1 ∧ Aside0 (spec_PackSize.l0 kq l0 x3_1 x4_1 = some r) ∧ Aside0 (kq ≤ k) ∧ Aside0 (Below w.heap.size w w'))
  case atStart => exact ⟨(0), (0), (by first | rfl | (simp; done) | (simp [*]; done)), (by first | rfl | (simp; done) | (simp [*]; done)), H', ⟨Nat.le_refl _⟩, ⟨by repeat (first | (with_reducible first | exact HB.out | apply below_alloc | apply pw_below_drewN | apply below_drew1) | exact HB.out)⟩⟩
  case round =>
   clear H'; (try clear p2); (try clear c3); (try clear c4); obtain ⟨x3_1, x4_1, rfl, rfl, HA, HK1, HB⟩ := hrel
   cases gk with
   | zero => exact absurd HA.out (by simp [spec_PackSize.l0])
   | succ k1 =>
    have H := HA.out; clear HA; simp only [spec_PackSize.l0] at H; by_cases c5 : x4_1 < (l0.length : Int)
    ·rw [if_pos c5] at H; have c5b0 : decide (x4_1 < (l0.length : Int)) = true := decide_eq_true c5; clear c5; by_cases c6 : 0 ≤ x4_1
     ·rw [if_pos c6] at H; have c6b0 : decide (0 ≤ x4_1) = true := decide_eq_true c6; clear c6; replace H := Option.bind_eq_some_iff.mp H; obtain ⟨t897, A70, H⟩ := H; replace H : (spec_PackSize.l0 k1 l0 (wrap64 (x3_1 + t897)) (wrap64 (x4_1 + 1))) = some r := H; have A7 := Aside0.mk A70; clear A70; have H' := Aside0.mk H; clear H; have p896 : 0 ≤ (x4_1 : Int) := of_decide_eq_true (by assumption); have q896 : x4_1 < (l0.length : Int) := of_decide_eq_true (by assumption); obtain ⟨ad896, A896_1, c896_1, e896, hx896_0, hx896_1, hl896_1, hi896_1⟩ := at_T53 HR0.out x4_1 p896 q896; cases e896; replace hx896_0 := (HB.out.cell (World.block_lt_of_cell? w _ hx896_0)).trans hx896_0; replace hx896_1 := (HB.out.cell (World.block_lt_of_cell? w _ hx896_1)).trans hx896_1; have HR896_1 := Aside0.mk hi896_1; have HC896_1 := Aside0.mk hl896_1; clear hi896_1 hl896_1; replace p896 := eq_true p896; replace q896 := eq_true q896; go_wp2_with (first | ((with_reducible refine gate_callee (f := 90) rfl ?_); refine goesL_ (some 20) rfl rfl Try.func90 (by kernel_rfl) rfl #[.slice A896_1 ((rd_T53 l0 x4_1).f1).length c896_1] rfl (by (try simp only [List.map_toArray, List.map_cons, List.map_nil]); first | done | rfl | (simp only [List.length_drop, List.length_take]; rfl)) ?_; (with_reducible refine (spec_l13Size.calls k1 _ _ ((rd_T53 l0 x4_1).f1) t897 _ ?side1 ?side2 A7.out).mono ?_); (case side1 => repeat (first | exact (Kd.C_below HR896_1.out HB.out) | (with_reducible refine Kd.C_alloc ?_ _) | (with_reducible refine Kd.C_drewN ?_ _) | (with_reducible refine Kd.C_drew ?_))); (case side2 => exact HC896_1.out); rintro e w' ⟨rfl, ⟨nd, rfl⟩⟩; refine ⟨_, rfl, ?_⟩)); go_roundg k1
      case measure => have := HK1.out; omega
      case rel => exact ⟨(wrap64 (x3_1 + t897)), (wrap64 (x4_1 + 1)), (by first | rfl | (simp; done) | (simp [*]; done)), (by first | rfl | (simp; done) | (simp [*]; done)), H', ⟨by have := HK1.out; omega⟩, ⟨by repeat (first | (with_reducible first | exact HB.out | apply below_alloc | apply pw_below_drewN | apply below_drew1) | exact HB.out)⟩⟩
     ·rw [if_neg c6] at H; exact absurd H (by simp)
    ·rw [if_neg c5] at H; have c5b0 : decide (x4_1 < (l0.length : Int)) = false := decide_eq_false c5; clear c5; obtain rfl := Option.some.inj H; go_wp2; go_ret; exact ⟨by first | rfl | (simp <;> rfl) | (simp [*] <;> rfl), by repeat (first | (with_reducible first | exact HB.out | apply below_alloc | apply pw_below_drewN | apply below_drew1) | exact HB.out)⟩
 ·replace c3 := Bool.eq_false_iff.mpr c3; subst c3; (have H1 : (some (-1)) = some r := by rw [if_neg (show ¬ (false = true) by decide)] at H; exact H); clear H; have H := H1; clear H1; obtain rfl := Option.some.inj H; go_enter Try.func45, Try.ntmps45; go_wp2_with (first | ((with_reducible refine gate_callee (f := 86) rfl ?_); refine goesL_ (some 6) rfl rfl Try.func86 (by kernel_rfl) rfl #[.slice A0 l0.length c0] rfl (by (try simp only [List.map_toArray, List.map_cons, List.map_nil]); first | done | rfl | (simp only [List.length_drop, List.length_take]; rfl)) ?_; (with_reducible refine (spec_l13PackOk.calls k _ _ l0 false _ ?side1 ?side2 A2.out).mono ?_); (case side1 => repeat (first | exact HR0.out | (with_reducible refine Kd.C_alloc ?_ _) | (with_reducible refine Kd.C_drewN ?_ _) | (with_reducible refine Kd.C_drew ?_))); (case side2 => exact HC0.out); rintro e w8 ⟨rfl, hb⟩; refine ⟨_, rfl, ?_⟩; have n0_ := Aside0.mk (below_step (by repeat (first | (with_reducible first | exact HB.out | apply below_alloc | apply pw_below_drewN | apply below_drew1) | exact HB.out)) hb); clear HB; have HB := n0_; clear n0_; (try clear hb); (try clear hb2); (try clear hk); (try clear hi))); go_ret; exact ⟨by first | rfl | (simp <;> rfl) | (simp [*] <;> rfl), by repeat (first | (with_reducible first | exact HB.out | apply below_alloc | apply pw_below_drewN | apply below_drew1) | exact HB.out)⟩
end Go.Proofs.Ytfnhjaiioojbkaa.Q
end
section
namespace Go.Proofs.Ytfnhjaiioojbkaa.Q
open Go.RowKit Go.Proofs.YtfnhjaiioojbkaaW.PrintWords Go.Proofs.YtfnhjaiioojbkaaW.PrintLast Go.Proofs.YtfnhjaiioojbkaaW.PrintMore
attribute [local go_sem] max2_int min2_int max_two min_two max_three min_three max_four min_four   -- for this text's walks alone
set_option linter.unusedVariables false
set_option linter.unusedSimpArgs false
mutual
def laws_FnPackFew.j0 : Nat → List Int → List Int → Bool → Option (Bool)
 | 0, _, _, _ => none
 | k + 1, x0, x1, x21 => if x21 = true then (some true) else ((spec_DrawPackSize.f k x0).bind fun t898 => ((impl_PackSize.f k t898).bind fun t901 => ((spec_PackSize.f k t898).bind fun t902 => (if t901 = t902 then (laws_FnPackFew.j1 k x1 t898 t901 (decide (t901 < 0))) else (laws_FnPackFew.j1 k x1 t898 t901 true)))))
def laws_FnPackFew.j1 : Nat → List Int → List (S53) → Int → Bool → Option (Bool)
 | 0, _, _, _, _ => none
 | k + 1, x1, x5, x6, x33 => if x33 = true then ((spec_PackSize.f k x5).bind fun t903 => (if x6 = t903 then ((impl_PackOk.f k x5).bind fun t904 => (some (!t904))) else (some false))) else (if (wrap64 ((x5.length : Int) + 1)) = 0 then (none) else (if 0 ≤ ((x1.length : Int) % (wrap64 ((x5.length : Int) + 1))) then (if ((x1.length : Int) % (wrap64 ((x5.length : Int) + 1))) ≤ (x5.length : Int) then (laws_FnPackFew.l0 k x5 x6 ((x1.length : Int) % (wrap64 ((x5.length : Int) + 1))) (x5.take (((x1.length : Int) % (wrap64 ((x5.length : Int) + 1))) : Int).toNat) 0) else (none)) else (none)))
def laws_FnPackFew.l0 : Nat → List (S53) → Int → Int → List (S53) → Int → Option (Bool)
 | 0, _, _, _, _, _ => none
 | k + 1, x5, x6, x7, x8, x9 => if x9 < x7 then ((impl_PackGet.f k x5 x9).bind fun bt911 => ((impl_PackGet.f k x8 x9).bind fun bt915 => (if bt911.2 = true then (if bt915.2 = true then ((laws_smTexts.f k bt911.1 bt915.1).bind fun t919 => (if t919 = true then (laws_FnPackFew.l0 k x5 x6 x7 x8 (wrap64 (x9 + 1))) else (some false))) else (some false)) else (some false)))) else ((impl_PackOk.f k x8).bind fun t909 => (if t909 = true then ((impl_PackSize.f k x8).bind fun t910 => (some (decide (t910 ≤ x6)))) else (some false)))
end
def laws_FnPackFew.f (k : Nat) (l0 : List Int) (l1 : List Int) : Option (Bool) := if (l0.length : Int) > 1048576 then (laws_FnPackFew.j0 k l0 l1 true) else (laws_FnPackFew.j0 k l0 l1 (decide ((l1.length : Int) > 1048576)))
set_option maxHeartbeats 8000000 in
set_option maxRecDepth 100000 in
theorem laws_FnPackFew.calls (k : Nat) (A0 : Option Addr) (c0 : Nat) (l0 : List Int) (A1 : Option Addr) (c1 : Nat) (l1 : List Int) (r : Bool) (w : World) (hr0 : Kd.C (Kd.int .u8) w A0 l0.length l0) (hc0 : l0.length ≤ c0) (hr1 : Kd.C (Kd.int .u8) w A1 l1.length l1) (hc1 : l1.length ≤ c1) (h : laws_FnPackFew.f k l0 l1 = some r) :
 Calls Try.prog 9 #[.slice A0 l0.length c0, .slice A1 l1.length c1] w fun e w' => e = .returned (.bool r) ∧ Below w.heap.size w w' := by
 have HR0 := Aside0.mk hr0; have HC0 := Aside0.mk hc0; clear hr0 hc0; have HR1 := Aside0.mk hr1; have HC1 := Aside0.mk hc1; clear hr1 hc1; have HB := Aside0.mk (Below.refl w.heap.size w); have H : (if (l0.length : Int) > 1048576 then (laws_FnPackFew.j0 k l0 l1 true) else (laws_FnPackFew.j0 k l0 l1 (decide ((l1.length : Int) > 1048576)))) = some r := h; clear h; have HC3 := Aside0.mk H; clear H; go_enter Try.func9, Try.ntmps9; (go_upto_region 1 with (fail)); go_cut [21] (fun v21 wc => ∃ (kq : Nat) (x21_2 : Bool), v21 = .bool x21_2 ∧ Aside0 (laws_FnPackFew.j0 kq l0 l1 x21_2 = some r) ∧ Aside0 (kq ≤ k) ∧ Aside0 (Below w.heap.size w wc))
 case first =>
  have H := HC3.out; clear HC3; by_cases c4 : (l0.length : Int) > 1048576
  ·rw [if_pos c4] at H; have c4b0 : decide (1048576 < (l0.length : Int)) = true := decide_eq_true c4; have c4b1 : decide (1048576 < l0.length) = true := decide_eq_true (by omega); clear c4
   (first | rw [c4b0] | (simp only [i64_w, i32_w]; rw [c4b0]) | skip)
   have H' := Aside0.mk H; clear H; go_wp2; go_meet
   case rel => exact ⟨_, (true), (by first | rfl | (simp; done) | (simp [*]; done)), H', ⟨by first | omega | exact Nat.le_refl _⟩, ⟨by repeat (first | (with_reducible first | exact HB.out | apply below_alloc | apply pw_below_drewN | apply below_drew1) | exact HB.out)⟩⟩
  ·rw [if_neg c4] at H; have c4b0 : decide (1048576 < (l0.length : Int)) = false := decide_eq_false c4; have c4b1 : decide (1048576 < l0.length) = false := decide_eq_false (by omega); clear c4
   (first | rw [c4b0] | (simp only [i64_w, i32_w]; rw [c4b0]) | skip)
   have H' := Aside0.mk H; clear H; go_wp2; go_meet
   case rel => exact ⟨_, (decide ((l1.length : Int) > 1048576)), (by first | rfl | (simp; done) | (simp [*]; done)), H', ⟨by first | omega | exact Nat.le_refl _⟩, ⟨by repeat (first | (with_reducible first | exact HB.out | apply below_alloc | apply pw_below_drewN | apply below_drew1) | exact HB.out)⟩⟩
 case rest =>
  clear HC3; (try clear c1); (try clear p2); (try clear c4); (try clear c4b0); (try clear c4b1); obtain ⟨kq, x21_2, rfl, HA, HJ2, HB⟩ := hcut
  cases kq with
  | zero => exact absurd HA.out (by simp [laws_FnPackFew.j0])
  | succ kj2 =>
   have H := HA.out; clear HA; simp only [laws_FnPackFew.j0] at H; by_cases c5 : x21_2 = true
   ·subst c5; (have H1 : (some true) = some r := by rw [if_pos rfl] at H; exact H); clear H; have H := H1; clear H1; obtain rfl := Option.some.inj H; go_wp2; go_ret; exact ⟨by first | rfl | (simp <;> rfl) | (simp [*] <;> rfl), by repeat (first | (with_reducible first | exact HB.out | apply below_alloc | apply pw_below_drewN | apply below_drew1) | exact HB.out)⟩
   ·replace c5 := Bool.eq_false_iff.mpr c5; subst c5; (have H1 : ((spec_DrawPackSize.f kj2 l0).bind fun t898 => ((impl_PackSize.f kj2 t898).bind fun t901 => ((spec_PackSize.f kj2 t898).bind fun t902 => (if t901 = t902 then (laws_FnPackFew.j1 kj2 l1 t898 t901 (decide (t901 < 0))) else (laws_FnPackFew.j1 kj2 l1 t898 t901 true))))) = some r := by rw [if_neg (show ¬ (false = true) by decide)] at H; exact H); clear H; have H := H1; clear H1; replace H := Option.bind_eq_some_iff.mp H; obtain ⟨t898, A60, H⟩ := H; replace H : ((impl_PackSize.f kj2 t898).bind fun t901 => ((spec_PackSize.f kj2 t898).bind fun t902 => (if t901 = t902 then (laws_FnPackFew.j1 kj2 l1 t898 t901 (decide (t901 < 0))) else (laws_FnPackFew.j1 kj2 l1 t898 t901 true)))) = some r := H; have A6 := Aside0.mk A60; clear A60; replace H := Option.bind_eq_some_iff.mp H; obtain ⟨t901, A70, H⟩ := H; replace H : ((spec_PackSize.f kj2 t898).bind fun t902 => (if t901 = t902 then (laws_FnPackFew.j1 kj2 l1 t898 t901 (decide (t901 < 0))) else (laws_FnPackFew.j1 kj2 l1 t898 t901 true))) = some r := H; have A7 := Aside0.mk A70; clear A70; have HC8 := Aside0.mk H; clear H; (go_upto_region 5 with (first | ((with_reducible refine gate_callee (f := 43) rfl ?_); refine goesL_ (some 23) rfl rfl Try.func43 (by kernel_rfl) rfl #[.slice A0 l0.length c0] rfl (by (try simp only [List.map_toArray, List.map_cons, List.map_nil]); first | done | rfl | (simp only [List.length_drop, List.length_take]; rfl)) ?_; (with_reducible refine (spec_DrawPackSize.calls kj2 _ _ l0 t898 _ ?side1 ?side2 A6.out).mono ?_); (case side1 => repeat (first | exact (Kd.C_below HR0.out HB.out) | (with_reducible refine Kd.C_alloc ?_ _) | (with_reducible refine Kd.C_drewN ?_ _) | (with_reducible refine Kd.C_drew ?_))); (case side2 => exact HC0.out); rintro e w9 ⟨v899, rfl, ho0, hb⟩; refine ⟨_, rfl, ?_⟩; have n0_ := Aside0.mk (Kd.S_lower ho0 (below_size (by repeat (first | (with_reducible first | exact HB.out | apply below_alloc | apply pw_below_drewN | apply below_drew1) | exact HB.out)))); have n1_ := Aside0.mk (below_step (by repeat (first | (with_reducible first | exact HB.out | apply below_alloc | apply pw_below_drewN | apply below_drew1) | exact HB.out)) hb); clear HB; have HO900 := n0_; have HB := n1_; clear n0_ n1_; (try clear hb); (try clear hb2); (try clear hk); (try clear hi); (try clear ho0); obtain ⟨Ao10, co10, eo10⟩ := Kd.S_slice HO900.out; subst eo10) | ((with_reducible refine gate_callee (f := 44) rfl ?_); refine goesL_ (some 25) rfl rfl Try.func44 (by kernel_rfl) rfl #[.slice Ao10 t898.length co10] rfl (by (try simp only [List.map_toArray, List.map_cons, List.map_nil]); first | done | rfl | (simp only [List.length_drop, List.length_take]; rfl)) ?_; (with_reducible refine (impl_PackSize.calls kj2 _ _ t898 t901 _ ?side1 ?side2 A7.out).mono ?_); (case side1 => repeat (first | exact (Kd.S_reads' HO900.out).2.2 | (with_reducible refine Kd.C_alloc ?_ _) | (with_reducible refine Kd.C_drewN ?_ _) | (with_reducible refine Kd.C_drew ?_))); (case side2 => exact (Kd.S_reads' HO900.out).2.1); rintro e w11 ⟨rfl, hb⟩; refine ⟨_, rfl, ?_⟩; have n0_ := Aside0.mk (Kd.S_below (by (with_reducible repeat (first | apply Kd.S_alloc | apply Kd.S_drewN | apply Kd.S_drew)); exact HO900.out) hb); have n1_ := Aside0.mk (below_step (by repeat (first | (with_reducible first | exact HB.out | apply below_alloc | apply pw_below_drewN | apply below_drew1) | exact HB.out)) hb); clear HO900; clear HB; have HO900 := n0_; have HB := n1_; clear n0_ n1_; (try clear hb); (try clear hb2); (try clear hk); (try clear hi))))
    (try simp only [Act.put, List.setIfInBounds_toArray, List.set_cons_zero, List.set_cons_succ])
    go_cut [33] (fun v33 wc => ∃ (kq : Nat) (x33_7 : Bool), v33 = .bool x33_7 ∧ Aside0 (laws_FnPackFew.j1 kq l1 t898 t901 x33_7 = some r) ∧ Aside0 (kq ≤ kj2) ∧ Aside0 (Kd.S k53 53 wc w.heap.size (fun _ => True) (.slice Ao10 t898.length co10) t898) ∧ Aside0 (Below w.heap.size w wc))
    case first =>
     have H := HC8.out; clear HC8; replace H := Option.bind_eq_some_iff.mp H; obtain ⟨t902, A120, H⟩ := H; replace H : (if t901 = t902 then (laws_FnPackFew.j1 kj2 l1 t898 t901 (decide (t901 < 0))) else (laws_FnPackFew.j1 kj2 l1 t898 t901 true)) = some r := H; have A12 := Aside0.mk A120; clear A120; by_cases c13 : t901 = t902
     ·rw [if_pos c13] at H; have c13b0 : (t901 == t902) = true := beq_iff_eq.mpr c13; have c13b1 : (t901 != t902) = false := bne_eq_false_iff_eq.mpr c13; clear c13
      (first | rw [c13b0] | (simp only [i64_w, i32_w]; rw [c13b0]) | skip)
      have H' := Aside0.mk H; clear H; go_wp2_with (first | ((with_reducible refine gate_callee (f := 45) rfl ?_); refine goesL_ (some 28) rfl rfl Try.func45 (by kernel_rfl) rfl #[.slice Ao10 t898.length co10] rfl (by (try simp only [List.map_toArray, List.map_cons, List.map_nil]); first | done | rfl | (simp only [List.length_drop, List.length_take]; rfl)) ?_; (with_reducible refine (spec_PackSize.calls kj2 _ _ t898 t902 _ ?side1 ?side2 A12.out).mono ?_); (case side1 => repeat (first | exact (Kd.S_reads' HO900.out).2.2 | (with_reducible refine Kd.C_alloc ?_ _) | (with_reducible refine Kd.C_drewN ?_ _) | (with_reducible refine Kd.C_drew ?_))); (case side2 => exact (Kd.S_reads' HO900.out).2.1); rintro e w14 ⟨rfl, hb⟩; refine ⟨_, rfl, ?_⟩; have n0_ := Aside0.mk (Kd.S_below (by (with_reducible repeat (first | apply Kd.S_alloc | apply Kd.S_drewN | apply Kd.S_drew)); exact HO900.out) hb); have n1_ := Aside0.mk (below_step (by repeat (first | (with_reducible first | exact HB.out | apply below_alloc | apply pw_below_drewN | apply below_drew1) | exact HB.out)) hb); clear HO900; clear HB; have HO900 := n0_; have HB := n1_; clear n0_ n1_; (try clear hb); (try clear hb2); (try clear hk); (try clear hi))); go_meet
      case rel => exact ⟨_, (decide (t901 < 0)), (by first | rfl | (simp; done) | (simp [*]; done)), H', ⟨by have := HJ2.out; first | omega | exact Nat.le_refl _⟩, ⟨by (with_reducible repeat (first | apply Kd.S_alloc | apply Kd.S_drewN | apply Kd.S_drew)); exact HO900.out⟩, ⟨by repeat (first | (with_reducible first | exact HB.out | apply below_alloc | apply pw_below_drewN | apply below_drew1) | exact HB.out)⟩⟩
     ·rw [if_neg c13] at H; have c13b0 : (t901 == t902) = false := beq_eq_false_iff_ne.mpr c13; have c13b1 : (t901 != t902) = true := bne_iff_ne.mpr c13
      (first | rw [c13b0] | (simp only [i64_w, i32_w]; rw [c13b0]) | skip)
      have H' := Aside0.mk H; clear H; go_wp2_with (first | ((with_reducible refine gate_callee (f := 45) rfl ?_); refine goesL_ (some 28) rfl rfl Try.func45 (by kernel_rfl) rfl #[.slice Ao10 t898.length co10] rfl (by (try simp only [List.map_toArray, List.map_cons, List.map_nil]); first | done | rfl | (simp only [List.length_drop, List.length_take]; rfl)) ?_; (with_reducible refine (spec_PackSize.calls kj2 _ _ t898 t902 _ ?side1 ?side2 A12.out).mono ?_); (case side1 => repeat (first | exact (Kd.S_reads' HO900.out).2.2 | (with_reducible refine Kd.C_alloc ?_ _) | (with_reducible refine Kd.C_drewN ?_ _) | (with_reducible refine Kd.C_drew ?_))); (case side2 => exact (Kd.S_reads' HO900.out).2.1); rintro e w15 ⟨rfl, hb⟩; refine ⟨_, rfl, ?_⟩; have n0_ := Aside0.mk (Kd.S_below (by (with_reducible repeat (first | apply Kd.S_alloc | apply Kd.S_drewN | apply Kd.S_drew)); exact HO900.out) hb); have n1_ := Aside0.mk (below_step (by repeat (first | (with_reducible first | exact HB.out | apply below_alloc | apply pw_below_drewN | apply below_drew1) | exact HB.out)) hb); clear HO900; clear HB; have HO900 := n0_; have HB := n1_; clear n0_ n1_; (try clear hb); (try clear hb2); (try clear hk); (try clear hi))); go_meet
      case rel => exact ⟨_, (true), (by first | rfl | (simp; done) | (simp [*]; done)), H', ⟨by have := HJ2.out; first | omega | exact Nat.le_refl _⟩, ⟨by (with_reducible repeat (first | apply Kd.S_alloc | apply Kd.S_drewN | apply Kd.S_drew)); exact HO900.out⟩, ⟨by repeat (first | (with_reducible first | exact HB.out | apply below_alloc | apply pw_below_drewN | apply below_drew1) | exact HB.out)⟩⟩
    case rest =>
     clear HC8; (try clear c1); (try clear p2); (try clear c4); (try clear c4b0); (try clear c4b1); (try clear c5); (try clear c9); (try clear c13); (try clear c13b0); (try clear c13b1); (try clear p2); obtain ⟨kq, x33_7, rfl, HA, HJ7, HO_5, HB⟩ := hcut
     cases kq with
     | zero => exact absurd HA.out (by simp [laws_FnPackFew.j1])
     | succ kj7 =>
      have H := HA.out; clear HA; simp only [laws_FnPackFew.j1] at H; by_cases c16 : x33_7 = true
      ·subst c16; (have H1 : ((spec_PackSize.f kj7 t898).bind fun t903 => (if t901 = t903 then ((impl_PackOk.f kj7 t898).bind fun t904 => (some (!t904))) else (some false))) = some r := by rw [if_pos rfl] at H; exact H); clear H; have H := H1; clear H1; replace H := Option.bind_eq_some_iff.mp H; obtain ⟨t903, A170, H⟩ := H; replace H : (if t901 = t903 then ((impl_PackOk.f kj7 t898).bind fun t904 => (some (!t904))) else (some false)) = some r := H; have A17 := Aside0.mk A170; clear A170; by_cases c18 : t901 = t903
       ·rw [if_pos c18] at H; have c18b0 : (t901 == t903) = true := beq_iff_eq.mpr c18; have c18b1 : (t901 != t903) = false := bne_eq_false_iff_eq.mpr c18; clear c18; replace H := Option.bind_eq_some_iff.mp H; obtain ⟨t904, A190, H⟩ := H; replace H : (some (!t904)) = some r := H; have A19 := Aside0.mk A190; clear A190; obtain rfl := Option.some.inj H; go_wp2_with (first | ((with_reducible refine gate_callee (f := 45) rfl ?_); refine goesL_ (some 36) rfl rfl Try.func45 (by kernel_rfl) rfl #[.slice Ao10 t898.length co10] rfl (by (try simp only [List.map_toArray, List.map_cons, List.map_nil]); first | done | rfl | (simp only [List.length_drop, List.length_take]; rfl)) ?_; (with_reducible refine (spec_PackSize.calls kj7 _ _ t898 t903 _ ?side1 ?side2 A17.out).mono ?_); (case side1 => repeat (first | exact (Kd.S_reads' HO_5.out).2.2 | (with_reducible refine Kd.C_alloc ?_ _) | (with_reducible refine Kd.C_drewN ?_ _) | (with_reducible refine Kd.C_drew ?_))); (case side2 => exact (Kd.S_reads' HO_5.out).2.1); rintro e w20 ⟨rfl, hb⟩; refine ⟨_, rfl, ?_⟩; have n0_ := Aside0.mk (Kd.S_below (by (with_reducible repeat (first | apply Kd.S_alloc | apply Kd.S_drewN | apply Kd.S_drew)); exact HO_5.out) hb); have n1_ := Aside0.mk (below_step (by repeat (first | (with_reducible first | exact HB.out | apply below_alloc | apply pw_below_drewN | apply below_drew1) | exact HB.out)) hb); clear HO_5; clear HB; have HO_5 := n0_; have HB := n1_; clear n0_ n1_; (try clear hb); (try clear hb2); (try clear hk); (try clear hi)) | (go_at_call 41; (with_reducible refine (impl_PackOk.calls kj7 _ _ t898 t904 _ ?side1 ?side2 A19.out).mono ?_); (case side1 => repeat (first | exact (Kd.S_reads' HO_5.out).2.2 | (with_reducible refine Kd.C_alloc ?_ _) | (with_reducible refine Kd.C_drewN ?_ _) | (with_reducible refine Kd.C_drew ?_))); (case side2 => exact (Kd.S_reads' HO_5.out).2.1); rintro e w21 ⟨rfl, hb⟩; have n0_ := Aside0.mk (Kd.S_below (by (with_reducible repeat (first | apply Kd.S_alloc | apply Kd.S_drewN | apply Kd.S_drew)); exact HO_5.out) hb); have n1_ := Aside0.mk (below_step (by repeat (first | (with_reducible first | exact HB.out | apply below_alloc | apply pw_below_drewN | apply below_drew1) | exact HB.out)) hb); clear HO_5; clear HB; have HO_5 := n0_; have HB := n1_; clear n0_ n1_; (try clear hb); (try clear hb2); (try clear hk); (try clear hi))); go_ret; exact ⟨by first | rfl | (simp <;> rfl) | (simp [*] <;> rfl), by repeat (first | (with_reducible first | exact HB.out | apply below_alloc | apply pw_below_drewN | apply below_drew1) | exact HB.out)⟩
       ·rw [if_neg c18] at H; have c18b0 : (t901 == t903) = false := beq_eq_false_iff_ne.mpr c18; have c18b1 : (t901 != t903) = true := bne_iff_ne.mpr c18; obtain rfl := Option.some.inj H; go_wp2_with (first | ((with_reducible refine gate_callee (f := 45) rfl ?_); refine goesL_ (some 36) rfl rfl Try.func45 (by kernel_rfl) rfl #[.slice Ao10 t898.length co10] rfl (by (try simp only [List.map_toArray, List.map_cons, List.map_nil]); first | done | rfl | (simp only [List.length_drop, List.length_take]; rfl)) ?_; (with_reducible refine (spec_PackSize.calls kj7 _ _ t898 t903 _ ?side1 ?side2 A17.out).mono ?_); (case side1 => repeat (first | exact (Kd.S_reads' HO_5.out).2.2 | (with_reducible refine Kd.C_alloc ?_ _) | (with_reducible refine Kd.C_drewN ?_ _) | (with_reducible refine Kd.C_drew ?_))); (case side2 => exact (Kd.S_reads' HO_5.out).2.1); rintro e w22 ⟨rfl, hb⟩; refine ⟨_, rfl, ?_⟩; have n0_ := Aside0.mk (Kd.S_below (by (with_reducible repeat (first | apply Kd.S_alloc | apply Kd.S_drewN | apply Kd.S_drew)); exact HO_5.out) hb); have n1_ := Aside0.mk (below_step (by repeat (first | (with_reducible first | exact HB.out | apply below_alloc | apply pw_below_drewN | apply below_drew1) | exact HB.out)) hb); clear HO_5; clear HB; have HO_5 := n0_; have HB := n1_; clear n0_ n1_; (try clear hb); (try clear hb2); (try clear hk); (try clear hi))); go_ret; exact ⟨by first | rfl | (simp <;> rfl) | (simp [*] <;> rfl), by repeat (first | (with_reducible first | exact HB.out | apply below_alloc | apply pw_below_drewN | apply below_drew1) | exact HB.out)⟩
      ·replace c16 := Bool.eq_false_iff.mpr c16; subst c16; (have H1 : (if (wrap64 ((t898.length : Int) + 1)) = 0 then (none) else (if 0 ≤ ((l1.length : Int) % (wrap64 ((t898.length : Int) + 1))) then (if ((l1.length : Int) % (wrap64 ((t898.length : Int) + 1))) ≤ (t898.length : Int) then (laws_FnPackFew.l0 kj7 t898 t901 ((l1.length : Int) % (wrap64 ((t898.length : Int) + 1))) (t898.take (((l1.length : Int) % (wrap64 ((t898.length : Int) + 1))) : Int).toNat) 0) else (none)) else (none))) = some r := by rw [if_neg (show ¬ (false = true) by decide)] at H; exact H); clear H; have H := H1; clear H1; by_cases c23 : (wrap64 ((t898.length : Int) + 1)) = 0
       ·rw [if_pos c23] at H; exact absurd H (by simp)
       ·rw [if_neg c23] at H; have c23b0 : ((wrap64 ((t898.length : Int) + 1)) == 0) = false := beq_eq_false_iff_ne.mpr c23; have c23b1 : ((wrap64 ((t898.length : Int) + 1)) != 0) = true := bne_iff_ne.mpr c23; obtain ⟨ji24, hji24⟩ : ∃ j_ : Int, ((l1.length : Int) % (wrap64 ((t898.length : Int) + 1))) = j_ := ⟨_, rfl⟩; (replace H : (if 0 ≤ (ji24) then (if (ji24) ≤ (t898.length : Int) then (laws_FnPackFew.l0 kj7 t898 t901 ji24 (t898.take ((ji24) : Int).toNat) 0) else (none)) else (none)) = some r := by first | (rw [hji24] at H; exact H) | (simp only [hji24] at H ⊢; exact H)); by_cases c25 : 0 ≤ (ji24)
        ·rw [if_pos c25] at H; have c25b0 := eq_true c25; have c25b1 : decide (0 ≤ (ji24)) = true := decide_eq_true c25; clear c25; by_cases c26 : (ji24) ≤ (t898.length : Int)
         ·rw [if_pos c26] at H; have c26b0 := eq_true c26; have c26b1 : decide ((ji24) ≤ (t898.length : Int)) = true := decide_eq_true c26; clear c26; obtain ⟨y905, hy905⟩ : ∃ y_ : List (S53), y_ = (t898.take ((ji24) : Int).toNat) := ⟨_, rfl⟩; (replace H : (laws_FnPackFew.l0 kj7 t898 t901 ji24 y905 0) = some r := by first | (rw [hy905]; with_reducible exact H) | (have H2_ := (Option.bind_some _ _).symm.trans H; rw [hy905]; with_reducible exact H2_) | (have H2_ := (Option.bind_some _ _).symm.trans H; with_reducible exact H2_) | with_reducible exact H | (rw [hy905]; exact H) | exact H); have Ny905 := Aside0.mk hy905; clear hy905; have H' := Aside0.mk H; clear H; have q27 : ((ji24) : Int) ≤ ((t898.length : Int) : Int) := of_decide_eq_true (by assumption); obtain ⟨i027, hi027, _, hsz27, _⟩ := info_parts info53; have hroom27 : t898.length ≤ co10 := (Kd.S_reads' HO_5.out).2.1; have hC27 : Kd.C k53 _ Ao10 t898.length t898 := (Kd.S_reads' HO_5.out).2.2; have hcut27 := cut_to (P := Try.prog) 47 53 .i64 Try.underlying47 hi027 Ao10 t898.length co10 (ji24) (of_decide_eq_true (by assumption)) q27 hroom27; have hr27 := Kd.C_take (m := ((ji24) : Int).toNat) hC27 (by omega); have hy27 : y905.length = ((ji24) : Int).toNat := (by rw [Ny905.out, List.length_take]; omega); rw [← Ny905.out] at hr27; rw [← hy27] at hcut27; have HR908 := Aside0.mk hr27; have HC908 := Aside0.mk (show y905.length ≤ co10 from by omega); clear hr27 hC27 hroom27 hi027 hsz27; have KY27 := Aside0.mk hy27; clear hy27; have KL27 := Aside0.mk (show ((ji24) : Int).toNat ≤ t898.length from by omega); replace q27 := eq_true q27; go_wp2
          (try simp only [hji24])
          go_loopg [9] kj7 (fun kq v9 w' => ∃ (x9_3 : Int), v9 = .int .i64 x9_3 ∧ Aside0 (laws_FnPackFew.l0 kq t898 t901 ji24 y905 x9_3 = some r) ∧ Aside0 (kq ≤ kj7) ∧ Aside0 (Kd.S k53 53 w' w.heap.size (fun _ => True) (.slice Ao10 t898.length co10) t898) ∧ Aside0 (Kd.C k53 w' Ao10 y905.length y905) ∧ Aside0 (Below w.heap.size w w'))
          case atStart => exact ⟨(0), (by first | rfl | (simp; done) | (simp [*]; done)), H', ⟨Nat.le_refl _⟩, ⟨by (with_reducible repeat (first | apply Kd.S_alloc | apply Kd.S_drewN | apply Kd.S_drew)); exact HO_5.out⟩, ⟨by repeat (first | (with_reducible exact HR908.out) | (with_reducible refine Kd.C_alloc ?_ _) | (with_reducible refine Kd.C_drewN ?_ _) | (with_reducible refine Kd.C_drew ?_) | exact HR908.out)⟩, ⟨by repeat (first | (with_reducible first | exact HB.out | apply below_alloc | apply pw_below_drewN | apply below_drew1) | exact HB.out)⟩⟩
          case round =>
           clear H'; (try clear c1); (try clear c2); (try clear p2); (try clear q2); (try clear c4); (try clear c4b0); (try clear c4b1); (try clear c5); (try clear p6); (try clear c9); (try clear c13); (try clear c13b0); (try clear c13b1); (try clear c16); (try clear c18); (try clear c18b0); (try clear c18b1); (try clear c23); (try clear c23b0); (try clear c23b1); (try clear c25); (try clear c25b0); (try clear c25b1); (try clear c26); (try clear c26b0); (try clear c26b1); (try clear q27); (try clear p2); (try clear q27); obtain ⟨x9_3, rfl, HA, HK3, HO_5, HR908, HB⟩ := hrel
           cases gk with
           | zero => exact absurd HA.out (by simp [laws_FnPackFew.l0])
           | succ k3 =>
            have H := HA.out; clear HA; simp only [laws_FnPackFew.l0] at H; by_cases c28 : x9_3 < ji24
            ·rw [if_pos c28] at H; have c28b0 : decide (x9_3 < ji24) = true := decide_eq_true c28; clear c28; replace H := Option.bind_eq_some_iff.mp H; obtain ⟨⟨t911, t912⟩, A290, H⟩ := H; replace H : ((impl_PackGet.f k3 y905 x9_3).bind fun bt915 => (if t912 = true then (if bt915.2 = true then ((laws_smTexts.f k3 t911 bt915.1).bind fun t919 => (if t919 = true then (laws_FnPackFew.l0 k3 t898 t901 ji24 y905 (wrap64 (x9_3 + 1))) else (some false))) else (some false)) else (some false))) = some r := H; have A29 := Aside0.mk A290; clear A290; replace H := Option.bind_eq_some_iff.mp H; obtain ⟨⟨t915, t916⟩, A300, H⟩ := H; replace H : (if t912 = true then (if t916 = true then ((laws_smTexts.f k3 t911 t915).bind fun t919 => (if t919 = true then (laws_FnPackFew.l0 k3 t898 t901 ji24 y905 (wrap64 (x9_3 + 1))) else (some false))) else (some false)) else (some false)) = some r := H; have A30 := Aside0.mk A300; clear A300; by_cases c31 : t912 = true
             ·subst c31; (have H1 : (if t916 = true then ((laws_smTexts.f k3 t911 t915).bind fun t919 => (if t919 = true then (laws_FnPackFew.l0 k3 t898 t901 ji24 y905 (wrap64 (x9_3 + 1))) else (some false))) else (some false)) = some r := by rw [if_pos rfl] at H; exact H); clear H; have H := H1; clear H1; by_cases c32 : t916 = true
              ·subst c32; (have H1 : ((laws_smTexts.f k3 t911 t915).bind fun t919 => (if t919 = true then (laws_FnPackFew.l0 k3 t898 t901 ji24 y905 (wrap64 (x9_3 + 1))) else (some false))) = some r := by rw [if_pos rfl] at H; exact H); clear H; have H := H1; clear H1; replace H := Option.bind_eq_some_iff.mp H; obtain ⟨t919, A330, H⟩ := H; replace H : (if t919 = true then (laws_FnPackFew.l0 k3 t898 t901 ji24 y905 (wrap64 (x9_3 + 1))) else (some false)) = some r := H; have A33 := Aside0.mk A330; clear A330; by_cases c34 : t919 = true
               ·subst c34; (have H1 : (laws_FnPackFew.l0 k3 t898 t901 ji24 y905 (wrap64 (x9_3 + 1))) = some r := by rw [if_pos rfl] at H; exact H); clear H; have H := H1; clear H1; have H' := Aside0.mk H; clear H; go_wp2_with (first | ((with_reducible refine gate_callee (f := 39) rfl ?_); refine goesL_ (some 60) rfl rfl Try.func39 (by kernel_rfl) rfl #[.slice Ao10 t898.length co10, .int .i64 x9_3] rfl (by (try simp only [List.map_toArray, List.map_cons, List.map_nil]); first | done | rfl | (simp only [List.length_drop, List.length_take]; rfl)) ?_; (with_reducible refine (impl_PackGet.calls k3 _ _ t898 x9_3 t911 true _ ?side1 ?side2 A29.out).mono ?_); (case side1 => repeat (first | exact (Kd.S_reads' HO_5.out).2.2 | (with_reducible refine Kd.C_alloc ?_ _) | (with_reducible refine Kd.C_drewN ?_ _) | (with_reducible refine Kd.C_drew ?_))); (case side2 => exact (Kd.S_reads' HO_5.out).2.1); rintro e w35 ⟨v913, rfl, ho0, hb⟩; refine ⟨_, rfl, ?_⟩; have n0_ := Aside0.mk (Kd.S_elder' (by (with_reducible repeat (first | apply Kd.S_alloc | apply Kd.S_drewN | apply Kd.S_drew)); exact HO_5.out) (Kd.R_base ho0) hb); have n1_ := Aside0.mk (Kd.R_lower ho0 (below_size (by repeat (first | (with_reducible first | exact HB.out | apply below_alloc | apply pw_below_drewN | apply below_drew1) | exact HB.out)))); have n2_ := Aside0.mk (Kd.C_below (by repeat (first | (with_reducible exact HR908.out) | (with_reducible refine Kd.C_alloc ?_ _) | (with_reducible refine Kd.C_drewN ?_ _) | (with_reducible refine Kd.C_drew ?_) | exact HR908.out)) hb); have n3_ := Aside0.mk (below_step (by repeat (first | (with_reducible first | exact HB.out | apply below_alloc | apply pw_below_drewN | apply below_drew1) | exact HB.out)) hb); clear HO_5; clear HR908; clear HB; have HO_5 := n0_; have HO914 := n1_; have HR908 := n2_; have HB := n3_; clear n0_ n1_ n2_ n3_; (try clear hb); (try clear hb2); (try clear hk); (try clear hi); (try clear ho0)) | ((with_reducible refine gate_callee (f := 39) rfl ?_); refine goesL_ (some 66) rfl rfl Try.func39 (by kernel_rfl) rfl #[.slice Ao10 y905.length co10, .int .i64 x9_3] rfl (by (try simp only [List.map_toArray, List.map_cons, List.map_nil]); first | done | rfl | (simp only [List.length_drop, List.length_take]; rfl)) ?_; (with_reducible refine (impl_PackGet.calls k3 _ _ y905 x9_3 t915 true _ ?side1 ?side2 A30.out).mono ?_); (case side1 => repeat (first | exact HR908.out | (with_reducible refine Kd.C_alloc ?_ _) | (with_reducible refine Kd.C_drewN ?_ _) | (with_reducible refine Kd.C_drew ?_))); (case side2 => exact HC908.out); rintro e w36 ⟨v917, rfl, ho0, hb⟩; refine ⟨_, rfl, ?_⟩; have n0_ := Aside0.mk (Kd.S_elder' (by (with_reducible repeat (first | apply Kd.S_alloc | apply Kd.S_drewN | apply Kd.S_drew)); exact HO_5.out) (Kd.R_base ho0) hb); have n1_ := Aside0.mk (Kd.R_elder' (by (with_reducible repeat (first | apply Kd.R_alloc | apply Kd.R_drewN | apply Kd.R_drew)); exact HO914.out) (Kd.R_base ho0) hb); have n2_ := Aside0.mk (Kd.R_lower (Kd.R_new' ho0 (Kd.R_lt (by (with_reducible repeat (first | apply Kd.R_alloc | apply Kd.R_drewN | apply Kd.R_drew)); exact HO914.out))) (below_size (by repeat (first | (with_reducible first | exact HB.out | apply below_alloc | apply pw_below_drewN | apply below_drew1) | exact HB.out)))); have n3_ := Aside0.mk (Kd.C_below (by repeat (first | (with_reducible exact HR908.out) | (with_reducible refine Kd.C_alloc ?_ _) | (with_reducible refine Kd.C_drewN ?_ _) | (with_reducible refine Kd.C_drew ?_) | exact HR908.out)) hb); have n4_ := Aside0.mk (below_step (by repeat (first | (with_reducible first | exact HB.out | apply below_alloc | apply pw_below_drewN | apply below_drew1) | exact HB.out)) hb); clear HO_5; clear HO914; clear HR908; clear HB; have HO_5 := n0_; have HO914 := n1_; have HO918 := n2_; have HR908 := n3_; have HB := n4_; clear n0_ n1_ n2_ n3_ n4_; (try clear hb); (try clear hb2); (try clear hk); (try clear hi); (try clear ho0); obtain ⟨Ao37, co37, eo37⟩ := Kd.R_slice HO914.out; subst eo37; obtain ⟨Ao38, co38, eo38⟩ := Kd.R_slice HO918.out; subst eo38) | (go_at_call 26; (with_reducible refine (laws_smTexts.calls k3 _ _ t911 _ _ t915 true _ ?side1 ?side2 ?side3 ?side4 A33.out).mono ?_); (case side1 => repeat (first | exact (Kd.R_reads' HO914.out).2.2 | (with_reducible refine Kd.C_alloc ?_ _) | (with_reducible refine Kd.C_drewN ?_ _) | (with_reducible refine Kd.C_drew ?_))); (case side2 => exact (Kd.R_reads' HO914.out).2.1); (case side3 => repeat (first | exact (Kd.R_reads' HO918.out).2.2 | (with_reducible refine Kd.C_alloc ?_ _) | (with_reducible refine Kd.C_drewN ?_ _) | (with_reducible refine Kd.C_drew ?_))); (case side4 => exact (Kd.R_reads' HO918.out).2.1); rintro e w' ⟨rfl, ⟨nd, rfl⟩⟩))
                go_roundg k3
                case measure => have := HJ2.out; have := HJ7.out; have := HK3.out; omega
                case rel => exact ⟨(wrap64 (x9_3 + 1)), (by first | rfl | (simp; done) | (simp [*]; done)), H', ⟨by have := HJ2.out; have := HJ7.out; have := HK3.out; omega⟩, ⟨by (with_reducible repeat (first | apply Kd.S_alloc | apply Kd.S_drewN | apply Kd.S_drew)); exact Kd.S_mono HO_5.out (fun _ hk => trivial)⟩, ⟨by repeat (first | (with_reducible exact HR908.out) | (with_reducible refine Kd.C_alloc ?_ _) | (with_reducible refine Kd.C_drewN ?_ _) | (with_reducible refine Kd.C_drew ?_) | exact HR908.out)⟩, ⟨by repeat (first | (with_reducible first | exact HB.out | apply below_alloc | apply pw_below_drewN | apply below_drew1) | exact HB.out)⟩⟩
               ·replace c34 := Bool.eq_false_iff.mpr c34; subst c34; (have H1 : (some false) = some r := by rw [if_neg (show ¬ (false = true) by decide)] at H; exact H); clear H; have H := H1; clear H1; obtain rfl := Option.some.inj H; go_wp2_with (first | ((with_reducible refine gate_callee (f := 39) rfl ?_); refine goesL_ (some 60) rfl rfl Try.func39 (by kernel_rfl) rfl #[.slice Ao10 t898.length co10, .int .i64 x9_3] rfl (by (try simp only [List.map_toArray, List.map_cons, List.map_nil]); first | done | rfl | (simp only [List.length_drop, List.length_take]; rfl)) ?_; (with_reducible refine (impl_PackGet.calls k3 _ _ t898 x9_3 t911 true _ ?side1 ?side2 A29.out).mono ?_); (case side1 => repeat (first | exact (Kd.S_reads' HO_5.out).2.2 | (with_reducible refine Kd.C_alloc ?_ _) | (with_reducible refine Kd.C_drewN ?_ _) | (with_reducible refine Kd.C_drew ?_))); (case side2 => exact (Kd.S_reads' HO_5.out).2.1); rintro e w39 ⟨v913, rfl, ho0, hb⟩; refine ⟨_, rfl, ?_⟩; have n0_ := Aside0.mk (Kd.S_elder' (by (with_reducible repeat (first | apply Kd.S_alloc | apply Kd.S_drewN | apply Kd.S_drew)); exact HO_5.out) (Kd.R_base ho0) hb); have n1_ := Aside0.mk (Kd.R_lower ho0 (below_size (by repeat (first | (with_reducible first | exact HB.out | apply below_alloc | apply pw_below_drewN | apply below_drew1) | exact HB.out)))); have n2_ := Aside0.mk (Kd.C_below (by repeat (first | (with_reducible exact HR908.out) | (with_reducible refine Kd.C_alloc ?_ _) | (with_reducible refine Kd.C_drewN ?_ _) | (with_reducible refine Kd.C_drew ?_) | exact HR908.out)) hb); have n3_ := Aside0.mk (below_step (by repeat (first | (with_reducible first | exact HB.out | apply below_alloc | apply pw_below_drewN | apply below_drew1) | exact HB.out)) hb); clear HO_5; clear HR908; clear HB; have HO_5 := n0_; have HO914 := n1_; have HR908 := n2_; have HB := n3_; clear n0_ n1_ n2_ n3_; (try clear hb); (try clear hb2); (try clear hk); (try clear hi); (try clear ho0)) | ((with_reducible refine gate_callee (f := 39) rfl ?_); refine goesL_ (some 66) rfl rfl Try.func39 (by kernel_rfl) rfl #[.slice Ao10 y905.length co10, .int .i64 x9_3] rfl (by (try simp only [List.map_toArray, List.map_cons, List.map_nil]); first | done | rfl | (simp only [List.length_drop, List.length_take]; rfl)) ?_; (with_reducible refine (impl_PackGet.calls k3 _ _ y905 x9_3 t915 true _ ?side1 ?side2 A30.out).mono ?_); (case side1 => repeat (first | exact HR908.out | (with_reducible refine Kd.C_alloc ?_ _) | (with_reducible refine Kd.C_drewN ?_ _) | (with_reducible refine Kd.C_drew ?_))); (case side2 => exact HC908.out); rintro e w40 ⟨v917, rfl, ho0, hb⟩; refine ⟨_, rfl, ?_⟩; have n0_ := Aside0.mk (Kd.S_elder' (by (with_reducible repeat (first | apply Kd.S_alloc | apply Kd.S_drewN | apply Kd.S_drew)); exact HO_5.out) (Kd.R_base ho0) hb); have n1_ := Aside0.mk (Kd.R_elder' (by (with_reducible repeat (first | apply Kd.R_alloc | apply Kd.R_drewN | apply Kd.R_drew)); exact HO914.out) (Kd.R_base ho0) hb); have n2_ := Aside0.mk (Kd.R_lower (Kd.R_new' ho0 (Kd.R_lt (by (with_reducible repeat (first | apply Kd.R_alloc | apply Kd.R_drewN | apply Kd.R_drew)); exact HO914.out))) (below_size (by repeat (first | (with_reducible first | exact HB.out | apply below_alloc | apply pw_below_drewN | apply below_drew1) | exact HB.out)))); have n3_ := Aside0.mk (Kd.C_below (by repeat (first | (with_reducible exact HR908.out) | (with_reducible refine Kd.C_alloc ?_ _) | (with_reducible refine Kd.C_drewN ?_ _) | (with_reducible refine Kd.C_drew ?_) | exact HR908.out)) hb); have n4_ := Aside0.mk (below_step (by repeat (first | (with_reducible first | exact HB.out | apply below_alloc | apply pw_below_drewN | apply below_drew1) | exact HB.out)) hb); clear HO_5; clear HO914; clear HR908; clear HB; have HO_5 := n0_; have HO914 := n1_; have HO918 := n2_; have HR908 := n3_; have HB := n4_; clear n0_ n1_ n2_ n3_ n4_; (try clear hb); (try clear hb2); (try clear hk); (try clear hi); (try clear ho0); obtain ⟨Ao41, co41, eo41⟩ := Kd.R_slice HO914.out; subst eo41; obtain ⟨Ao42, co42, eo42⟩ := Kd.R_slice HO918.out; subst eo42) | (go_at_call 26; (with_reducible refine (laws_smTexts.calls k3 _ _ t911 _ _ t915 false _ ?side1 ?side2 ?side3 ?side4 A33.out).mono ?_); (case side1 => repeat (first | exact (Kd.R_reads' HO914.out).2.2 | (with_reducible refine Kd.C_alloc ?_ _) | (with_reducible refine Kd.C_drewN ?_ _) | (with_reducible refine Kd.C_drew ?_))); (case side2 => exact (Kd.R_reads' HO914.out).2.1); (case side3 => repeat (first | exact (Kd.R_reads' HO918.out).2.2 | (with_reducible refine Kd.C_alloc ?_ _) | (with_reducible refine Kd.C_drewN ?_ _) | (with_reducible refine Kd.C_drew ?_))); (case side4 => exact (Kd.R_reads' HO918.out).2.1); rintro e w' ⟨rfl, ⟨nd, rfl⟩⟩))
                go_ret; exact ⟨by first | rfl | (simp [errW_none, errW_some] <;> rfl) | (simp only [← hji24]; first | rfl | (simp [errW_none, errW_some] <;> rfl)) | (simp [*, errW_none, errW_some] <;> rfl), by repeat (first | (with_reducible first | exact HB.out | apply below_alloc | apply pw_below_drewN | apply below_drew1) | exact HB.out)⟩
              ·replace c32 := Bool.eq_false_iff.mpr c32; subst c32; (have H1 : (some false) = some r := by rw [if_neg (show ¬ (false = true) by decide)] at H; exact H); clear H; have H := H1; clear H1; obtain rfl := Option.some.inj H; go_wp2_with (first | ((with_reducible refine gate_callee (f := 39) rfl ?_); refine goesL_ (some 60) rfl rfl Try.func39 (by kernel_rfl) rfl #[.slice Ao10 t898.length co10, .int .i64 x9_3] rfl (by (try simp only [List.map_toArray, List.map_cons, List.map_nil]); first | done | rfl | (simp only [List.length_drop, List.length_take]; rfl)) ?_; (with_reducible refine (impl_PackGet.calls k3 _ _ t898 x9_3 t911 true _ ?side1 ?side2 A29.out).mono ?_); (case side1 => repeat (first | exact (Kd.S_reads' HO_5.out).2.2 | (with_reducible refine Kd.C_alloc ?_ _) | (with_reducible refine Kd.C_drewN ?_ _) | (with_reducible refine Kd.C_drew ?_))); (case side2 => exact (Kd.S_reads' HO_5.out).2.1); rintro e w43 ⟨v913, rfl, ho0, hb⟩; refine ⟨_, rfl, ?_⟩; have n0_ := Aside0.mk (Kd.S_elder' (by (with_reducible repeat (first | apply Kd.S_alloc | apply Kd.S_drewN | apply Kd.S_drew)); exact HO_5.out) (Kd.R_base ho0) hb); have n1_ := Aside0.mk (Kd.R_lower ho0 (below_size (by repeat (first | (with_reducible first | exact HB.out | apply below_alloc | apply pw_below_drewN | apply below_drew1) | exact HB.out)))); have n2_ := Aside0.mk (Kd.C_below (by repeat (first | (with_reducible exact HR908.out) | (with_reducible refine Kd.C_alloc ?_ _) | (with_reducible refine Kd.C_drewN ?_ _) | (with_reducible refine Kd.C_drew ?_) | exact HR908.out)) hb); have n3_ := Aside0.mk (below_step (by repeat (first | (with_reducible first | exact HB.out | apply below_alloc | apply pw_below_drewN | apply below_drew1) | exact HB.out)) hb); clear HO_5; clear HR908; clear HB; have HO_5 := n0_; have HO914 := n1_; have HR908 := n2_; have HB := n3_; clear n0_ n1_ n2_ n3_; (try clear hb); (try clear hb2); (try clear hk); (try clear hi); (try clear ho0)) | ((with_reducible refine gate_callee (f := 39) rfl ?_); refine goesL_ (some 66) rfl rfl Try.func39 (by kernel_rfl) rfl #[.slice Ao10 y905.length co10, .int .i64 x9_3] rfl (by (try simp only [List.map_toArray, List.map_cons, List.map_nil]); first | done | rfl | (simp only [List.length_drop, List.length_take]; rfl)) ?_; (with_reducible refine (impl_PackGet.calls k3 _ _ y905 x9_3 t915 false _ ?side1 ?side2 A30.out).mono ?_); (case side1 => repeat (first | exact HR908.out | (with_reducible refine Kd.C_alloc ?_ _) | (with_reducible refine Kd.C_drewN ?_ _) | (with_reducible refine Kd.C_drew ?_))); (case side2 => exact HC908.out); rintro e w44 ⟨v917, rfl, ho0, hb⟩; refine ⟨_, rfl, ?_⟩; have n0_ := Aside0.mk (Kd.S_elder' (by (with_reducible repeat (first | apply Kd.S_alloc | apply Kd.S_drewN | apply Kd.S_drew)); exact HO_5.out) (Kd.R_base ho0) hb); have n1_ := Aside0.mk (Kd.R_elder' (by (with_reducible repeat (first | apply Kd.R_alloc | apply Kd.R_drewN | apply Kd.R_drew)); exact HO914.out) (Kd.R_base ho0) hb); have n2_ := Aside0.mk (Kd.R_lower (Kd.R_new' ho0 (Kd.R_lt (by (with_reducible repeat (first | apply Kd.R_alloc | apply Kd.R_drewN | apply Kd.R_drew)); exact HO914.out))) (below_size (by repeat (first | (with_reducible first | exact HB.out | apply below_alloc | apply pw_below_drewN | apply below_drew1) | exact HB.out)))); have n3_ := Aside0.mk (Kd.C_below (by repeat (first | (with_reducible exact HR908.out) | (with_reducible refine Kd.C_alloc ?_ _) | (with_reducible refine Kd.C_drewN ?_ _) | (with_reducible refine Kd.C_drew ?_) | exact HR908.out)) hb); have n4_ := Aside0.mk (below_step (by repeat (first | (with_reducible first | exact HB.out | apply below_alloc | apply pw_below_drewN | apply below_drew1) | exact HB.out)) hb); clear HO_5; clear HO914; clear HR908; clear HB; have HO_5 := n0_; have HO914 := n1_; have HO918 := n2_; have HR908 := n3_; have HB := n4_; clear n0_ n1_ n2_ n3_ n4_; (try clear hb); (try clear hb2); (try clear hk); (try clear hi); (try clear ho0)))
               go_ret; exact ⟨by first | rfl | (simp [errW_none, errW_some] <;> rfl) | (simp only [← hji24]; first | rfl | (simp [errW_none, errW_some] <;> rfl)) | (simp [*, errW_none, errW_some] <;> rfl), by repeat (first | (with_reducible first | exact HB.out | apply below_alloc | apply pw_below_drewN | apply below_drew1) | exact HB.out)⟩
             ·replace c31 := Bool.eq_false_iff.mpr c31; subst c31; (have H1 : (some false) = some r := by rw [if_neg (show ¬ (false = true) by decide)] at H; exact H); clear H; have H := H1; clear H1; obtain rfl := Option.some.inj H; go_wp2_with (first | ((with_reducible refine gate_callee (f := 39) rfl ?_); refine goesL_ (some 60) rfl rfl Try.func39 (by kernel_rfl) rfl #[.slice Ao10 t898.length co10, .int .i64 x9_3] rfl (by (try simp only [List.map_toArray, List.map_cons, List.map_nil]); first | done | rfl | (simp only [List.length_drop, List.length_take]; rfl)) ?_; (with_reducible refine (impl_PackGet.calls k3 _ _ t898 x9_3 t911 false _ ?side1 ?side2 A29.out).mono ?_); (case side1 => repeat (first | exact (Kd.S_reads' HO_5.out).2.2 | (with_reducible refine Kd.C_alloc ?_ _) | (with_reducible refine Kd.C_drewN ?_ _) | (with_reducible refine Kd.C_drew ?_))); (case side2 => exact (Kd.S_reads' HO_5.out).2.1); rintro e w45 ⟨v913, rfl, ho0, hb⟩; refine ⟨_, rfl, ?_⟩; have n0_ := Aside0.mk (Kd.S_elder' (by (with_reducible repeat (first | apply Kd.S_alloc | apply Kd.S_drewN | apply Kd.S_drew)); exact HO_5.out) (Kd.R_base ho0) hb); have n1_ := Aside0.mk (Kd.R_lower ho0 (below_size (by repeat (first | (with_reducible first | exact HB.out | apply below_alloc | apply pw_below_drewN | apply below_drew1) | exact HB.out)))); have n2_ := Aside0.mk (Kd.C_below (by repeat (first | (with_reducible exact HR908.out) | (with_reducible refine Kd.C_alloc ?_ _) | (with_reducible refine Kd.C_drewN ?_ _) | (with_reducible refine Kd.C_drew ?_) | exact HR908.out)) hb); have n3_ := Aside0.mk (below_step (by repeat (first | (with_reducible first | exact HB.out | apply below_alloc | apply pw_below_drewN | apply below_drew1) | exact HB.out)) hb); clear HO_5; clear HR908; clear HB; have HO_5 := n0_; have HO914 := n1_; have HR908 := n2_; have HB := n3_; clear n0_ n1_ n2_ n3_; (try clear hb); (try clear hb2); (try clear hk); (try clear hi); (try clear ho0)) | ((with_reducible refine gate_callee (f := 39) rfl ?_); refine goesL_ (some 66) rfl rfl Try.func39 (by kernel_rfl) rfl #[.slice Ao10 y905.length co10, .int .i64 x9_3] rfl (by (try simp only [List.map_toArray, List.map_cons, List.map_nil]); first | done | rfl | (simp only [List.length_drop, List.length_take]; rfl)) ?_; (with_reducible refine (impl_PackGet.calls k3 _ _ y905 x9_3 t915 t916 _ ?side1 ?side2 A30.out).mono ?_); (case side1 => repeat (first | exact HR908.out | (with_reducible refine Kd.C_alloc ?_ _) | (with_reducible refine Kd.C_drewN ?_ _) | (with_reducible refine Kd.C_drew ?_))); (case side2 => exact HC908.out); rintro e w46 ⟨v917, rfl, ho0, hb⟩; refine ⟨_, rfl, ?_⟩; have n0_ := Aside0.mk (Kd.S_elder' (by (with_reducible repeat (first | apply Kd.S_alloc | apply Kd.S_drewN | apply Kd.S_drew)); exact HO_5.out) (Kd.R_base ho0) hb); have n1_ := Aside0.mk (Kd.R_elder' (by (with_reducible repeat (first | apply Kd.R_alloc | apply Kd.R_drewN | apply Kd.R_drew)); exact HO914.out) (Kd.R_base ho0) hb); have n2_ := Aside0.mk (Kd.R_lower (Kd.R_new' ho0 (Kd.R_lt (by (with_reducible repeat (first | apply Kd.R_alloc | apply Kd.R_drewN | apply Kd.R_drew)); exact HO914.out))) (below_size (by repeat (first | (with_reducible first | exact HB.out | apply below_alloc | apply pw_below_drewN | apply below_drew1) | exact HB.out)))); have n3_ := Aside0.mk (Kd.C_below (by repeat (first | (with_reducible exact HR908.out) | (with_reducible refine Kd.C_alloc ?_ _) | (with_reducible refine Kd.C_drewN ?_ _) | (with_reducible refine Kd.C_drew ?_) | exact HR908.out)) hb); have n4_ := Aside0.mk (below_step (by repeat (first | (with_reducible first | exact HB.out | apply below_alloc | apply pw_below_drewN | apply below_drew1) | exact HB.out)) hb); clear HO_5; clear HO914; clear HR908; clear HB; have HO_5 := n0_; have HO914 := n1_; have HO918 := n2_; have HR908 := n3_; have HB := n4_; clear n0_ n1_ n2_ n3_ n4_; (try clear hb); (try clear hb2); (try clear hk); (try clear hi); (try clear ho0)))
              go_ret; exact ⟨by first | rfl | (simp [errW_none, errW_some] <;> rfl) | (simp only [← hji24]; first | rfl | (simp [errW_none, errW_some] <;> rfl)) | (simp [*, errW_none, errW_some] <;> rfl), by repeat (first | (with_reducible first | exact HB.out | apply below_alloc | apply pw_below_drewN | apply below_drew1) | exact HB.out)⟩
            ·rw [if_neg c28] at H; have c28b0 : decide (x9_3 < ji24) = false := decide_eq_false c28; clear c28; replace H := Option.bind_eq_some_iff.mp H; obtain ⟨t909, A470, H⟩ := H; replace H : (if t909 = true then ((impl_PackSize.f k3 y905).bind fun t910 => (some (decide (t910 ≤ t901)))) else (some false)) = some r := H; have A47 := Aside0.mk A470; clear A470; by_cases c48 : t909 = true
             ·subst c48; (have H1 : ((impl_PackSize.f k3 y905).bind fun t910 => (some (decide (t910 ≤ t901)))) = some r := by rw [if_pos rfl] at H; exact H); clear H; have H := H1; clear H1; replace H := Option.bind_eq_some_iff.mp H; obtain ⟨t910, A490, H⟩ := H; replace H : (some (decide (t910 ≤ t901))) = some r := H; have A49 := Aside0.mk A490; clear A490; obtain rfl := Option.some.inj H; go_wp2_with (first | ((with_reducible refine gate_callee (f := 41) rfl ?_); refine goesL_ (some 82) rfl rfl Try.func41 (by kernel_rfl) rfl #[.slice Ao10 y905.length co10] rfl (by (try simp only [List.map_toArray, List.map_cons, List.map_nil]); first | done | rfl | (simp only [List.length_drop, List.length_take]; rfl)) ?_; (with_reducible refine (impl_PackOk.calls k3 _ _ y905 true _ ?side1 ?side2 A47.out).mono ?_); (case side1 => repeat (first | exact HR908.out | (with_reducible refine Kd.C_alloc ?_ _) | (with_reducible refine Kd.C_drewN ?_ _) | (with_reducible refine Kd.C_drew ?_))); (case side2 => exact HC908.out); rintro e w50 ⟨rfl, hb⟩; refine ⟨_, rfl, ?_⟩; have n0_ := Aside0.mk (Kd.S_below (by (with_reducible repeat (first | apply Kd.S_alloc | apply Kd.S_drewN | apply Kd.S_drew)); exact HO_5.out) hb); have n1_ := Aside0.mk (Kd.C_below (by repeat (first | (with_reducible exact HR908.out) | (with_reducible refine Kd.C_alloc ?_ _) | (with_reducible refine Kd.C_drewN ?_ _) | (with_reducible refine Kd.C_drew ?_) | exact HR908.out)) hb); have n2_ := Aside0.mk (below_step (by repeat (first | (with_reducible first | exact HB.out | apply below_alloc | apply pw_below_drewN | apply below_drew1) | exact HB.out)) hb); clear HO_5; clear HR908; clear HB; have HO_5 := n0_; have HR908 := n1_; have HB := n2_; clear n0_ n1_ n2_; (try clear hb); (try clear hb2); (try clear hk); (try clear hi)) | (go_at_call 44; (with_reducible refine (impl_PackSize.calls k3 _ _ y905 t910 _ ?side1 ?side2 A49.out).mono ?_); (case side1 => repeat (first | exact HR908.out | (with_reducible refine Kd.C_alloc ?_ _) | (with_reducible refine Kd.C_drewN ?_ _) | (with_reducible refine Kd.C_drew ?_))); (case side2 => exact HC908.out); rintro e w51 ⟨rfl, hb⟩; have n0_ := Aside0.mk (Kd.S_below (by (with_reducible repeat (first | apply Kd.S_alloc | apply Kd.S_drewN | apply Kd.S_drew)); exact HO_5.out) hb); have n1_ := Aside0.mk (Kd.C_below (by repeat (first | (with_reducible exact HR908.out) | (with_reducible refine Kd.C_alloc ?_ _) | (with_reducible refine Kd.C_drewN ?_ _) | (with_reducible refine Kd.C_drew ?_) | exact HR908.out)) hb); have n2_ := Aside0.mk (below_step (by repeat (first | (with_reducible first | exact HB.out | apply below_alloc | apply pw_below_drewN | apply below_drew1) | exact HB.out)) hb); clear HO_5; clear HR908; clear HB; have HO_5 := n0_; have HR908 := n1_; have HB := n2_; clear n0_ n1_ n2_; (try clear hb); (try clear hb2); (try clear hk); (try clear hi))); go_ret; exact ⟨by first | rfl | (simp [errW_none, errW_some] <;> rfl) | (simp only [← hji24]; first | rfl | (simp [errW_none, errW_some] <;> rfl)) | (simp [*, errW_none, errW_some] <;> rfl), by repeat (first | (with_reducible first | exact HB.out | apply below_alloc | apply pw_below_drewN | apply below_drew1) | exact HB.out)⟩
             ·replace c48 := Bool.eq_false_iff.mpr c48; subst c48; (have H1 : (some false) = some r := by rw [if_neg (show ¬ (false = true) by decide)] at H; exact H); clear H; have H := H1; clear H1; obtain rfl := Option.some.inj H; go_wp2_with (first | ((with_reducible refine gate_callee (f := 41) rfl ?_); refine goesL_ (some 82) rfl rfl Try.func41 (by kernel_rfl) rfl #[.slice Ao10 y905.length co10] rfl (by (try simp only [List.map_toArray, List.map_cons, List.map_nil]); first | done | rfl | (simp only [List.length_drop, List.length_take]; rfl)) ?_; (with_reducible refine (impl_PackOk.calls k3 _ _ y905 false _ ?side1 ?side2 A47.out).mono ?_); (case side1 => repeat (first | exact HR908.out | (with_reducible refine Kd.C_alloc ?_ _) | (with_reducible refine Kd.C_drewN ?_ _) | (with_reducible refine Kd.C_drew ?_))); (case side2 => exact HC908.out); rintro e w52 ⟨rfl, hb⟩; refine ⟨_, rfl, ?_⟩; have n0_ := Aside0.mk (Kd.S_below (by (with_reducible repeat (first | apply Kd.S_alloc | apply Kd.S_drewN | apply Kd.S_drew)); exact HO_5.out) hb); have n1_ := Aside0.mk (Kd.C_below (by repeat (first | (with_reducible exact HR908.out) | (with_reducible refine Kd.C_alloc ?_ _) | (with_reducible refine Kd.C_drewN ?_ _) | (with_reducible refine Kd.C_drew ?_) | exact HR908.out)) hb); have n2_ := Aside0.mk (below_step (by repeat (first | (with_reducible first | exact HB.out | apply below_alloc | apply pw_below_drewN | apply below_drew1) | exact HB.out)) hb); clear HO_5; clear HR908; clear HB; have HO_5 := n0_; have HR908 := n1_; have HB := n2_; clear n0_ n1_ n2_; (try clear hb); (try clear hb2); (try clear hk); (try clear hi))); go_ret; exact ⟨by first | rfl | (simp [errW_none, errW_some] <;> rfl) | (simp only [← hji24]; first | rfl | (simp [errW_none, errW_some] <;> rfl)) | (simp [*, errW_none, errW_some] <;> rfl), by repeat (first | (with_reducible first | exact HB.out | apply below_alloc | apply pw_below_drewN | apply below_drew1) | exact HB.out)⟩
         ·rw [if_neg c26] at H; exact absurd H (by simp)
        ·rw [if_neg c25] at H; exact absurd H (by simp)
/-- THE ONE PURE STATEMENT of laws_FnPackFew: yours. -/
def laws_FnPackFew.Pure : Prop := ∀ (l0 : List Int) (l1 : List Int), l0.length ≤ maxLen → l0.length * 1 ≤ 140737488351232 → (∀ x ∈ l0, (Lit.int .u8 x).wf = true) → l1.length ≤ maxLen → l1.length * 1 ≤ 140737488351232 → (∀ x ∈ l1, (Lit.int .u8 x).wf = true) → ∃ k, laws_FnPackFew.f k l0 l1 = some true
theorem laws_FnPackFew.walk (P : laws_FnPackFew.Pure) (a0 : Option Addr) (len0 cap0 : Nat) (z0 : List Int) (a1 : Option Addr) (len1 cap1 : Nat) (z1 : List Int) (w : World) (w0 : (a0 = none ∧ len0 = 0 ∧ cap0 = 0 ∧ z0 = []) ∨ ∃ x, a0 = some x ∧ len0 ≤ cap0 ∧ cap0 ≤ maxLen ∧ z0.length = cap0 ∧ (∀ i, i < z0.length → w.cell? (x.add i) = some (.int .u8 (z0.getD i 0))) ∧ ∀ n ∈ z0, (Lit.int .u8 n).wf = true) (y0 : len0 * 1 ≤ 140737488351232) (w1 : (a1 = none ∧ len1 = 0 ∧ cap1 = 0 ∧ z1 = []) ∨ ∃ x, a1 = some x ∧ len1 ≤ cap1 ∧ cap1 ≤ maxLen ∧ z1.length = cap1 ∧ (∀ i, i < z1.length → w.cell? (x.add i) = some (.int .u8 (z1.getD i 0))) ∧ ∀ n ∈ z1, (Lit.int .u8 n).wf = true) (y1 : len1 * 1 ≤ 140737488351232) :
 Calls Try.prog 9 #[.slice a0 len0 cap0, .slice a1 len1 cap1] w fun e w' => e = .returned (.bool true) ∧ Below w.heap.size w w' := by
 obtain ⟨l0, rfl, hr0, hm0, hw0, hc0⟩ := ReadsInt.ofRowC w0; obtain ⟨l1, rfl, hr1, hm1, hw1, hc1⟩ := ReadsInt.ofRowC w1; obtain ⟨k, h⟩ := P l0 l1 hm0 y0 hw0 hm1 y1 hw1; refine (laws_FnPackFew.calls k _ _ l0 _ _ l1 true w (Kd.C_of_reads (d := (0 : Int)) (h1 := fun _ => rfl) hr0) hc0 (Kd.C_of_reads (d := (0 : Int)) (h1 := fun _ => rfl) hr1) hc1 h).mono ?_; rintro e w' ⟨rfl, hd⟩; exact ⟨rfl, hd⟩
end Go.Proofs.Ytfnhjaiioojbkaa.Q
end
section
namespace Go.Proofs.Ytfnhjaiioojbkaa.Q
open Go.RowKit Go.Proofs.YtfnhjaiioojbkaaW.PrintWords
set_option linter.unusedVariables false
theorem w64 {x : Int} (h0 : -9223372036854775808 ≤ x) (h1 : x ≤ 9223372036854775807) : wrap64 x = x := by unfold wrap64; omega
theorem w64_add (i n : Nat) (h : i + n ≤ 1000000000000) : wrap64 ((i : Int) + (n : Int)) = ((i + n : Nat) : Int) := by rw [w64 (by omega) (by omega)]; omega
theorem w64_succ (n : Nat) (h : n ≤ 1000000000000) : wrap64 ((n : Int) + 1) = ((n + 1 : Nat) : Int) := by rw [w64 (by omega) (by omega)]; omega
theorem EvT {α : Type} {g : Nat → Option α} {r r' : α} (h : Ev g r) (e : r = r') : Ev g r' := e ▸ h
theorem Ev.posf {α : Type} {c : Prop} [Decidable c] {g f : Nat → Option α} {r : α} (hc : c) (h : Ev g r) : Ev (fun k => if c then g k else f k) r := by
  obtain ⟨K, h⟩ := h
  exact ⟨K, fun k hk => by show (if c then g k else f k) = _; rw [if_pos hc]; exact h k hk⟩
theorem Ev.negf {α : Type} {c : Prop} [Decidable c] {g f : Nat → Option α} {r : α} (hc : ¬ c) (h : Ev f r) : Ev (fun k => if c then g k else f k) r := by
  obtain ⟨K, h⟩ := h
  exact ⟨K, fun k hk => by show (if c then g k else f k) = _; rw [if_neg hc]; exact h k hk⟩
theorem Ev.ite {α : Type} {c : Prop} [Decidable c] {g f : Nat → Option α} {r : α} (h1 : c → Ev g r) (h2 : ¬ c → Ev f r) : Ev (fun k => if c then g k else f k) r :=
  if hc : c then Ev.posf hc (h1 hc) else Ev.negf hc (h2 hc)
theorem Ev.mapf {α β : Type} {g : Nat → Option α} {a : α} (f : α → β) (h : Ev g a) : Ev (fun k => (g k).map f) (f a) := by
  obtain ⟨K, h⟩ := h
  exact ⟨K, fun k hk => by show (g k).map f = _; rw [h k hk]; rfl⟩
theorem Ev.somef {α β : Type} {a : α} {f : Nat → α → Option β} {r : β} (h : Ev (fun k => f k a) r) : Ev (fun k => (some a).bind (f k)) r := h
/-- One round of a loop: simp only [F.l0] lays it open. -/
theorem Ev.step' {α : Type} {g : Nat → Option α} {r : α} (h : Ev (fun k => g (k + 1)) r) : Ev g r := Ev.step (fun _ => rfl) h
theorem bstr {a b : ByteArray} : a.toList = b.toList ↔ a = b := by
  constructor
  · intro h
    rw [ByteArray.toList_eq, ByteArray.toList_eq] at h
    cases a; cases b
    simp at h
    subst h
    rfl
  · rintro rfl; rfl
theorem rdAt {α : Type} {d : α} {xs : List α} {i : Nat} (h : i < xs.length) : rdOf d xs (i : Int) = xs[i] := by
  simp [rdOf, List.getD_eq_getElem?_getD, h]
theorem rdI {xs : List Int} {i : Nat} (h : i < xs.length) : rd xs (i : Int) = xs[i] := by
  simp [rd, List.getD_eq_getElem?_getD, h]
theorem toNat_of {i : Int} (h : 0 ≤ i) : ∃ n : Nat, i = n := ⟨i.toNat, by omega⟩
theorem xor_nn {x y : Int} (hx : 0 ≤ x) (hy : 0 ≤ y) (hx1 : x < 4611686018427387904) (hy1 : y < 4611686018427387904) : 0 ≤ Go.bits .xor .i64 x y ∧ Go.bits .xor .i64 x y < 4611686018427387904 := by
  obtain ⟨a, rfl⟩ := toNat_of hx
  obtain ⟨b, rfl⟩ := toNat_of hy
  have ha : a < 2 ^ 62 := by omega
  have hb : b < 2 ^ 62 := by omega
  have hab := Nat.xor_lt_two_pow ha hb
  have e : Go.bits .xor .i64 (a : Int) (b : Int) = ((a ^^^ b : Nat) : Int) := by
    have ha' : a % 2 ^ 64 = a := Nat.mod_eq_of_lt (by omega)
    have hb' : b % 2 ^ 64 = b := Nat.mod_eq_of_lt (by omega)
    simp only [Go.bits, IntKind.bits, BitVec.ofInt_natCast]
    have e2 : (BitVec.ofNat 64 a ^^^ BitVec.ofNat 64 b).toNat = a ^^^ b := by rw [BitVec.toNat_xor, BitVec.toNat_ofNat, BitVec.toNat_ofNat, ha', hb']
    rw [IntKind.wrap_i64]
    have e3 : (BitVec.ofNat IntKind.i64.bits a ^^^ BitVec.ofNat IntKind.i64.bits b).toNat = a ^^^ b := e2
    have e4 : ∀ q : Nat, q = a ^^^ b → ((q : Int) + 9223372036854775808) % 18446744073709551616 - 9223372036854775808 = ((a ^^^ b : Nat) : Int) := by intro q hq; rw [hq]; omega
    exact e4 _ e3
  rw [e]
  omega
/-- Lines that are not long. -/
def Sz (l : List ByteArray) : Prop := ∀ s ∈ l, s.size ≤ 100
theorem Sz.nil : Sz [] := fun s h => by cases h
theorem Sz.app {a b : List ByteArray} (h : Sz a) (k : Sz b) : Sz (a ++ b) := fun s hs => by
  rcases List.mem_append.mp hs with hs | hs
  · exact h s hs
  · exact k s hs
theorem Sz.one {s : ByteArray} (h : s.size ≤ 100) : Sz [s] := fun x hx => by
  rw [List.mem_singleton.mp hx]
  exact h
theorem Sz.sub {a b : List ByteArray} (h : Sz a) (k : ∀ s ∈ b, s ∈ a) : Sz b := fun s hs => h s (k s hs)
theorem Sz.take {a : List ByteArray} (h : Sz a) (n : Nat) : Sz (a.take n) := h.sub fun _ hs => List.mem_of_mem_take hs
theorem Sz.drop {a : List ByteArray} (h : Sz a) (n : Nat) : Sz (a.drop n) := h.sub fun _ hs => List.mem_of_mem_drop hs
theorem Sz.set {a : List ByteArray} (h : Sz a) (n : Nat) {s : ByteArray} (k : s.size ≤ 100) : Sz (a.set n s) := fun x hx => by
  rcases List.mem_or_eq_of_mem_set hx with hx | rfl
  · exact h x hx
  · exact k
end Go.Proofs.Ytfnhjaiioojbkaa.Q
end
section
namespace Go.Proofs.Ytfnhjaiioojbkaa.Q
open Go.RowKit Go.Proofs.YtfnhjaiioojbkaaW.PrintWords
set_option linter.unusedVariables false
set_option linter.unusedSimpArgs false
/-- A code: not long, of bytes. -/
def Code (b : List Int) : Prop := b.length ≤ 2000 ∧ ∀ x ∈ b, 0 ≤ x ∧ x ≤ 255
theorem Code.rd {b : List Int} (h : Code b) (i : Int) : 0 ≤ rd b i ∧ rd b i ≤ 255 := by
  show 0 ≤ b.getD i.toNat 0 ∧ b.getD i.toNat 0 ≤ 255
  rw [List.getD_eq_getElem?_getD]
  by_cases hi : i.toNat < b.length
  · simp [hi]
    exact h.2 _ (List.getElem_mem hi)
  · simp [hi]
/-- A place in a code that is far from the end of the numbers. -/
def Pl (p : Int) : Prop := 0 ≤ p ∧ p ≤ 1000000000
theorem tmod_in {x n : Int} (hx : 0 ≤ x) (hn : 1 ≤ n) : 0 ≤ Int.tmod x n ∧ Int.tmod x n < n := by
  rw [Int.tmod_eq_emod_of_nonneg hx]
  exact ⟨Int.emod_nonneg _ (by omega), Int.emod_lt_of_pos _ (by omega)⟩
theorem pick_ev {b : List Int} (hb : Code b) {p : Int} (hp : Pl p) {n : Int} (hn : n ≤ 1000000) :
    ∃ v, Ev (fun k => spec_l30Rd_pick.f k b p n) (v, p + 1) ∧ 0 ≤ v ∧ (1 ≤ n → v < n) := by
  have e1 : wrap64 (p + 1) = p + 1 := w64 (by have := hp.1; omega) (by have := hp.2; omega)
  have e2 : wrap64 (p + 1 - 1) = p := by rw [show p + 1 - 1 = p by omega]; exact w64 (by have := hp.1; omega) (by have := hp.2; omega)
  by_cases h1 : n < 1
  · refine ⟨0, ⟨1, fun k hk => ?_⟩, by omega, by omega⟩
    obtain ⟨m, rfl⟩ : ∃ m, k = m + 1 := ⟨k - 1, by omega⟩
    simp only [spec_l30Rd_pick.f]
    rw [if_pos h1]
    simp only [spec_l30Rd_pick.j0]
    rw [if_pos trivial, e1]
  · by_cases h2 : (b.length : Int) = 0
    · refine ⟨0, ⟨1, fun k hk => ?_⟩, by omega, by omega⟩
      obtain ⟨m, rfl⟩ : ∃ m, k = m + 1 := ⟨k - 1, by omega⟩
      simp only [spec_l30Rd_pick.f]
      rw [if_neg h1]
      simp only [spec_l30Rd_pick.j0]
      rw [if_pos (by simpa using h2), e1]
    · have hL1 : 1 ≤ (b.length : Int) := by omega
      have hL2 : (b.length : Int) ≤ 2000 := by have := hb.1; omega
      have e3 : wrap64 (p * 7) = p * 7 := w64 (by have := hp.1; omega) (by have := hp.2; omega)
      have e4 : wrap64 (p * 7 + 3) = p * 7 + 3 := w64 (by have := hp.1; omega) (by have := hp.2; omega)
      have m1 := tmod_in hp.1 hL1
      have m2 := tmod_in (x := p * 7 + 3) (by have := hp.1; omega) hL1
      by_cases h3 : p < (b.length : Int)
      · have hA := hb.rd p
        have e5 : wrap64 (rd b p) = rd b p := w64 (by omega) (by omega)
        have m3 := tmod_in hA.1 (n := n) (by omega)
        refine ⟨Int.tmod (rd b p) n, ⟨1, fun k hk => ?_⟩, m3.1, fun _ => m3.2⟩
        obtain ⟨m, rfl⟩ : ∃ m, k = m + 1 := ⟨k - 1, by omega⟩
        simp only [spec_l30Rd_pick.f]
        rw [if_neg h1]
        simp only [spec_l30Rd_pick.j0]
        rw [if_neg (by simpa using h2), e1, e2, if_pos h3, if_pos hp.1, if_neg (by omega), e5]
      · have hA := hb.rd (Int.tmod p b.length)
        have hB := hb.rd (Int.tmod (p * 7 + 3) b.length)
        have f1 : wrap64 (rd b (Int.tmod p b.length)) = rd b (Int.tmod p b.length) := w64 (by omega) (by omega)
        have f2 : wrap64 (rd b (Int.tmod (p * 7 + 3) b.length)) = rd b (Int.tmod (p * 7 + 3) b.length) := w64 (by omega) (by omega)
        have hD : 0 ≤ Int.tdiv p b.length ∧ Int.tdiv p b.length ≤ 1000000000 := by
          rw [Int.tdiv_eq_ediv_of_nonneg hp.1]
          exact ⟨Int.ediv_nonneg hp.1 (by omega), Int.le_trans (Int.ediv_le_self _ hp.1) hp.2⟩
        have g1 : wrap64 (rd b (Int.tmod p b.length) * 131) = rd b (Int.tmod p b.length) * 131 := w64 (by omega) (by omega)
        have g2 : wrap64 (rd b (Int.tmod (p * 7 + 3) b.length) * 1117) = rd b (Int.tmod (p * 7 + 3) b.length) * 1117 := w64 (by omega) (by omega)
        have g3 : wrap64 (p * 29) = p * 29 := w64 (by have := hp.1; omega) (by have := hp.2; omega)
        have g4 : wrap64 (Int.tdiv p b.length) = Int.tdiv p b.length := w64 (by omega) (by omega)
        have g5 : wrap64 (Int.tdiv p b.length * 53) = Int.tdiv p b.length * 53 := w64 (by omega) (by omega)
        have g6 : wrap64 (rd b (Int.tmod p b.length) * 131 + rd b (Int.tmod (p * 7 + 3) b.length) * 1117) = rd b (Int.tmod p b.length) * 131 + rd b (Int.tmod (p * 7 + 3) b.length) * 1117 := w64 (by omega) (by omega)
        have g7 : wrap64 (rd b (Int.tmod p b.length) * 131 + rd b (Int.tmod (p * 7 + 3) b.length) * 1117 + p * 29) = rd b (Int.tmod p b.length) * 131 + rd b (Int.tmod (p * 7 + 3) b.length) * 1117 + p * 29 := w64 (by have := hp.1; omega) (by have := hp.2; omega)
        obtain ⟨X, hX⟩ : ∃ X, X = rd b (Int.tmod p b.length) * 131 + rd b (Int.tmod (p * 7 + 3) b.length) * 1117 + p * 29 + Int.tdiv p b.length * 53 := ⟨_, rfl⟩
        have hX0 : 0 ≤ X ∧ X ≤ 1000000000000 := by have := hp.1; have := hp.2; omega
        have hY : 0 ≤ Int.tdiv X 64 ∧ Int.tdiv X 64 ≤ 1000000000000 := by
          rw [Int.tdiv_eq_ediv_of_nonneg hX0.1]
          omega
        have g8 : wrap64 X = X := w64 (by omega) (by omega)
        have g9 : wrap64 (Int.tdiv X 64) = Int.tdiv X 64 := w64 (by omega) (by omega)
        have hx := xor_nn hX0.1 hY.1 (by omega) (by omega)
        have m3 := tmod_in hx.1 (n := n) (by omega)
        refine ⟨Int.tmod (Go.bits .xor .i64 X (Int.tdiv X 64)) n, ⟨1, fun k hk => ?_⟩, m3.1, fun _ => m3.2⟩
        obtain ⟨m, rfl⟩ : ∃ m, k = m + 1 := ⟨k - 1, by omega⟩
        simp only [spec_l30Rd_pick.f]
        rw [if_neg h1]
        simp only [spec_l30Rd_pick.j0]
        rw [if_neg (by simpa using h2)]
        simp only [e1, e2, e3, e4, f1, f2, g1, g2, g3, g4, g5, g6, g7, g8, ← hX, g9]
        rw [if_neg h3, if_neg h2, if_pos m1.1, if_pos m1.2, if_pos m2.1, if_pos m2.2, if_neg (by omega)]
theorem of_ev {b : List Int} (hb : Code b) {p : Int} (hp : Pl p) {l : List ByteArray} (h0 : 0 < l.length) (hn : l.length ≤ 1000000) :
    ∃ s, Ev (fun k => spec_l30Rd_of.f k b p l) (s, p + 1) ∧ s ∈ l := by
  obtain ⟨v, hv, h1, h2⟩ := pick_ev hb hp (n := l.length) (by omega)
  obtain ⟨i, rfl⟩ := toNat_of h1
  have hi : i < l.length := by omega
  refine ⟨l[i], ?_, List.getElem_mem hi⟩
  unfold spec_l30Rd_of.f
  refine Ev.bind hv ?_
  refine Ev.posf h1 (Ev.posf (by show ((i : Int)) < _; omega) ?_)
  rw [rdAt hi]
  exact Ev.now _
theorem one_ev {b : List Int} (hb : Code b) {p : Int} (hp : Pl p) {l : List Int} (h0 : 0 < l.length) (hn : l.length ≤ 1000000) :
    ∃ s, Ev (fun k => spec_l30Rd_one.f k b p l) (s, p + 1) ∧ s ∈ l := by
  obtain ⟨v, hv, h1, h2⟩ := pick_ev hb hp (n := l.length) (by omega)
  obtain ⟨i, rfl⟩ := toNat_of h1
  have hi : i < l.length := by omega
  refine ⟨l[i], ?_, List.getElem_mem hi⟩
  unfold spec_l30Rd_one.f
  refine Ev.bind hv ?_
  refine Ev.posf h1 (Ev.posf (by show ((i : Int)) < _; omega) ?_)
  rw [rdI hi]
  exact Ev.now _
theorem line_ev {b : List Int} (hb : Code b) {p : Int} (hp : Pl p) : ∃ s, Ev (fun k => spec_l30Line.f k b p) (s, p + 1) ∧ s.size ≤ 100 := by
  unfold spec_l30Line.f
  obtain ⟨s, hs, hm⟩ := of_ev hb hp (l := [⟨#[97]⟩, ⟨#[98]⟩, ⟨#[99]⟩, ⟨#[100]⟩, ⟨#[]⟩, ⟨#[120, 32, 121]⟩, ⟨#[115, 101, 101, 32, 97]⟩, ⟨#[115, 101, 101, 32, 100, 47, 101]⟩, ⟨#[101, 110, 100]⟩]) (by simp) (by simp)
  refine ⟨s, Ev.bind hs (Ev.now _), ?_⟩
  simp only [List.mem_cons, List.not_mem_nil, or_false] at hm
  rcases hm with rfl | rfl | rfl | rfl | rfl | rfl | rfl | rfl | rfl <;> decide
theorem Pl.add {p : Int} (h : 0 ≤ p ∧ p ≤ 1000000) {c : Int} (h0 : 0 ≤ c) (h1 : c ≤ 1000000) : Pl (p + c) := ⟨by omega, by omega⟩
theorem text0_ev {b : List Int} (hb : Code b) : ∀ (d : Nat) (out : List ByteArray) (p : Int), 0 ≤ p → p + d ≤ 1000000000 → out.length + d ≤ 1000000 → Sz out →
    ∃ r, Ev (fun k => spec_l30Text.l0 k out d b p) (r, p + d) ∧ r.length = out.length + d ∧ Sz r
  | 0, out, p, h0, h1, h2, hz => by
    refine ⟨out, ⟨1, fun k hk => ?_⟩, rfl, hz⟩
    obtain ⟨m, rfl⟩ : ∃ m, k = m + 1 := ⟨k - 1, by omega⟩
    simp [spec_l30Text.l0]
  | d + 1, out, p, h0, h1, h2, hz => by
    obtain ⟨s, hs, hs1⟩ := line_ev hb (p := p) ⟨h0, by omega⟩
    obtain ⟨r, hr, hl, hz2⟩ := text0_ev hb d (out ++ [s]) (p + 1) (by omega) (by omega) (by simp; omega) (hz.app (Sz.one hs1))
    refine ⟨r, ?_, by rw [hl]; simp; omega, hz2⟩
    refine Ev.step (f := fun k => if (((d + 1 : Nat) : Int)) > 0 then ((spec_l30Line.f k b p).bind fun bt237 => (if out.length < 8796093022208 then (spec_l30Text.l0 k (out ++ [bt237.1]) (wrap64 ((((d + 1 : Nat) : Int)) - 1)) b bt237.2) else (none))) else (some (out, p))) (fun k => rfl) ?_
    refine Ev.posf (by omega) (Ev.bind hs (Ev.posf (by omega) ?_))
    rw [show wrap64 (((d + 1 : Nat) : Int) - 1) = (d : Int) by rw [w64 (by omega) (by omega)]; omega]
    exact EvT hr (by rw [show p + 1 + (d : Int) = p + ((d + 1 : Nat) : Int) by omega])
theorem text_ev {b : List Int} (hb : Code b) {p : Int} (h0 : 0 ≤ p) (h1 : p ≤ 1000000) : ∃ r q, Ev (fun k => spec_l30Text.f k b p) (r, q) ∧ r.length ≤ 8 ∧ Sz r ∧ p ≤ q ∧ q ≤ p + 9 := by
  obtain ⟨v, hv, hm⟩ := one_ev hb (p := p) ⟨h0, by omega⟩ (l := [0, 1, 3, 5, 8]) (by simp) (by simp)
  have hv8 : 0 ≤ v ∧ v ≤ 8 := by simp at hm; omega
  obtain ⟨d, rfl⟩ := toNat_of hv8.1
  obtain ⟨r, hr, hl, hz⟩ := text0_ev hb d [] (p + 1) (by omega) (by omega) (by simp; omega) Sz.nil
  refine ⟨r, p + 1 + d, ?_, by rw [hl]; simp; omega, hz, ?_, ?_⟩
  · unfold spec_l30Text.f
    exact Ev.bind hv hr
  · omega
  · omega
theorem turn0_ev {b : List Int} (hb : Code b) : ∀ (d : Nat) (out : List ByteArray) (p : Int), 0 ≤ p → p + 3 * d ≤ 1000000000 → out.length ≤ 1000 → Sz out →
    ∃ r q, Ev (fun k => spec_l30Turn.l0 k out d b p) (r, q) ∧ r.length ≤ max out.length 10 ∧ Sz r ∧ p ≤ q ∧ q ≤ p + 3 * d
  | 0, out, p, h0, h1, h2, hz => by
    refine ⟨out, p, ⟨1, fun k hk => ?_⟩, by omega, hz, by omega, by omega⟩
    obtain ⟨m, rfl⟩ : ∃ m, k = m + 1 := ⟨k - 1, by omega⟩
    simp [spec_l30Turn.l0]
  | d + 1, out, p, h0, h1, h2, hz => by
    have e1 : wrap64 ((out.length : Int) + 1) = out.length + 1 := w64 (by omega) (by omega)
    have e2 : wrap64 (((d + 1 : Nat) : Int) - 1) = (d : Int) := by rw [w64 (by omega) (by omega)]; omega
    obtain ⟨i, hi, hi0, hi1⟩ := pick_ev hb (p := p) ⟨h0, by omega⟩ (n := out.length + 1) (by omega)
    obtain ⟨c, hc, hc0, hc1⟩ := pick_ev hb (p := p + 1) ⟨by omega, by omega⟩ (n := 3) (by omega)
    obtain ⟨s, hs, hs1⟩ := line_ev hb (p := p + 1 + 1) ⟨by omega, by omega⟩
    have hi2 : i ≤ out.length := by have := hi1 (by omega); omega
    obtain ⟨n, rfl⟩ := toNat_of hi0
    have step : ∀ (o2 : List ByteArray) (q : Int), o2.length ≤ max out.length 10 → Sz o2 → p ≤ q → q ≤ p + 3 → (∀ r, Ev (fun k => spec_l30Turn.l0 k o2 d b q) r → Ev (fun k => spec_l30Turn.l0 (k + 1) out ((d + 1 : Nat) : Int) b p) r) →
        ∃ r q, Ev (fun k => spec_l30Turn.l0 k out ((d + 1 : Nat) : Int) b p) (r, q) ∧ r.length ≤ max out.length 10 ∧ Sz r ∧ p ≤ q ∧ q ≤ p + 3 * ((d + 1 : Nat) : Int) := by
      intro o2 q g1 gz g2 g3 g4
      obtain ⟨r, q', hr, hl, hz2, g5, g6⟩ := turn0_ev hb d o2 q (by omega) (by omega) (by omega) gz
      exact ⟨r, q', Ev.step' (g4 _ hr), by omega, hz2, by omega, by omega⟩
    have wn : wrap64 ((n : Int) + 1) = n + 1 := w64 (by omega) (by omega)
    have hd : ((d + 1 : Nat) : Int) > 0 := by omega
    by_cases c0 : c = 0
    · by_cases g : (out.length : Int) < 10
      · refine step (([] ++ out.take (n : Int).toNat) ++ [s] ++ out.drop (n : Int).toNat) (p + 1 + 1 + 1) (by simp; omega) (((Sz.nil.app (hz.take _)).app (Sz.one hs1)).app (hz.drop _)) (by omega) (by omega) (fun r h => ?_)
        simp only [spec_l30Turn.l0, e1, e2]
        exact Ev.posf hd (Ev.bind hi (Ev.bind hc (Ev.posf c0 (Ev.posf g (Ev.somef (Ev.posf hi0 (Ev.posf hi2 (Ev.somef (Ev.posf (by simp; omega) (Ev.somef (Ev.bind hs (Ev.posf (by simp; omega) (Ev.somef (Ev.somef (Ev.posf (by simp; omega) h)))))))))))))))
      · refine step out (p + 1 + 1) (by omega) hz (by omega) (by omega) (fun r h => ?_)
        simp only [spec_l30Turn.l0, e1, e2]
        exact Ev.posf hd (Ev.bind hi (Ev.bind hc (Ev.posf c0 (Ev.negf g h))))
    · by_cases c1 : c = 1
      · by_cases g : (n : Int) < out.length
        · refine step (([] ++ out.take (n : Int).toNat) ++ out.drop ((n : Int) + 1).toNat) (p + 1 + 1) (by simp; omega) ((Sz.nil.app (hz.take _)).app (hz.drop _)) (by omega) (by omega) (fun r h => ?_)
          simp only [spec_l30Turn.l0, e1, e2]
          refine Ev.posf hd (Ev.bind hi (Ev.bind hc ?_))
          simp only [wn, Option.bind_some]
          exact Ev.negf c0 (Ev.posf c1 (Ev.posf g (Ev.posf hi0 (Ev.posf hi2 (Ev.posf (by simp; omega) (Ev.posf (by omega) (Ev.posf (by omega) (Ev.posf (by simp; omega) h))))))))
        · refine step out (p + 1 + 1) (by omega) hz (by omega) (by omega) (fun r h => ?_)
          simp only [spec_l30Turn.l0, e1, e2]
          exact Ev.posf hd (Ev.bind hi (Ev.bind hc (Ev.negf c0 (Ev.posf c1 (Ev.negf g h)))))
      · by_cases g : (n : Int) < out.length
        · refine step (out.set (n : Int).toNat s) (p + 1 + 1 + 1) (by simp; omega) (hz.set _ hs1) (by omega) (by omega) (fun r h => ?_)
          simp only [spec_l30Turn.l0, e1, e2]
          exact Ev.posf hd (Ev.bind hi (Ev.bind hc (Ev.negf c0 (Ev.negf c1 (Ev.posf g (Ev.bind hs (Ev.posf hi0 h)))))))
        · refine step out (p + 1 + 1) (by omega) hz (by omega) (by omega) (fun r h => ?_)
          simp only [spec_l30Turn.l0, e1, e2]
          exact Ev.posf hd (Ev.bind hi (Ev.bind hc (Ev.negf c0 (Ev.negf c1 (Ev.negf g h)))))
theorem turn_ev {b : List Int} (hb : Code b) {p : Int} (h0 : 0 ≤ p) (h1 : p ≤ 1000000) (t : List ByteArray) (ht : t.length ≤ 1000) (hz : Sz t) :
    ∃ r q, Ev (fun k => spec_l30Turn.f k b p t) (r, q) ∧ r.length ≤ max t.length 10 ∧ Sz r ∧ p ≤ q ∧ q ≤ p + 10 := by
  obtain ⟨c, hc, hc0, hc1⟩ := pick_ev hb (p := p) ⟨h0, by omega⟩ (n := 4) (by omega)
  have hc2 := hc1 (by omega)
  obtain ⟨d, rfl⟩ := toNat_of hc0
  obtain ⟨r, q, hr, hl, hz2, g1, g2⟩ := turn0_ev hb d ([] ++ t) (p + 1) (by omega) (by omega) (by simpa using ht) (Sz.nil.app hz)
  refine ⟨r, q, ?_, by simpa using hl, hz2, by omega, by omega⟩
  unfold spec_l30Turn.f
  exact Ev.somef (Ev.posf (by simp; omega) (Ev.bind hc hr))
theorem open_ev {l : List Int} (hw : ∀ x ∈ l, 0 ≤ x ∧ x ≤ 255) : ∃ b, spec_l30Open.f l = some (b, 0) ∧ Code b := by
  unfold spec_l30Open.f
  by_cases h : (l.length : Int) > 2000
  · exact ⟨l.take 2000, by rw [if_pos h, if_pos (by omega)], by simp; omega, fun x hx => hw x (List.mem_of_mem_take hx)⟩
  · exact ⟨l, by rw [if_neg h], by omega, hw⟩
end Go.Proofs.Ytfnhjaiioojbkaa.Q
end
section
namespace Go.Proofs.Ytfnhjaiioojbkaa.Q
open Go.RowKit Go.Proofs.YtfnhjaiioojbkaaW.PrintWords
set_option linter.unusedVariables false
set_option linter.unusedSimpArgs false
def okc (c : UInt8) : Bool := decide (32 ≤ c.toNat) && decide (c.toNat ≤ 126)
def lineB (s : ByteArray) : Bool := s.data.toList.all okc && decide (s.size ≤ 12)
def textB (l : List ByteArray) : Bool := decide (l.length ≤ 10) && l.all lineB
/-- Not too long for a loop over it. -/
def Sm (l : List ByteArray) : Prop := l.length ≤ 1000000 ∧ ∀ s ∈ l, s.size ≤ 1000000
theorem bt_nat {s : ByteArray} {i : Nat} (h : i < s.size) : bt s (i : Int) = ((s.data.toList[i]'(by simpa using h)).toNat : Int) := by
  simp [bt, h]
  rfl
theorem drop_all {α : Type} (p : α → Bool) (l : List α) (i : Nat) (h : i < l.length) : (l.drop i).all p = (p l[i] && (l.drop (i + 1)).all p) := by
  rw [List.drop_eq_getElem_cons h, List.all_cons]
theorem implLine0_ev (s : ByteArray) (hs : s.size ≤ 1000000) : ∀ (d i : Nat), i ≤ s.size → s.size - i = d →
    Ev (fun k => impl_lineOk.l0 k s s.size i) ((s.data.toList.drop i).all okc && decide (s.size ≤ 12))
  | 0, i, hi, hd => by
    refine Ev.step' ?_
    simp only [impl_lineOk.l0]
    refine Ev.negf (by omega) ?_
    have e : s.data.toList.drop i = [] := List.drop_eq_nil_of_le (by have : s.data.toList.length = s.size := by simp
                                                                     omega)
    rw [e]
    exact EvT (Ev.now _) (by simp; omega)
  | d + 1, i, hi, hd => by
    have hl : i < s.size := by omega
    have hl2 : i < s.data.toList.length := by simpa using hl
    refine Ev.step' ?_
    simp only [impl_lineOk.l0]
    rw [drop_all okc _ i hl2, bt_nat hl]
    refine Ev.posf (by omega) (Ev.posf (by omega) (Ev.posf (by omega) ?_))
    by_cases h1 : (((s.data.toList[i]'hl2).toNat : Nat) : Int) < 32
    · refine Ev.posf h1 (EvT (Ev.now _) ?_)
      have : okc (s.data.toList[i]'hl2) = false := by simp only [okc, Bool.and_eq_false_iff, decide_eq_false_iff_not]; omega
      rw [this]; rfl
    · by_cases h2 : (((s.data.toList[i]'hl2).toNat : Nat) : Int) > 126
      · refine Ev.negf h1 (Ev.posf h2 (EvT (Ev.now _) ?_))
        have : okc (s.data.toList[i]'hl2) = false := by simp only [okc, Bool.and_eq_false_iff, decide_eq_false_iff_not]; omega
        rw [this]; rfl
      · refine Ev.negf h1 (Ev.negf h2 ?_)
        have : okc (s.data.toList[i]'hl2) = true := by simp only [okc, Bool.and_eq_true, decide_eq_true_eq]; omega
        rw [this, Bool.true_and, show wrap64 ((i : Int) + 1) = ((i + 1 : Nat) : Int) by rw [w64 (by omega) (by omega)]; omega]
        exact implLine0_ev s hs d (i + 1) (by omega) (by omega)
theorem implLine_ev (s : ByteArray) (hs : s.size ≤ 1000000) : Ev (fun k => impl_lineOk.f k s) (lineB s) := by
  unfold impl_lineOk.f
  exact EvT (implLine0_ev s hs _ 0 (by omega) rfl) (by simp [lineB])
theorem specLine0_ev (s : ByteArray) (hs : s.size ≤ 1000000) : ∀ (d i : Nat), i ≤ s.size → s.size - i = d →
    Ev (fun k => spec_l1Line.l0 k s i) ((s.data.toList.drop i).all okc && decide (s.size ≤ 12))
  | 0, i, hi, hd => by
    refine Ev.step' ?_
    simp only [spec_l1Line.l0]
    refine Ev.negf (by omega) ?_
    have e : s.data.toList.drop i = [] := List.drop_eq_nil_of_le (by have : s.data.toList.length = s.size := by simp
                                                                     omega)
    rw [e]
    exact EvT (Ev.now _) (by simp; omega)
  | d + 1, i, hi, hd => by
    have hl : i < s.size := by omega
    have hl2 : i < s.data.toList.length := by simpa using hl
    refine Ev.step' ?_
    simp only [spec_l1Line.l0]
    rw [drop_all okc _ i hl2, bt_nat hl]
    refine Ev.posf (by omega) (Ev.posf (by omega) ?_)
    by_cases h1 : (((s.data.toList[i]'hl2).toNat : Nat) : Int) < 32
    · refine Ev.posf h1 (EvT (Ev.now _) ?_)
      have : okc (s.data.toList[i]'hl2) = false := by simp only [okc, Bool.and_eq_false_iff, decide_eq_false_iff_not]; omega
      rw [this]; rfl
    · by_cases h2 : (((s.data.toList[i]'hl2).toNat : Nat) : Int) > 126
      · refine Ev.negf h1 (Ev.posf h2 (EvT (Ev.now _) ?_))
        have : okc (s.data.toList[i]'hl2) = false := by simp only [okc, Bool.and_eq_false_iff, decide_eq_false_iff_not]; omega
        rw [this]; rfl
      · refine Ev.negf h1 (Ev.negf h2 ?_)
        have : okc (s.data.toList[i]'hl2) = true := by simp only [okc, Bool.and_eq_true, decide_eq_true_eq]; omega
        rw [this, Bool.true_and, show wrap64 ((i : Int) + 1) = ((i + 1 : Nat) : Int) by rw [w64 (by omega) (by omega)]; omega]
        exact specLine0_ev s hs d (i + 1) (by omega) (by omega)
theorem specLine_ev (s : ByteArray) (hs : s.size ≤ 1000000) : Ev (fun k => spec_l1Line.f k s) (lineB s) := by
  unfold spec_l1Line.f
  exact EvT (specLine0_ev s hs _ 0 (by omega) rfl) (by simp [lineB])
theorem anyF_ev {α : Type} (f : Nat → α → Option Bool) (p : α → Bool) : ∀ l : List α, (∀ x ∈ l, Ev (fun k => f k x) (p x)) → Ev (fun k => anyF (f k) l) (l.any p)
  | [], h => Ev.now _
  | x :: t, h => by
    show Ev (fun k => (f k x).bind fun b => if b then some true else anyF (f k) t) ((x :: t).any p)
    refine Ev.bind (h x List.mem_cons_self) ?_
    cases e : p x with
    | true => exact EvT (Ev.posf rfl (Ev.now _)) (by simp [e])
    | false => exact EvT (Ev.negf (by simp) (anyF_ev f p t (fun y hy => h y (List.mem_cons_of_mem _ hy)))) (by simp [e])
theorem implText_ev (l : List ByteArray) (hl : Sm l) : Ev (fun k => impl_TextOk.f k l) (textB l) := by
  unfold impl_TextOk.f
  by_cases c : l.length ≤ 10
  · refine Ev.posf c (EvT (Ev.mapf _ (anyF_ev impl_TextOk_1.f (fun s => !lineB s) l (fun x hx => ?_))) ?_)
    · unfold impl_TextOk_1.f
      exact Ev.bind (implLine_ev x (hl.2 x hx)) (Ev.now _)
    · rw [textB, decide_eq_true c, Bool.true_and, ← List.not_all_eq_any_not]
      simp
  · exact Ev.negf c (EvT (Ev.now _) (by simp [textB]; omega))
theorem specText0_ev (l : List ByteArray) (hl : Sm l) : ∀ (d i : Nat), i ≤ l.length → l.length - i = d →
    Ev (fun k => spec_l1Ok.l0 k l i) ((l.drop i).all lineB && decide (l.length ≤ 10))
  | 0, i, hi, hd => by
    refine Ev.step' ?_
    simp only [spec_l1Ok.l0]
    refine Ev.negf (by omega) ?_
    rw [List.drop_eq_nil_of_le (by omega)]
    exact EvT (Ev.now _) (by simp; omega)
  | d + 1, i, hi, hd => by
    have hlt : i < l.length := by omega
    have hl1 := hl.1
    refine Ev.step' ?_
    simp only [spec_l1Ok.l0]
    rw [drop_all lineB l i hlt, rdAt hlt]
    refine Ev.posf (by omega) (Ev.posf (by omega) (Ev.bind (specLine_ev _ (hl.2 _ (List.getElem_mem hlt))) ?_))
    cases e : lineB l[i] with
    | false => exact Ev.negf (by simp) (EvT (Ev.now _) (by simp))
    | true =>
      refine Ev.posf rfl ?_
      rw [Bool.true_and, show wrap64 ((i : Int) + 1) = ((i + 1 : Nat) : Int) by rw [w64 (by omega) (by omega)]; omega]
      exact specText0_ev l hl d (i + 1) (by omega) (by omega)
theorem specText_ev (l : List ByteArray) (hl : Sm l) : Ev (fun k => spec_l1Ok.f k l) (textB l) := by
  unfold spec_l1Ok.f
  exact EvT (specText0_ev l hl _ 0 (by omega) rfl) (by simp [textB, Bool.and_comm])
theorem smTexts0_ev (a b : List ByteArray) (h : a.length = b.length) (hs : a.length ≤ 100000000) : ∀ (d i : Nat), i ≤ a.length → a.length - i = d →
    ∃ r, Ev (fun k => laws_smTexts.l0 k a b i) r ∧ (r = true ↔ a.drop i = b.drop i)
  | 0, i, hi, hd => by
    refine ⟨true, Ev.step' ?_, ?_⟩
    · simp only [laws_smTexts.l0]
      exact Ev.negf (by omega) (Ev.now _)
    · rw [List.drop_eq_nil_of_le (by omega), List.drop_eq_nil_of_le (by omega)]; simp
  | d + 1, i, hi, hd => by
    have h1 : i < a.length := by omega
    have h2 : i < b.length := by omega
    rw [List.drop_eq_getElem_cons h1, List.drop_eq_getElem_cons h2]
    by_cases c : a[i].toList = b[i].toList
    · obtain ⟨r, hr, he⟩ := smTexts0_ev a b h hs d (i + 1) (by omega) (by omega)
      refine ⟨r, Ev.step' ?_, ?_⟩
      · simp only [laws_smTexts.l0]
        rw [rdAt h1, rdAt h2, show wrap64 ((i : Int) + 1) = ((i + 1 : Nat) : Int) by rw [w64 (by omega) (by omega)]; omega]
        exact Ev.posf (by omega) (Ev.posf (by omega) (Ev.posf (by omega) (Ev.posf c hr)))
      · rw [he, bstr.mp c]; exact ⟨fun e => by rw [e], fun e => (List.cons.inj e).2⟩
    · refine ⟨false, Ev.step' ?_, ?_⟩
      · simp only [laws_smTexts.l0]
        rw [rdAt h1, rdAt h2]
        exact Ev.posf (by omega) (Ev.posf (by omega) (Ev.posf (by omega) (Ev.negf c (Ev.now _))))
      · exact ⟨fun e => (by cases e), fun e => absurd (bstr.mpr (List.cons.inj e).1) c⟩
theorem smTexts_ev (a b : List ByteArray) (hs : a.length ≤ 100000000) : ∃ r, Ev (fun k => laws_smTexts.f k a b) r ∧ (r = true ↔ a = b) := by
  unfold laws_smTexts.f
  by_cases h : a.length = b.length
  · obtain ⟨r, hr, he⟩ := smTexts0_ev a b h hs _ 0 (by omega) rfl
    exact ⟨r, Ev.posf (by omega) hr, by simpa using he⟩
  · exact ⟨false, Ev.negf (by omega) (Ev.now _), by simp; intro e; exact h (by rw [e])⟩
theorem smTexts_refl (a : List ByteArray) (hs : a.length ≤ 100000000) : Ev (fun k => laws_smTexts.f k a a) true := by
  obtain ⟨r, hr, he⟩ := smTexts_ev a a hs
  rw [he.mpr rfl] at hr
  exact hr
end Go.Proofs.Ytfnhjaiioojbkaa.Q
end
section
namespace Go.Proofs.Ytfnhjaiioojbkaa.Q
open Go.RowKit Go.Proofs.YtfnhjaiioojbkaaW.PrintWords
set_option linter.unusedVariables false
set_option linter.unusedSimpArgs false
abbrev Dl := S39
abbrev Tx := List ByteArray
/-- How many lines two texts begin with together. -/
def pre : Tx → Tx → Nat
  | a :: s, b :: t => if a.toList = b.toList then pre s t + 1 else 0
  | _, _ => 0
def lrGo (t : Tx) : Tx → Int → Int → Int → Int × Int
  | [], _, f, m => (f, m)
  | b :: s, i, f, m => if (pre (b :: s) t : Int) > m then lrGo t s (i + 1) i (pre (b :: s) t) else lrGo t s (i + 1) f m
def lr (base t : Tx) : Int × Int := lrGo t base 0 0 0
def dGo (base : Tx) : Nat → Tx → List Dl → List Dl
  | 0, _, out => out
  | _, [], out => out
  | n + 1, b :: t, out =>
    if (lr base (b :: t)).2 > 0 then dGo base n ((b :: t).drop (lr base (b :: t)).2.toNat) (out ++ [⟨(lr base (b :: t)).1, (lr base (b :: t)).2, []⟩])
    else if 0 < out.length ∧ (rd_T39 out ((out.length : Int) - 1)).f1 = 0 then
      dGo base n t (out.set (out.length - 1) ⟨(rd_T39 out ((out.length : Int) - 1)).f0, (rd_T39 out ((out.length : Int) - 1)).f1, (rd_T39 out ((out.length : Int) - 1)).f2 ++ [b]⟩)
    else dGo base n t (out ++ [⟨0, 0, [b]⟩])
def dOf (base t : Tx) : List Dl := dGo base t.length t []
theorem pre_nil_left (t : Tx) : pre [] t = 0 := by simp [pre]
theorem pre_nil_right : ∀ s : Tx, pre s [] = 0
  | [] => rfl
  | _ :: _ => rfl
theorem pre_cons_pos {a b : ByteArray} {s t : Tx} (h : a.toList = b.toList) : pre (a :: s) (b :: t) = pre s t + 1 := if_pos h
theorem pre_cons_neg {a b : ByteArray} {s t : Tx} (h : ¬ a.toList = b.toList) : pre (a :: s) (b :: t) = 0 := if_neg h
theorem pre_le : ∀ s t : Tx, pre s t ≤ s.length ∧ pre s t ≤ t.length
  | a :: s, b :: t => by
    have := pre_le s t
    unfold pre
    split <;> simp <;> omega
  | [], t => by simp [pre]
  | a :: s, [] => by simp [pre]
theorem pre_take : ∀ s t : Tx, s.take (pre s t) = t.take (pre s t)
  | a :: s, b :: t => by
    unfold pre
    split
    · rename_i h
      rw [List.take_succ_cons, List.take_succ_cons, pre_take s t, bstr.mp h]
    · rfl
  | [], t => by simp [pre]
  | a :: s, [] => by simp [pre]
/-- A run: lines of the base with which the text begins. -/
def Run (base t : Tx) (r : Int × Int) : Prop := 0 ≤ r.1 ∧ 0 ≤ r.2 ∧ r.1 + r.2 ≤ base.length ∧ r.2 ≤ t.length ∧ (base.drop r.1.toNat).take r.2.toNat = t.take r.2.toNat
theorem lrGo_run (base t : Tx) : ∀ (s : Tx) (i : Nat) (f m : Int), base.drop i = s → i + s.length = base.length → Run base t (f, m) → Run base t (lrGo t s i f m)
  | [], i, f, m, hs, hl, h => h
  | b :: s, i, f, m, hs, hl, h => by
    have hs' : base.drop (i + 1) = s := by rw [← List.drop_drop, hs]; rfl
    have hl' : i + 1 + s.length = base.length := by simp at hl; omega
    have hp := pre_le (b :: s) t
    unfold lrGo
    split
    · refine lrGo_run base t s (i + 1) _ _ hs' hl' ⟨by simp, by simp, ?_, ?_, ?_⟩
      · simp at hp ⊢; omega
      · simp at hp ⊢; omega
      · simp only [Int.toNat_natCast]
        rw [hs]
        exact pre_take _ _
    · exact lrGo_run base t s (i + 1) f m hs' hl' h
theorem lr_run (base t : Tx) : Run base t (lr base t) := lrGo_run base t base 0 0 0 rfl (by simp) ⟨by simp, by simp, by simp, by simp, by simp⟩
/-- What a piece makes. -/
def seg (base : Tx) (x : Dl) : Tx := (base.take (x.f0 + x.f1).toNat).drop x.f0.toNat ++ x.f2
def ap (base : Tx) (d : List Dl) : Tx := d.flatMap (seg base)
def Piece (base : Tx) (x : Dl) : Prop := (1 ≤ x.f1 ∧ 0 ≤ x.f0 ∧ x.f0 + x.f1 ≤ base.length ∧ x.f2 = []) ∨ (x.f0 = 0 ∧ x.f1 = 0 ∧ 1 ≤ x.f2.length)
theorem piece_len {base : Tx} {x : Dl} (h : Piece base x) : 1 ≤ (seg base x).length ∧ x.f2.length ≤ (seg base x).length ∧ 0 ≤ x.f0 ∧ 0 ≤ x.f1 ∧ x.f0 + x.f1 ≤ base.length := by
  unfold seg
  rcases h with ⟨h1, h2, h3, h4⟩ | ⟨h1, h2, h3⟩
  · simp [h4]; omega
  · simp [h1, h2]; omega
theorem ap_snoc (base : Tx) (d : List Dl) (x : Dl) : ap base (d ++ [x]) = ap base d ++ seg base x := by simp [ap]
theorem ap_len {base : Tx} : ∀ {d : List Dl}, (∀ x ∈ d, Piece base x) → d.length ≤ (ap base d).length
  | [], _ => by simp
  | x :: d, h => by
    have h1 := (piece_len (h x List.mem_cons_self)).1
    have h2 := ap_len (fun y hy => h y (List.mem_cons_of_mem _ hy)) (d := d)
    simp [ap] at h2 ⊢
    omega
theorem mem_ap {base : Tx} {d : List Dl} {x : Dl} (hx : x ∈ d) {s : ByteArray} (hs : s ∈ x.f2) : s ∈ ap base d := by
  simp only [ap, List.mem_flatMap]
  exact ⟨x, hx, by simp [seg, hs]⟩
theorem rdD {d : List Dl} {i : Nat} (h : i < d.length) : rd_T39 d (i : Int) = d[i] := by
  simp [rd_T39, List.getD_eq_getElem?_getD, h]
theorem rd_last {d : List Dl} (x : Dl) : rd_T39 (d ++ [x]) (((d ++ [x]).length : Int) - 1) = x := by
  have e : (((d ++ [x]).length : Int) - 1) = ((d.length : Nat) : Int) := by simp
  rw [e, rdD (by simp)]
  simp
theorem set_last (d : List Dl) (x y : Dl) : (d ++ [x]).set ((d ++ [x]).length - 1) y = d ++ [y] := by
  simp
/-- The last piece, as the text has it. -/
theorem last_of {d : List Dl} (h : 0 < d.length) : ∃ d' x, d = d' ++ [x] := ⟨d.dropLast, d.getLast (by intro e; rw [e] at h; simp at h), (List.dropLast_concat_getLast _).symm⟩
theorem dGo_right (base : Tx) : ∀ (n : Nat) (t : Tx) (out : List Dl), t.length ≤ n → (∀ x ∈ out, Piece base x) → ap base (dGo base n t out) = ap base out ++ t ∧ ∀ x ∈ dGo base n t out, Piece base x
  | 0, t, out, hn, h => by
    have : t = [] := List.eq_nil_of_length_eq_zero (by omega)
    subst this
    simpa [dGo] using h
  | n + 1, [], out, hn, h => by simpa [dGo] using h
  | n + 1, b :: t, out, hn, h => by
    have hr := lr_run base (b :: t)
    unfold dGo
    by_cases c : (lr base (b :: t)).2 > 0
    · rw [if_pos c]
      obtain ⟨r1, r2, r3, r4, r5⟩ := hr
      have hp : Piece base ⟨(lr base (b :: t)).1, (lr base (b :: t)).2, []⟩ := .inl ⟨by show 1 ≤ (lr base (b :: t)).2; omega, r1, r3, rfl⟩
      have := dGo_right base n ((b :: t).drop (lr base (b :: t)).2.toNat) (out ++ [⟨(lr base (b :: t)).1, (lr base (b :: t)).2, []⟩]) (by simp at hn ⊢; omega)
        (fun x hx => by simp at hx; rcases hx with hx | rfl; exact h x hx; exact hp)
      refine ⟨?_, this.2⟩
      rw [this.1, ap_snoc, List.append_assoc]
      congr 1
      show (base.take ((lr base (b :: t)).1 + (lr base (b :: t)).2).toNat).drop (lr base (b :: t)).1.toNat ++ [] ++ _ = _
      rw [show ((lr base (b :: t)).1 + (lr base (b :: t)).2).toNat = (lr base (b :: t)).1.toNat + (lr base (b :: t)).2.toNat by omega, List.append_nil, ← List.take_drop, r5, List.take_append_drop]
    · rw [if_neg c]
      split
      · rename_i g
        obtain ⟨d, x, rfl⟩ := last_of g.1
        rw [rd_last, set_last]
        rw [rd_last] at g
        have hx := h x (by simp)
        have hx2 : x.f0 = 0 ∧ 1 ≤ x.f2.length := by
          rcases hx with ⟨h1, _⟩ | ⟨h1, _, h3⟩
          · exact absurd g.2 (by omega)
          · exact ⟨h1, h3⟩
        have := dGo_right base n t (d ++ [⟨x.f0, x.f1, x.f2 ++ [b]⟩]) (by simp at hn; omega)
          (fun y hy => by simp at hy; rcases hy with hy | rfl; exact h y (by simp [hy]); exact .inr ⟨hx2.1, g.2, by simp⟩)
        refine ⟨?_, this.2⟩
        rw [this.1, ap_snoc, ap_snoc]
        simp [seg]
      · have := dGo_right base n t (out ++ [⟨0, 0, [b]⟩]) (by simp at hn; omega)
          (fun y hy => by simp at hy; rcases hy with hy | rfl; exact h y hy; exact .inr ⟨rfl, rfl, by simp⟩)
        refine ⟨?_, this.2⟩
        rw [this.1, ap_snoc]
        simp [seg]
theorem dOf_right (base t : Tx) : ap base (dOf base t) = t ∧ ∀ x ∈ dOf base t, Piece base x := by
  have := dGo_right base t.length t [] (Nat.le_refl _) (by simp)
  simpa [ap, dOf] using this
end Go.Proofs.Ytfnhjaiioojbkaa.Q
end
section
namespace Go.Proofs.Ytfnhjaiioojbkaa.Q
open Go.RowKit Go.Proofs.YtfnhjaiioojbkaaW.PrintWords
set_option linter.unusedVariables false
set_option linter.unusedSimpArgs false
theorem specRun1_ev {base t : Tx} (hb : base.length ≤ 1000000) (ht : t.length ≤ 1000000) (i : Nat) (f m : Int) (r : Int × Int) : ∀ (d n N : Nat), base.length - (i + n) = d → i + n ≤ base.length → n ≤ t.length → N = n + pre (base.drop (i + n)) (t.drop n) →
    Ev (fun k => spec_l13Run.l0 k base t (if (N : Int) > m then i else f) (if (N : Int) > m then (N : Int) else m) ((i + 1 : Nat) : Int)) r →
    Ev (fun k => spec_l13Run.l1 k base t f m i n) r := by
  intro d
  induction d with
  | zero =>
    intro n N hd h1 h2 hN h
    have e : base.drop (i + n) = [] := List.drop_eq_nil_of_le (by omega)
    have hNn : n = N := by rw [hN, e, pre_nil_left, Nat.add_zero]
    subst hNn
    refine Ev.step' ?_
    simp only [spec_l13Run.l1, w64_add i n (by omega), w64_succ i (by omega)]
    refine Ev.negf (by omega) ?_
    by_cases c : (n : Int) > m
    · rw [if_pos c, if_pos c] at h; exact Ev.posf c h
    · rw [if_neg c, if_neg c] at h; exact Ev.negf c h
  | succ d ih =>
    intro n N hd h1 h2 hN h
    have g1 : i + n < base.length := by omega
    refine Ev.step' ?_
    simp only [spec_l13Run.l1, w64_add i n (by omega), w64_succ i (by omega), w64_succ n (by omega)]
    refine Ev.posf (by omega) ?_
    by_cases g2 : n < t.length
    · refine Ev.posf (by omega) (Ev.posf (by omega) (Ev.posf (by omega) ?_))
      rw [rdAt g1, rdAt g2]
      rw [List.drop_eq_getElem_cons g1, List.drop_eq_getElem_cons g2] at hN
      by_cases c : base[i + n].toList = t[n].toList
      · rw [pre_cons_pos c] at hN
        exact Ev.posf c (ih (n + 1) N (by omega) (by omega) (by omega) (by rw [hN, show i + (n + 1) = i + n + 1 by omega]; omega) h)
      · rw [pre_cons_neg c, Nat.add_zero] at hN
        have hNn : n = N := hN.symm
        subst hNn
        refine Ev.negf c ?_
        by_cases c : (n : Int) > m
        · rw [if_pos c, if_pos c] at h; exact Ev.posf c h
        · rw [if_neg c, if_neg c] at h; exact Ev.negf c h
    · have e : t.drop n = [] := List.drop_eq_nil_of_le (by omega)
      have hNn : n = N := by rw [hN, e, pre_nil_right, Nat.add_zero]
      subst hNn
      refine Ev.negf (by omega) ?_
      by_cases c : (n : Int) > m
      · rw [if_pos c, if_pos c] at h; exact Ev.posf c h
      · rw [if_neg c, if_neg c] at h; exact Ev.negf c h
theorem specRun0_ev {base t : Tx} (hb : base.length ≤ 1000000) (ht : t.length ≤ 1000000) : ∀ (d i : Nat) (f m : Int), base.length - i = d → i ≤ base.length → Ev (fun k => spec_l13Run.l0 k base t f m i) (lrGo t (base.drop i) i f m)
  | 0, i, f, m, hd, hi => by
    rw [List.drop_eq_nil_of_le (by omega)]
    refine Ev.step' ?_
    simp only [spec_l13Run.l0]
    exact Ev.negf (by omega) (Ev.now _)
  | d + 1, i, f, m, hd, hi => by
    have g : i < base.length := by omega
    refine Ev.step' ?_
    simp only [spec_l13Run.l0]
    refine Ev.posf (by omega) (specRun1_ev hb ht i f m _ _ 0 _ rfl (by omega) (by omega) rfl ?_)
    have e := List.drop_eq_getElem_cons g
    rw [e, lrGo, ← e]
    simp only [Nat.zero_add, Nat.add_zero, List.drop_zero]
    by_cases c : (pre (base.drop i) t : Int) > m
    · rw [if_pos c, if_pos c, if_pos c]
      exact specRun0_ev hb ht d (i + 1) _ _ (by omega) (by omega)
    · rw [if_neg c, if_neg c, if_neg c]
      exact specRun0_ev hb ht d (i + 1) _ _ (by omega) (by omega)
theorem specRun_ev {base t : Tx} (hb : base.length ≤ 1000000) (ht : t.length ≤ 1000000) : Ev (fun k => spec_l13Run.f k base t) (lr base t) := by
  unfold spec_l13Run.f
  exact specRun0_ev hb ht _ 0 0 0 rfl (by omega)
theorem specOf0_ev {base : Tx} (hb : base.length ≤ 10000) : ∀ (n : Nat) (t : Tx) (out : List Dl), t.length ≤ n → n ≤ 10000 → out.length + n ≤ 20000 → (∀ x ∈ out, x.f2.length + n ≤ 20000) → Ev (fun k => spec_l13Of.l0 k base t out) (dGo base n t out)
  | 0, t, out, h1, h2, h3, h4 => by
    have : t = [] := List.eq_nil_of_length_eq_zero (by omega)
    subst this
    refine Ev.step' ?_
    simp only [spec_l13Of.l0, dGo]
    exact Ev.negf (by simp) (Ev.now _)
  | n + 1, [], out, h1, h2, h3, h4 => by
    refine Ev.step' ?_
    simp only [spec_l13Of.l0, dGo]
    exact Ev.negf (by simp) (Ev.now _)
  | n + 1, b :: t, out, h1, h2, h3, h4 => by
    obtain ⟨r1, r2, r3, r4, r5⟩ := lr_run base (b :: t)
    have hw : wrap64 ((out.length : Int) - 1) = (out.length : Int) - 1 := w64 (by omega) (by omega)
    have hlen : ((b :: t).length : Int) ≥ 1 := by rw [List.length_cons]; omega
    refine Ev.step' ?_
    simp only [spec_l13Of.l0, dGo, hw]
    refine Ev.posf (by omega) (Ev.bind (specRun_ev (by omega) (by omega)) ?_)
    by_cases c : (lr base (b :: t)).2 > 0
    · rw [if_pos c]
      refine Ev.posf c (Ev.posf (by omega) (Ev.posf r2 (Ev.posf r4 ?_)))
      exact specOf0_ev hb n _ _ (by simp at h1 ⊢; omega) (by omega) (by simp; omega) (fun x hx => by simp at hx; rcases hx with hx | rfl; (have := h4 x hx; omega); (simp; omega))
    · rw [if_neg c]
      refine Ev.negf c ?_
      have hd1 : List.drop 1 (b :: t) = t := rfl
      have hr0 : rdOf ByteArray.empty (b :: t) 0 = b := rfl
      simp only [hd1, hr0]
      by_cases g : 0 < out.length
      · refine Ev.posf (by omega) (Ev.posf (by omega) (Ev.posf (by omega) ?_))
        by_cases z : (rd_T39 out ((out.length : Int) - 1)).f1 = 0
        · rw [if_pos ⟨g, z⟩]
          have hm : rd_T39 out ((out.length : Int) - 1) ∈ out := by
            rw [show (out.length : Int) - 1 = ((out.length - 1 : Nat) : Int) by omega, rdD (by omega)]
            exact List.getElem_mem _
          have hf := h4 _ hm
          refine Ev.posf z (Ev.posf (by omega) (Ev.posf (by omega) (Ev.posf (by omega) ?_)))
          rw [show (((out.length : Int) - 1)).toNat = out.length - 1 by omega]
          exact specOf0_ev hb n _ _ (by simp at h1; omega) (by omega) (by simp; omega) (fun x hx => by
            rcases List.mem_or_eq_of_mem_set hx with hx | rfl
            · have := h4 x hx; omega
            · simp; omega)
        · rw [if_neg (fun h => z h.2)]
          refine Ev.negf z (Ev.posf (by omega) (Ev.posf (by omega) (Ev.posf (by omega) ?_)))
          exact specOf0_ev hb n _ _ (by simp at h1; omega) (by omega) (by simp; omega) (fun x hx => by simp at hx; rcases hx with hx | rfl; (have := h4 x hx; omega); (simp; omega))
      · rw [if_neg (fun h => g h.1)]
        refine Ev.negf (by omega) (Ev.posf (by omega) (Ev.posf (by omega) (Ev.posf (by omega) ?_)))
        exact specOf0_ev hb n _ _ (by simp at h1; omega) (by omega) (by simp; omega) (fun x hx => by simp at hx; rcases hx with hx | rfl; (have := h4 x hx; omega); (simp; omega))
theorem specOf_ev {base t : Tx} (hb : base.length ≤ 10000) (ht : t.length ≤ 10000) : Ev (fun k => spec_l13Of.f k base t) (dOf base t) := by
  unfold spec_l13Of.f
  exact specOf0_ev hb _ t [] (Nat.le_refl _) ht (by simp; omega) (by simp)
end Go.Proofs.Ytfnhjaiioojbkaa.Q
end
section
namespace Go.Proofs.Ytfnhjaiioojbkaa.Q
open Go.RowKit Go.Proofs.YtfnhjaiioojbkaaW.PrintWords
set_option linter.unusedVariables false
set_option linter.unusedSimpArgs false
def pB (f0 f1 : Int) (L : Nat) (T : Bool) : Bool := (decide (1 ≤ f1) && decide (0 ≤ f0) && decide (f0 ≤ 10) && decide (f1 ≤ 10 - f0) && decide (L = 0)) || (decide (f0 = 0) && decide (f1 = 0) && decide (0 < L) && T)
def pieceB (x : Dl) : Bool := pB x.f0 x.f1 x.f2.length (textB x.f2)
theorem textB_nil {l : List ByteArray} (h : l.length = 0) : textB l = true := by
  rw [List.eq_nil_of_length_eq_zero h]
  rfl
theorem pB_good {f0 f1 : Int} {L : Nat} {T bad : Bool} (hbad : bad = (!(decide (0 ≤ f0) && decide (f0 ≤ 10) && (decide (0 ≤ f1) && decide (f1 ≤ 10 - f0)) && T)))
    (c1 : bad = false) (c2 : ¬ ((decide (f1 > 0)) == (decide ((L : Int) > 0))) = true) (c3 : f1 = 0 → f0 = 0) : pB f0 f1 L T = true := by
  subst hbad
  by_cases a : f1 > 0 <;> by_cases b : (L : Int) > 0 <;> cases T <;> simp [a, b] at c1 c2 <;> simp [pB] <;> omega
theorem pB_bad {f0 f1 : Int} {L : Nat} {T bad : Bool} (hT : L = 0 → T = true) (hbad : bad = (!(decide (0 ≤ f0) && decide (f0 ≤ 10) && (decide (0 ≤ f1) && decide (f1 ≤ 10 - f0)) && T)))
    (hb : bad = true ∨ ((decide (f1 > 0)) == (decide ((L : Int) > 0))) = true ∨ (f1 = 0 ∧ f0 ≠ 0)) : pB f0 f1 L T = false := by
  subst hbad
  rw [Bool.eq_false_iff]
  intro h
  simp only [pB, Bool.or_eq_true, Bool.and_eq_true, decide_eq_true_eq] at h
  rcases h with ⟨⟨⟨⟨h1, h2⟩, h3⟩, h4⟩, h5⟩ | ⟨⟨⟨h1, h2⟩, h3⟩, h4⟩
  · have ht := hT h5
    rcases hb with hb | hb | hb
    · rw [ht, decide_eq_true h2, decide_eq_true h3, decide_eq_true h4, decide_eq_true (show 0 ≤ f1 by omega)] at hb
      cases hb
    · rw [decide_eq_true (show f1 > 0 by omega), decide_eq_false (show ¬ (L : Int) > 0 by omega)] at hb
      cases hb
    · omega
  · subst h1; subst h2; subst h4
    rcases hb with hb | hb | hb
    · simp at hb
    · rw [decide_eq_false (show ¬ (0 : Int) > 0 by omega), decide_eq_true (show (L : Int) > 0 by omega)] at hb
      cases hb
    · exact hb.2 rfl
def deltaB (d : List Dl) : Bool := decide (d.length ≤ 10) && d.all pieceB
theorem within_eq (a b c : Int) : impl_within.f a b c = some (decide (b ≤ a) && decide (a ≤ c)) := by
  unfold impl_within.f
  by_cases h : b ≤ a
  · rw [if_pos h]; simp [h]
  · rw [if_neg h]; simp [h]
theorem in_eq (a b c : Int) : spec_l1In.f a b c = some (decide (b ≤ a) && decide (a ≤ c)) := by
  unfold spec_l1In.f
  by_cases h : b ≤ a
  · rw [if_pos h]; simp [h]
  · rw [if_neg h]; simp [h]
theorem implPiece_ev (k0 k1 : Int) (l : List ByteArray) (hl : Sm l) : Ev (fun k => impl_DeltaOk_1.f k k0 k1 l) (!pieceB ⟨k0, k1, l⟩) := by
  have hT := implText_ev l hl
  unfold impl_DeltaOk_1.f
  by_cases h0 : 0 ≤ k0 ∧ k0 ≤ 10
  · have hw : wrap64 (10 - k0) = 10 - k0 := w64 (by omega) (by omega)
    simp only [within_eq, Option.bind_some, hw]
    repeat' first
      | (refine Ev.ite (fun _ => ?_) (fun _ => ?_))
      | (refine Ev.bind hT ?_)
    all_goals (refine EvT (Ev.now _) ?_; clear hT hl; show _ = !pB k0 k1 l.length (textB l); generalize textB l = T at *; generalize l.length = L at *; cases T <;> simp_all [pB] <;> omega)
  · have hn : (decide (0 ≤ k0) && decide (k0 ≤ 10)) = false := by rw [Bool.eq_false_iff]; simpa using h0
    simp only [within_eq, Option.bind_some, hn]
    repeat' first
      | (refine Ev.negf (show ¬ (false = true) by decide) ?_)
      | (refine Ev.ite (fun _ => ?_) (fun _ => ?_))
      | (refine Ev.bind hT ?_)
    all_goals (refine EvT (Ev.now _) ?_; clear hT hl; show _ = !pB k0 k1 l.length (textB l); generalize textB l = T at *; generalize l.length = L at *; cases T <;> simp_all [pB] <;> omega)
/-- Pieces whose loops are not long. -/
def SmD (d : List Dl) : Prop := d.length ≤ 1000000 ∧ ∀ x ∈ d, Sm x.f2
theorem implOk_ev (d : List Dl) (hd : SmD d) : Ev (fun k => impl_DeltaOk.f k d) (deltaB d) := by
  unfold impl_DeltaOk.f
  by_cases c : d.length ≤ 10
  · refine Ev.posf c (EvT (Ev.mapf _ (anyF_ev impl_DeltaOk.p (fun x => !pieceB x) d (fun x hx => ?_))) ?_)
    · exact implPiece_ev x.f0 x.f1 x.f2 (hd.2 x hx)
    · rw [deltaB, decide_eq_true c, Bool.true_and, ← List.not_all_eq_any_not]
      simp
  · exact Ev.negf c (EvT (Ev.now _) (by simp [deltaB]; omega))
theorem specOk1_ev (d : List Dl) (hd : SmD d) (i : Nat) (hi : i < d.length) (bad : Bool) (r : Bool)
    (hg : (bad = false → ¬ ((decide (d[i].f1 > 0)) == (decide (((d[i].f2).length : Int) > 0))) = true → (d[i].f1 = 0 → d[i].f0 = 0) → Ev (fun k => spec_l13Ok.l0 k d ((i + 1 : Nat) : Int)) r))
    (hb : bad = true ∨ ((decide (d[i].f1 > 0)) == (decide (((d[i].f2).length : Int) > 0))) = true ∨ (d[i].f1 = 0 ∧ d[i].f0 ≠ 0) → r = false) :
    Ev (fun k => spec_l13Ok.j1 k d i bad) r := by
  refine Ev.step' ?_
  have hi2 := hd.1
  simp only [spec_l13Ok.j1, rdD hi, w64_succ i (by omega)]
  refine Ev.ite (fun c => EvT (Ev.now _) (hb (.inl c)).symm) (fun c => Ev.posf (by omega) (Ev.posf (by omega) (Ev.ite (fun c1 => EvT (Ev.now _) (hb (.inr (.inl c1))).symm) (fun c1 => Ev.ite (fun c2 => Ev.ite (fun c3 => hg (by simpa using c) c1 (fun _ => c3)) (fun c3 => EvT (Ev.now _) (hb (.inr (.inr ⟨c2, c3⟩))).symm)) (fun c2 => hg (by simpa using c) c1 (fun h => absurd h c2))))))
theorem specOk0_ev (d : List Dl) (hd : SmD d) : ∀ (n i : Nat), i ≤ d.length → d.length - i = n → Ev (fun k => spec_l13Ok.l0 k d i) ((d.drop i).all pieceB && decide (d.length ≤ 10))
  | 0, i, hi, hn => by
    refine Ev.step' ?_
    simp only [spec_l13Ok.l0]
    rw [List.drop_eq_nil_of_le (by omega)]
    exact Ev.negf (by omega) (EvT (Ev.now _) (by simp; omega))
  | n + 1, i, hi, hn => by
    have h : i < d.length := by omega
    have hT := specText_ev _ (hd.2 _ (List.getElem_mem h))
    have ih := specOk0_ev d hd n (i + 1) (by omega) (by omega)
    rw [drop_all pieceB d i h]
    refine Ev.step' ?_
    simp only [spec_l13Ok.l0, rdD h, in_eq, Option.bind_some]
    refine Ev.posf (by omega) (Ev.posf (by omega) ?_)
    generalize (d.drop (i + 1)).all pieceB = q at ih
    have key : ∀ bad : Bool, (bad = (!(decide (0 ≤ d[i].f0) && decide (d[i].f0 ≤ 10) && (decide (0 ≤ d[i].f1) && decide (d[i].f1 ≤ 10 - d[i].f0)) && textB d[i].f2))) → Ev (fun k => spec_l13Ok.j1 k d i bad) (pieceB d[i] && q && decide (d.length ≤ 10)) := by
      intro bad hbad
      refine specOk1_ev d hd i h bad _ (fun c1 c2 c3 => ?_) (fun hb => ?_)
      · rw [show pieceB d[i] = true from pB_good hbad c1 c2 c3, Bool.true_and]
        exact ih
      · rw [show pieceB d[i] = false from pB_bad textB_nil hbad hb]; rfl
    by_cases h0 : 0 ≤ d[i].f0 ∧ d[i].f0 ≤ 10
    · have hw : wrap64 (10 - d[i].f0) = 10 - d[i].f0 := w64 (by omega) (by omega)
      simp only [hw]
      refine Ev.posf (by simpa using h0) (Ev.ite (fun c => Ev.bind hT (key _ ?_)) (fun c => key _ ?_))
      · simp at c; simp [h0, c]
      · rw [Bool.eq_false_iff.mpr c]; simp
    · exact Ev.negf (by simpa using h0) (key _ (by rw [show (decide (0 ≤ d[i].f0) && decide (d[i].f0 ≤ 10)) = false by rw [Bool.eq_false_iff]; simpa using h0]; simp))
theorem specOk_ev (d : List Dl) (hd : SmD d) : Ev (fun k => spec_l13Ok.f k d) (deltaB d) := by
  unfold spec_l13Ok.f
  exact EvT (specOk0_ev d hd _ 0 (by omega) rfl) (by simp [deltaB, Bool.and_comm])
end Go.Proofs.Ytfnhjaiioojbkaa.Q
end
section
namespace Go.Proofs.Ytfnhjaiioojbkaa.Q
open Go.RowKit Go.Proofs.YtfnhjaiioojbkaaW.PrintWords
set_option linter.unusedVariables false
set_option linter.unusedSimpArgs false
def doGo (base : Tx) : List Dl → Tx → Option Tx
  | [], acc => some acc
  | x :: d, acc => if x.f0 + x.f1 > base.length then none else doGo base d (acc ++ seg base x)
def fin : Option Tx → Tx × Bool
  | some x => if textB x = true then (x, true) else ([], false)
  | none => ([], false)
def doB (base : Tx) (d : List Dl) : Tx × Bool := if textB base = true ∧ deltaB d = true then fin (doGo base d []) else ([], false)
theorem textB_len {l : Tx} (h : textB l = true) : l.length ≤ 10 := by
  simp only [textB, Bool.and_eq_true, decide_eq_true_eq] at h
  exact h.1
theorem textB_size {l : Tx} (h : textB l = true) : ∀ s ∈ l, s.size ≤ 12 := by
  simp only [textB, Bool.and_eq_true, List.all_eq_true] at h
  intro s hs
  have := h.2 s hs
  simp only [lineB, Bool.and_eq_true, decide_eq_true_eq] at this
  exact this.2
theorem textB_Sm {l : Tx} (h : textB l = true) : Sm l := ⟨by have := textB_len h; omega, fun s hs => by have := textB_size h s hs; omega⟩
/-- What an ok piece is like. -/
theorem piece_ok {x : Dl} (h : pieceB x = true) : 0 ≤ x.f0 ∧ 0 ≤ x.f1 ∧ x.f0 + x.f1 ≤ 10 ∧ x.f2.length ≤ 10 ∧ ∀ s ∈ x.f2, s.size ≤ 12 := by
  simp only [pieceB, pB, Bool.or_eq_true, Bool.and_eq_true, decide_eq_true_eq] at h
  rcases h with ⟨⟨⟨⟨h1, h2⟩, h3⟩, h4⟩, h5⟩ | ⟨⟨⟨h1, h2⟩, h3⟩, h4⟩
  · rw [List.eq_nil_of_length_eq_zero h5]
    exact ⟨by omega, by omega, by omega, by simp, by simp⟩
  · exact ⟨by omega, by omega, by omega, textB_len h4, textB_size h4⟩
theorem seg_in {base : Tx} {x : Dl} (hb : textB base = true) (h : pieceB x = true) : (seg base x).length ≤ 20 ∧ ∀ s ∈ seg base x, s.size ≤ 12 := by
  have hb1 := textB_len hb
  obtain ⟨_, _, _, h4, h5⟩ := piece_ok h
  refine ⟨by simp [seg]; omega, fun s hs => ?_⟩
  rcases List.mem_append.mp hs with hs | hs
  · exact textB_size hb s (List.mem_of_mem_take (List.mem_of_mem_drop hs))
  · exact h5 s hs
theorem implDo_ev {base : Tx} (hb : textB base = true) (d : List Dl) (hd : ∀ x ∈ d, pieceB x = true) (hl : d.length ≤ 1000) : ∀ (n i : Nat) (acc : Tx), i ≤ d.length → d.length - i = n → acc.length ≤ 20 * i → (∀ s ∈ acc, s.size ≤ 12) →
    Ev (fun k => impl_DeltaDo.l0 k base acc d d.length i) (fin (doGo base (d.drop i) acc))
  | 0, i, acc, hi, hn, ha, hz => by
    rw [List.drop_eq_nil_of_le (by omega)]
    have hT := implText_ev acc ⟨by omega, fun s hs => by have := hz s hs; omega⟩
    refine Ev.step' ?_
    simp only [impl_DeltaDo.l0]
    refine Ev.negf (by omega) (Ev.bind hT (Ev.ite (fun c => EvT (Ev.now _) ?_) (fun c => EvT (Ev.now _) ?_)))
    · simp [doGo, fin, c]
    · simp [doGo, fin, c]
  | n + 1, i, acc, hi, hn, ha, hz => by
    have h : i < d.length := by omega
    obtain ⟨p1, p2, p3, p4, p5⟩ := piece_ok (hd _ (List.getElem_mem h))
    have hb1 := textB_len hb
    obtain ⟨s1, s2⟩ := seg_in hb (hd _ (List.getElem_mem h))
    rw [List.drop_eq_getElem_cons h, doGo]
    have ih := implDo_ev hb d hd hl n (i + 1) (acc ++ seg base d[i]) (by omega) (by omega) (by simp; omega) (fun s hs => by rcases List.mem_append.mp hs with hs | hs; exact hz s hs; exact s2 s hs)
    refine Ev.step' ?_
    simp only [impl_DeltaDo.l0, rdD h, w64 (x := d[i].f0 + d[i].f1) (by omega) (by omega), w64_succ i (by omega)]
    refine Ev.posf (by omega) (Ev.posf (by omega) (Ev.posf (by omega) ?_))
    by_cases c : d[i].f0 + d[i].f1 > base.length
    · rw [if_pos c]
      exact Ev.posf c (Ev.now _)
    · rw [if_neg c]
      refine Ev.negf c (Ev.posf p1 (Ev.posf (by omega) (Ev.posf (by omega) (Ev.posf (by simp; omega) (Ev.somef (Ev.posf (by simp; omega) ?_))))))
      rw [List.append_assoc]
      exact ih
theorem specDo_ev {base : Tx} (hb : textB base = true) (d : List Dl) (hd : ∀ x ∈ d, pieceB x = true) (hl : d.length ≤ 1000) : ∀ (n i : Nat) (acc : Tx), i ≤ d.length → d.length - i = n → acc.length ≤ 20 * i → (∀ s ∈ acc, s.size ≤ 12) →
    Ev (fun k => spec_l13Do.l0 k base d acc i) (fin (doGo base (d.drop i) acc))
  | 0, i, acc, hi, hn, ha, hz => by
    rw [List.drop_eq_nil_of_le (by omega)]
    have hT := specText_ev acc ⟨by omega, fun s hs => by have := hz s hs; omega⟩
    refine Ev.step' ?_
    simp only [spec_l13Do.l0]
    refine Ev.negf (by omega) (Ev.bind hT (Ev.ite (fun c => EvT (Ev.now _) ?_) (fun c => EvT (Ev.now _) ?_)))
    · simp [doGo, fin, c]
    · simp [doGo, fin, c]
  | n + 1, i, acc, hi, hn, ha, hz => by
    have h : i < d.length := by omega
    obtain ⟨p1, p2, p3, p4, p5⟩ := piece_ok (hd _ (List.getElem_mem h))
    have hb1 := textB_len hb
    obtain ⟨s1, s2⟩ := seg_in hb (hd _ (List.getElem_mem h))
    rw [List.drop_eq_getElem_cons h, doGo]
    have ih := specDo_ev hb d hd hl n (i + 1) (acc ++ seg base d[i]) (by omega) (by omega) (by simp; omega) (fun s hs => by rcases List.mem_append.mp hs with hs | hs; exact hz s hs; exact s2 s hs)
    refine Ev.step' ?_
    simp only [spec_l13Do.l0, rdD h, w64 (x := d[i].f0 + d[i].f1) (by omega) (by omega), w64_succ i (by omega)]
    refine Ev.posf (by omega) (Ev.posf (by omega) ?_)
    by_cases c : d[i].f0 + d[i].f1 > base.length
    · rw [if_pos c]
      exact Ev.posf c (Ev.now _)
    · rw [if_neg c]
      refine Ev.negf c (Ev.posf p1 (Ev.posf (by omega) (Ev.posf (by omega) (Ev.posf (by simp; omega) (Ev.somef (Ev.posf (by simp; omega) ?_))))))
      rw [List.append_assoc]
      exact ih
theorem deltaB_len {d : List Dl} (h : deltaB d = true) : d.length ≤ 10 ∧ ∀ x ∈ d, pieceB x = true := by
  simp only [deltaB, Bool.and_eq_true, decide_eq_true_eq, List.all_eq_true] at h
  exact h
theorem implDeltaDo_ev (base : Tx) (d : List Dl) (hb : Sm base) (hd : SmD d) : Ev (fun k => impl_DeltaDo.f k base d) (doB base d) := by
  unfold impl_DeltaDo.f
  have bad : ∀ q : Bool, q = true → Ev (fun k => impl_DeltaDo.j0 k base d q) (([] : Tx), false) := fun q hq => by
    subst hq
    refine Ev.step' ?_
    simp only [impl_DeltaDo.j0]
    exact Ev.posf trivial (Ev.now _)
  refine Ev.bind (implText_ev base hb) (Ev.ite (fun c => Ev.bind (implOk_ev d hd) ?_) (fun c => EvT (bad _ rfl) (by rw [doB, if_neg (fun h => c h.1)])))
  cases hk : deltaB d with
  | false => exact EvT (bad _ rfl) (by rw [doB, if_neg (fun h => by rw [hk] at h; cases h.2)])
  | true =>
    refine Ev.step' ?_
    simp only [impl_DeltaDo.j0]
    obtain ⟨h1, h2⟩ := deltaB_len hk
    refine Ev.negf (by simp) (EvT (implDo_ev c d h2 (by omega) _ 0 [] (by omega) rfl (by simp) (by simp)) ?_)
    rw [doB, if_pos ⟨c, hk⟩, List.drop_zero]
/-- A text's delta is ok, and not long. -/
theorem dOf_ok {a b : Tx} (ha : textB a = true) (hb : textB b = true) : deltaB (dOf a b) = true := by
  obtain ⟨h1, h2⟩ := dOf_right a b
  have hla := textB_len ha
  have hlb := textB_len hb
  have hlen := ap_len h2
  rw [h1] at hlen
  simp only [deltaB, Bool.and_eq_true, decide_eq_true_eq, List.all_eq_true]
  refine ⟨by omega, fun x hx => ?_⟩
  have hx2 : ∀ s ∈ x.f2, lineB s = true := fun s hs => by
    have : s ∈ b := by rw [← h1]; exact mem_ap hx hs
    simp only [textB, Bool.and_eq_true, List.all_eq_true] at hb
    exact hb.2 s this
  have hx3 : x.f2.length ≤ b.length := by
    have : (seg a x).length ≤ (ap a (dOf a b)).length := by
      obtain ⟨p, q, e⟩ := List.append_of_mem hx
      rw [e]
      simp [ap]
      omega
    rw [h1] at this
    have := (piece_len (h2 x hx)).2.1
    omega
  rcases h2 x hx with ⟨g1, g2, g3, g4⟩ | ⟨g1, g2, g3⟩
  · simp [pieceB, pB, g4]
    exact ⟨⟨⟨g1, g2⟩, by omega⟩, by omega⟩
  · have : textB x.f2 = true := by
      simp only [textB, Bool.and_eq_true, decide_eq_true_eq, List.all_eq_true]
      exact ⟨by omega, hx2⟩
    simp [pieceB, pB, g1, g2, this]
    omega
end Go.Proofs.Ytfnhjaiioojbkaa.Q
end
section
namespace Go.Proofs.Ytfnhjaiioojbkaa.Q
open Go.RowKit Go.Proofs.YtfnhjaiioojbkaaW.PrintWords
set_option linter.unusedVariables false
set_option linter.unusedSimpArgs false
theorem bytes_of {l : List Int} (h : ∀ x ∈ l, (Lit.int .u8 x).wf = true) : ∀ x ∈ l, 0 ≤ x ∧ x ≤ 255 := fun x hx => by
  have := h x hx
  simp [Lit.wf, IntKind.bits, IntKind.signed, IntKind.min, IntKind.max] at this
  omega
theorem Sm_of {l : List ByteArray} (h : l.length ≤ 100) (hz : Sz l) : Sm l := ⟨by omega, fun s hs => by have := hz s hs; omega⟩
end Go.Proofs.Ytfnhjaiioojbkaa.Q
end
section
namespace Go.Proofs.Ytfnhjaiioojbkaa.Q
open Go.RowKit Go.Proofs.YtfnhjaiioojbkaaW.PrintWords
set_option linter.unusedVariables false
set_option linter.unusedSimpArgs false
abbrev Pk := S53
def sz (d : List Dl) : Nat := d.length + (d.map (fun x => x.f2.length)).sum
def txAt (l : List Tx) (j : Nat) : Tx := l.getD j []
def pkAt (P : List Pk) (j : Nat) : Pk := P.getD j z53
def dpAt (D : List Int) (j : Nat) : Int := D.getD j 0
/-- The best base among the first texts. -/
def bst (l : List Tx) (D : List Int) (t : Tx) : Nat → Int × List Dl
  | 0 => (-1, dOf [] t)
  | j + 1 => if dpAt D j < 3 ∧ sz (dOf (txAt l j) t) < sz (bst l D t j).2 then ((j : Int), dOf (txAt l j) t) else bst l D t j
def dep (D : List Int) (b : Int) : Int := if 0 ≤ b then dpAt D b.toNat + 1 else 1
def pkn (l : List Tx) (q : List Pk × List Int) (b : Int × List Dl) : List Pk × List Int := (q.1 ++ [⟨b.1, b.2⟩], q.2 ++ [dep q.2 b.1])
def pk (l : List Tx) : Nat → List Pk × List Int
  | 0 => ([], [])
  | n + 1 => pkn l (pk l n) (bst l (pk l n).2 (txAt l n) n)
theorem rd_tx (l : List Tx) (j : Nat) : rd_L2 l (j : Int) = txAt l j := by simp [rd_L2, txAt]
theorem rd_pk (P : List Pk) (j : Nat) : rd_T53 P (j : Int) = pkAt P j := by simp [rd_T53, pkAt]
theorem rd_dp (D : List Int) (j : Nat) : rd D (j : Int) = dpAt D j := by show D.getD (j : Int).toNat 0 = _; simp [dpAt]
theorem dpAt_old {D : List Int} {j : Nat} (x : Int) (h : j < D.length) : dpAt (D ++ [x]) j = dpAt D j := by
  simp [dpAt, List.getD_eq_getElem?_getD, List.getElem?_append, h]
theorem dpAt_new (D : List Int) (x : Int) : dpAt (D ++ [x]) D.length = x := by
  simp [dpAt, List.getD_eq_getElem?_getD, List.getElem?_append]
theorem pkAt_old {P : List Pk} {j : Nat} (x : Pk) (h : j < P.length) : pkAt (P ++ [x]) j = pkAt P j := by
  simp [pkAt, List.getD_eq_getElem?_getD, List.getElem?_append, h]
theorem pkAt_new (P : List Pk) (x : Pk) : pkAt (P ++ [x]) P.length = x := by
  simp [pkAt, List.getD_eq_getElem?_getD, List.getElem?_append]
/-- A pack's one, beside the texts. -/
def OkAt (l : List Tx) (D : List Int) (j : Nat) (p : Pk) : Prop :=
  (sz p.f1 ≤ sz (dOf [] (txAt l j)) ∧ 1 ≤ dpAt D j ∧ dpAt D j ≤ 3) ∧
  ((p.f0 = -1 ∧ p.f1 = dOf [] (txAt l j) ∧ dpAt D j = 1) ∨ ∃ b : Nat, b < j ∧ p.f0 = (b : Int) ∧ p.f1 = dOf (txAt l b) (txAt l j) ∧ dpAt D j = dpAt D b + 1)
def Gd (l : List Tx) (P : List Pk) (D : List Int) (n : Nat) : Prop := P.length = n ∧ D.length = n ∧ ∀ j, j < n → OkAt l D j (pkAt P j)
theorem bst_ok (l : List Tx) (D : List Int) (t : Tx) : ∀ m, sz (bst l D t m).2 ≤ sz (dOf [] t) ∧ ((bst l D t m).1 = -1 ∧ (bst l D t m).2 = dOf [] t ∨ ∃ b : Nat, b < m ∧ (bst l D t m).1 = (b : Int) ∧ (bst l D t m).2 = dOf (txAt l b) t ∧ dpAt D b < 3)
  | 0 => ⟨Nat.le_refl _, .inl ⟨rfl, rfl⟩⟩
  | m + 1 => by
    obtain ⟨h1, h2⟩ := bst_ok l D t m
    by_cases c : dpAt D m < 3 ∧ sz (dOf (txAt l m) t) < sz (bst l D t m).2
    · rw [bst, if_pos c]
      exact ⟨by show sz (dOf (txAt l m) t) ≤ _; omega, .inr ⟨m, by omega, rfl, rfl, c.1⟩⟩
    · rw [bst, if_neg c]
      refine ⟨h1, ?_⟩
      rcases h2 with h2 | ⟨b, h3, h4⟩
      · exact .inl h2
      · exact .inr ⟨b, by omega, h4⟩
theorem pk_ok (l : List Tx) : ∀ n, Gd l (pk l n).1 (pk l n).2 n
  | 0 => ⟨rfl, rfl, fun j h => by omega⟩
  | n + 1 => by
    obtain ⟨h1, h2, h3⟩ := pk_ok l n
    obtain ⟨b1, b2⟩ := bst_ok l (pk l n).2 (txAt l n) n
    rw [pk, pkn]
    generalize bst l (pk l n).2 (txAt l n) n = B at b1 b2
    generalize (pk l n).1 = P at h1 h3
    generalize (pk l n).2 = D at h2 h3 b2
    subst h1
    refine ⟨by simp, by simp [h2], fun j hj => ?_⟩
    by_cases hjn : j = P.length
    · subst hjn
      have e : dpAt (D ++ [dep D B.1]) P.length = dep D B.1 := by rw [← h2]; exact dpAt_new _ _
      rw [pkAt_new]
      unfold OkAt
      rw [e]
      rcases b2 with ⟨c1, c2⟩ | ⟨b, c0, c1, c2, c3⟩
      · have ed : dep D B.1 = 1 := by rw [c1]; rfl
        rw [ed]
        exact ⟨⟨b1, by omega, by omega⟩, .inl ⟨c1, c2, rfl⟩⟩
      · have hb := (h3 b c0).1.2
        have ed : dep D B.1 = dpAt D b + 1 := by rw [c1]; simp [dep]
        rw [ed]
        exact ⟨⟨b1, by omega, by omega⟩, .inr ⟨b, c0, c1, c2, by rw [dpAt_old _ (by omega)]⟩⟩
    · have hj' : j < P.length := by omega
      obtain ⟨g1, g2⟩ := h3 j hj'
      rw [pkAt_old _ hj']
      unfold OkAt
      rw [dpAt_old _ (by omega)]
      refine ⟨g1, ?_⟩
      rcases g2 with g2 | ⟨b, c0, c1, c2, c3⟩
      · exact .inl g2
      · exact .inr ⟨b, c0, c1, c2, by rw [dpAt_old _ (by omega)]; exact c3⟩
theorem sum_le {d : List Dl} (h : ∀ x ∈ d, x.f2.length ≤ 10) : (d.map (fun x => x.f2.length)).sum ≤ 10 * d.length := by
  induction d with
  | nil => simp
  | cons a d ih =>
    have h1 := h a (by simp)
    have h2 := ih (fun x hx => h x (by simp [hx]))
    simp only [List.map_cons, List.sum_cons, List.length_cons]
    omega
theorem sz_le {d : List Dl} (h : deltaB d = true) : sz d ≤ 110 := by
  obtain ⟨h1, h2⟩ := deltaB_len h
  have := sum_le (fun x hx => (piece_ok (h2 x hx)).2.2.2.1)
  unfold sz; omega
theorem implSize0_ev (d : List Dl) (hd : ∀ x ∈ d, x.f2.length ≤ 10) (hl : d.length ≤ 1000) : ∀ (n i : Nat) (acc : Nat), i ≤ d.length → d.length - i = n → acc ≤ 1000 + 10 * i →
    Ev (fun k => impl_deltaSize.l0 k (acc : Int) d d.length i) ((acc + ((d.drop i).map (fun x => x.f2.length)).sum : Nat) : Int)
  | 0, i, acc, hi, hn, ha => by
    rw [List.drop_eq_nil_of_le (by omega)]
    refine Ev.step' ?_
    simp only [impl_deltaSize.l0]
    exact Ev.negf (by omega) (EvT (Ev.now _) (by simp))
  | n + 1, i, acc, hi, hn, ha => by
    have h : i < d.length := by omega
    have hh := hd _ (List.getElem_mem h)
    rw [List.drop_eq_getElem_cons h]
    have ih := implSize0_ev d hd hl n (i + 1) (acc + d[i].f2.length) (by omega) (by omega) (by omega)
    refine Ev.step' ?_
    simp only [impl_deltaSize.l0, rdD h, w64_add acc _ (show acc + d[i].f2.length ≤ 1000000000000 by omega), w64_succ i (by omega)]
    refine Ev.posf (by omega) (Ev.posf (by omega) (Ev.posf (by omega) (EvT ih ?_)))
    simp only [List.map_cons, List.sum_cons]
    omega
theorem implSize_ev {d : List Dl} (h : deltaB d = true) : Ev (fun k => impl_deltaSize.f k d) (sz d : Int) := by
  obtain ⟨h1, h2⟩ := deltaB_len h
  unfold impl_deltaSize.f
  exact implSize0_ev d (fun x hx => (piece_ok (h2 x hx)).2.2.2.1) (by omega) _ 0 d.length (by omega) rfl (by omega)
theorem specSize0_ev (d : List Dl) (hd : ∀ x ∈ d, x.f2.length ≤ 10) (hl : d.length ≤ 1000) : ∀ (n i : Nat) (acc : Nat), i ≤ d.length → d.length - i = n → acc ≤ 1000 + 10 * i →
    Ev (fun k => spec_l13Size.l0 k d (acc : Int) i) ((acc + ((d.drop i).map (fun x => x.f2.length)).sum : Nat) : Int)
  | 0, i, acc, hi, hn, ha => by
    rw [List.drop_eq_nil_of_le (by omega)]
    refine Ev.step' ?_
    simp only [spec_l13Size.l0]
    exact Ev.negf (by omega) (EvT (Ev.now _) (by simp))
  | n + 1, i, acc, hi, hn, ha => by
    have h : i < d.length := by omega
    have hh := hd _ (List.getElem_mem h)
    rw [List.drop_eq_getElem_cons h]
    have ih := specSize0_ev d hd hl n (i + 1) (acc + d[i].f2.length) (by omega) (by omega) (by omega)
    refine Ev.step' ?_
    simp only [spec_l13Size.l0, rdD h, w64_add acc _ (show acc + d[i].f2.length ≤ 1000000000000 by omega), w64_succ i (by omega)]
    refine Ev.posf (by omega) (Ev.posf (by omega) (EvT ih ?_))
    simp only [List.map_cons, List.sum_cons]
    omega
theorem specSize_ev {d : List Dl} (h : deltaB d = true) : Ev (fun k => spec_l13Size.f k d) (sz d : Int) := by
  obtain ⟨h1, h2⟩ := deltaB_len h
  unfold spec_l13Size.f
  exact specSize0_ev d (fun x hx => (piece_ok (h2 x hx)).2.2.2.1) (by omega) _ 0 d.length (by omega) rfl (by omega)
theorem deep_ev {l : List Tx} {P : List Pk} {D : List Int} {n : Nat} (g : Gd l P D n) : ∀ (N j : Nat) (c : Int), j ≤ N → j < n → 1 ≤ c → c ≤ 1000 - dpAt D j →
    Ev (fun k => spec_l13Deep.l0 k P (j : Int) c) (c + dpAt D j - 1)
  | N, j, c, hN, hj, h1, h2 => by
    obtain ⟨⟨_, d1, d2⟩, g2⟩ := g.2.2 j hj
    refine Ev.step' ?_
    simp only [spec_l13Deep.l0, rd_pk]
    refine Ev.posf (by omega) (Ev.posf (by have := g.1; omega) ?_)
    rcases g2 with ⟨e0, e1, e2⟩ | ⟨b, c0, c1, c2, c3⟩
    · exact Ev.negf (by omega) (EvT (Ev.now _) (by omega))
    · rw [c1, w64 (by omega) (by omega)]
      refine Ev.posf (by omega) ?_
      match N, hN with
      | 0, hN => omega
      | N + 1, hN => exact EvT (deep_ev g N b (c + 1) (by omega) (by omega) (by omega) (by omega)) (by omega)
theorem specDeep_ev {l : List Tx} {P : List Pk} {D : List Int} {n : Nat} (g : Gd l P D n) {j : Nat} (hj : j < n) : Ev (fun k => spec_l13Deep.f k P (j : Int)) (dpAt D j) := by
  have hd := (g.2.2 j hj).1.2
  exact EvT (deep_ev g j j 1 (by omega) hj (by omega) (by omega)) (by omega)
theorem bst_delta {l : List Tx} (D : List Int) {t : Tx} (ht : textB t = true) (m : Nat) (hl : ∀ j, j < m → textB (txAt l j) = true) : deltaB (bst l D t m).2 = true := by
  obtain ⟨_, h | ⟨b, h1, h2, h3, h4⟩⟩ := bst_ok l D t m
  · rw [h.2]; exact dOf_ok rfl ht
  · rw [h3]; exact dOf_ok (hl b h1) ht
theorem specBst_ev {l : List Tx} {P : List Pk} {D : List Int} {i : Nat} (g : Gd l P D i) (hi : i < l.length) (hl : l.length ≤ 12) (ok : ∀ j, j ≤ i → textB (txAt l j) = true) (r : List Pk)
    (hr : Ev (fun k => spec_PackOf.l0 k l (pkn l (P, D) (bst l D (txAt l i) i)).1 ((i + 1 : Nat) : Int)) r) :
    ∀ (d j : Nat), i - j = d → j ≤ i → Ev (fun k => spec_PackOf.l1 k l P i j (bst l D (txAt l i) j).1 (bst l D (txAt l i) j).2) r
  | 0, j, hd, hj => by
    obtain rfl : j = i := by omega
    have h1 := g.1
    refine Ev.step' ?_
    simp only [spec_PackOf.l1, w64_succ j (by omega)]
    exact Ev.negf (by omega) (Ev.posf (by omega) hr)
  | d + 1, j, hd, hj => by
    have hj' : j < i := by omega
    have h1 := g.1
    have ih := specBst_ev g hi hl ok r hr d (j + 1) (by omega) (by omega)
    have t1 := textB_len (ok j (by omega))
    have t2 := textB_len (ok i (by omega))
    have s1 := specSize_ev (dOf_ok (ok j (by omega)) (ok i (by omega)))
    have s2 := specSize_ev (bst_delta (l := l) D (ok i (by omega)) j (fun j hj => ok j (by omega)))
    refine Ev.step' ?_
    simp only [spec_PackOf.l1, rd_tx, w64_succ j (by omega)]
    refine Ev.posf (by omega) (Ev.posf (by omega) (Ev.posf (by omega) (Ev.posf (by omega) (Ev.posf (by omega) (Ev.bind (specOf_ev (by omega) (by omega)) (Ev.bind (specDeep_ev g hj') (Ev.ite (fun c => Ev.bind s1 (Ev.bind s2 (Ev.ite (fun c2 => ?_) (fun c2 => ?_)))) (fun c => ?_))))))))
    · rw [bst, if_pos (by omega)] at ih
      exact ih
    · rw [bst, if_neg (by omega)] at ih
      exact ih
    · rw [bst, if_neg (by omega)] at ih
      exact ih
/-- What both makers answer. -/
def packB (l : List Tx) : List Pk := if l.length ≤ 12 ∧ l.all textB = true then (pk l l.length).1 else []
theorem all_at {l : List Tx} (h : l.all textB = true) : ∀ j, j < l.length → textB (txAt l j) = true := fun j hj => by
  rw [List.all_eq_true] at h
  have := h _ (List.getElem_mem hj)
  simpa [txAt, List.getD_eq_getElem?_getD, hj] using this
theorem specPack0_ev {l : List Tx} (hl : l.length ≤ 12) (hs : ∀ x ∈ l, Sm x) : ∀ (d i : Nat), l.length - i = d → i ≤ l.length → (∀ j, j < i → textB (txAt l j) = true) →
    Ev (fun k => spec_PackOf.l0 k l (pk l i).1 i) (if (l.drop i).all textB = true then (pk l l.length).1 else [])
  | 0, i, hd, hi, ok => by
    obtain rfl : i = l.length := by omega
    refine Ev.step' ?_
    simp only [spec_PackOf.l0]
    exact Ev.negf (by omega) (EvT (Ev.now _) (by simp))
  | d + 1, i, hd, hi, ok => by
    have hi' : i < l.length := by omega
    have e : txAt l i = l[i] := by simp [txAt, List.getD_eq_getElem?_getD, hi']
    have hT := specText_ev (txAt l i) (by rw [e]; exact hs _ (List.getElem_mem hi'))
    rw [List.drop_eq_getElem_cons hi', List.all_cons, ← e]
    refine Ev.step' ?_
    simp only [spec_PackOf.l0, rd_tx]
    refine Ev.posf (by omega) (Ev.posf (by omega) (Ev.bind hT (Ev.ite (fun c => ?_) (fun c => EvT (Ev.now _) ?_))))
    · have ok' : ∀ j, j ≤ i → textB (txAt l j) = true := fun j hj => by
        by_cases hji : j = i
        · rw [hji]; exact c
        · exact ok j (by omega)
      have ih := specPack0_ev hl hs d (i + 1) (by omega) (by omega) (fun j hj => ok' j (by omega))
      have t2 := textB_len c
      rw [c, Bool.true_and]
      exact Ev.bind (specOf_ev (by simp) (by omega)) (specBst_ev (pk_ok l i) hi' hl ok' _ ih i 0 (by omega) (by omega))
    · rw [if_neg (by simp [c])]
theorem specPack_ev (l : List Tx) (hs : ∀ x ∈ l, Sm x) : Ev (fun k => spec_PackOf.f k l) (packB l) := by
  unfold spec_PackOf.f packB
  refine Ev.ite (fun c => EvT (Ev.now _) (by rw [if_neg (by omega)])) (fun c => ?_)
  have h := specPack0_ev (l := l) (by omega) hs _ 0 rfl (by omega) (fun j hj => by omega)
  rw [List.drop_zero] at h
  refine EvT h ?_
  by_cases c2 : l.all textB = true
  · rw [if_pos c2, if_pos ⟨by omega, c2⟩]
  · rw [if_neg c2, if_neg (fun h => c2 h.2)]
end Go.Proofs.Ytfnhjaiioojbkaa.Q
end
section
namespace Go.Proofs.Ytfnhjaiioojbkaa.Q
open Go.RowKit Go.Proofs.YtfnhjaiioojbkaaW.PrintWords
set_option linter.unusedVariables false
set_option linter.unusedSimpArgs false
/-- A text that was made is ok, out of an ok base and ok pieces. -/
theorem doB_true {t : Tx} {d : List Dl} (h : (doB t d).2 = true) : textB t = true ∧ deltaB d = true ∧ doGo t d [] = some (doB t d).1 ∧ textB (doB t d).1 = true := by
  unfold doB at h ⊢
  by_cases c : textB t = true ∧ deltaB d = true
  · rw [if_pos c] at h ⊢
    cases e : doGo t d [] with
    | none => rw [e] at h; cases h
    | some x =>
      rw [e] at h
      simp only [fin] at h ⊢
      by_cases hx : textB x = true
      · rw [if_pos hx]; exact ⟨c.1, c.2, rfl, hx⟩
      · rw [if_neg hx] at h; cases h
  · rw [if_neg c] at h; cases h
end Go.Proofs.Ytfnhjaiioojbkaa.Q
end
