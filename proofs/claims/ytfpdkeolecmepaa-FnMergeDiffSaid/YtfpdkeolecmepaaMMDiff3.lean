/- A part of the proof of FnMDiff: functions of the program, the reference and the law, each with what its call comes to. Conditions: those that each theorem names. -/
import Derived.Test.YtfpdkeolecmepaaMMDiff0
import Derived.Test.YtfpdkeolecmepaaMMDiff1
import Derived.Test.YtfpdkeolecmepaaMMDiff2
set_option linter.unusedVariables false
set_option linter.unusedSimpArgs false
section
namespace Go.Proofs.Ytfpdkeolecmepaa.Q
open Go.RowKit Go.Proofs.YtfpdkeolecmepaaW.PrintWords Go.Proofs.YtfpdkeolecmepaaW.PrintLast Go.Proofs.YtfpdkeolecmepaaW.PrintMore
attribute [local go_sem] max2_int min2_int max_two min_two max_three min_three max_four min_four   -- for this text's walks alone
set_option linter.unusedVariables false
set_option linter.unusedSimpArgs false
mutual
def impl_match.l0 : Nat → List ByteArray → List ByteArray → List Int → Int → Int → Option (List Int)
 | 0, _, _, _, _, _ => none
 | k + 1, x0, x1, x5, x6, x7 => if x7 < (x0.length : Int) then (if x6 < (x1.length : Int) then (if 0 ≤ x7 then (if 0 ≤ x6 then (impl_match.j1 k x0 x1 x5 x6 x7 ((rdOf ByteArray.empty x0 x7).toList == (rdOf ByteArray.empty x1 x6).toList)) else (none)) else (none)) else (impl_match.j1 k x0 x1 x5 x6 x7 false)) else (some x5)
def impl_match.j1 : Nat → List ByteArray → List ByteArray → List Int → Int → Int → Bool → Option (List Int)
 | 0, _, _, _, _, _, _ => none
 | k + 1, x0, x1, x5, x6, x7, x15 => if x15 = true then (if x5.length < 17592186044416 then (impl_match.l0 k x0 x1 (x5 ++ [x6]) (wrap64 (x6 + 1)) (wrap64 (x7 + 1))) else (none)) else (if x6 = (x1.length : Int) then (if x5.length < 17592186044416 then (impl_match.l0 k x0 x1 (x5 ++ [(-1)]) x6 (wrap64 (x7 + 1))) else (none)) else (if 0 ≤ (wrap64 (x7 + 1)) then (if (wrap64 (x7 + 1)) ≤ (x0.length : Int) then (if 0 ≤ x6 then (if x6 ≤ (x1.length : Int) then ((impl_lcs.f k (x0.drop ((wrap64 (x7 + 1)) : Int).toNat) (x1.drop (x6 : Int).toNat)).bind fun t259 => (if 0 ≤ x7 then (if x7 ≤ (x0.length : Int) then (if 0 ≤ (wrap64 (x6 + 1)) then (if (wrap64 (x6 + 1)) ≤ (x1.length : Int) then ((impl_lcs.f k (x0.drop (x7 : Int).toNat) (x1.drop ((wrap64 (x6 + 1)) : Int).toNat)).bind fun t262 => (if t259 ≥ t262 then (if x5.length < 17592186044416 then (impl_match.l0 k x0 x1 (x5 ++ [(-1)]) x6 (wrap64 (x7 + 1))) else (none)) else (impl_match.l0 k x0 x1 x5 (wrap64 (x6 + 1)) x7))) else (none)) else (none)) else (none)) else (none))) else (none)) else (none)) else (none)) else (none)))
end
def impl_match.f (k : Nat) (l0 : List ByteArray) (l1 : List ByteArray) : Option (List Int) := impl_match.l0 k l0 l1 (([] : List Int)) 0 0
def impl_match.T5 : Bool × List (List Nat × List Nat) := (true, [([], []), ([], []), ([1], [1]), ([0, 2], [0, 2]), ([3], [3]), ([4], [4]), ([4], [4]), ([5, 6, 4], [4, 5, 6]), ([7, 4], [4, 7]), ([4], [4]), ([4], [4]), ([9, 10, 4], [4, 9, 10]), ([11, 4], [4, 11]), ([8, 12, 4], [4, 8, 12]), ([4, 13], [4, 13]), ([14, 4], [14])])
def impl_match.B5 : List Nat := [0, 0, 2, 7, 15, 31, 31, 127, 255, 31, 31, 1567, 3615, 8191, 16383, 32767]
theorem impl_match.tab5 : rtab .any (opsOf Try.f79 5) = impl_match.T5 := by kernel_rfl
theorem impl_match.bits5 : waitsOk impl_match.T5.2 impl_match.B5 = true := by kernel_rfl
def impl_match.T8 : Bool × List (List Nat × List Nat) := (true, [([], []), ([], []), ([1], [1]), ([0, 2], [0, 2]), ([3], [3]), ([4], [4]), ([4], [4]), ([6, 4], [4, 6]), ([5, 7, 4], [4, 5, 7]), ([4], [4]), ([4], [4]), ([9, 10, 4], [4, 9, 10]), ([8, 11, 4, 4], [4, 8, 11]), ([4], [4]), ([4], [4]), ([13, 14, 4], [4, 13, 14]), ([4], [4]), ([4], [4]), ([17, 4], [4, 17]), ([16, 18, 4], [4, 16, 18]), ([15, 19, 12, 4], [4, 15, 19]), ([12, 20, 4], [4, 12, 20]), ([4, 21], [4, 21]), ([22, 20], [22])])
def impl_match.B8 : List Nat := [0, 0, 2, 7, 15, 31, 31, 95, 255, 31, 31, 1567, 4095, 31, 31, 24607, 31, 31, 131103, 458783, 1048575, 2097151, 4194303, 8388607]
theorem impl_match.tab8 : rtab .any (opsOf Try.f79 8) = impl_match.T8 := by kernel_rfl
theorem impl_match.bits8 : waitsOk impl_match.T8.2 impl_match.B8 = true := by kernel_rfl
set_option maxHeartbeats 8000000 in
set_option maxRecDepth 100000 in
theorem impl_match.calls (k : Nat) (A0 : Option Addr) (c0 : Nat) (l0 : List ByteArray) (A1 : Option Addr) (c1 : Nat) (l1 : List ByteArray) (r : List Int) (w : World) (hr0 : Kd.C Kd.string w A0 l0.length l0) (hc0 : l0.length ≤ c0) (hr1 : Kd.C Kd.string w A1 l1.length l1) (hc1 : l1.length ≤ c1) (h : impl_match.f k l0 l1 = some r) :
 Calls Try.prog 79 #[.slice A0 l0.length c0, .slice A1 l1.length c1] w fun e w' => ∃ v0_ : Value, e = .returned (v0_) ∧ Kd.R (Kd.int .i64) 3 w' w.heap.size (fun _ => True) v0_ r ∧ Below w.heap.size w w' := by
 have HR0 := Aside0.mk hr0; have HC0 := Aside0.mk hc0; clear hr0 hc0; have HR1 := Aside0.mk hr1; have HC1 := Aside0.mk hc1; clear hr1 hc1; have HB := Aside0.mk (Below.refl w.heap.size w); have H : (impl_match.l0 k l0 l1 (([] : List Int)) 0 0) = some r := h; clear h; obtain ⟨y246, hy246⟩ : ∃ y_ : List Int, y_ = (([] : List Int)) := ⟨_, rfl⟩; (replace H : (impl_match.l0 k l0 l1 y246 0 0) = some r := by first | (rw [hy246]; with_reducible exact H) | (have H2_ := (Option.bind_some _ _).symm.trans H; rw [hy246]; with_reducible exact H2_) | (have H2_ := (Option.bind_some _ _).symm.trans H; with_reducible exact H2_) | with_reducible exact H | (rw [hy246]; exact H) | exact H); have Ny246 := Aside0.mk hy246; clear hy246; have H' := Aside0.mk H; clear H; go_enter Try.func79, Try.ntmps79; go_wp2_with (first | ((with_reducible refine gate_dst (N := 8) rfl ?_); refine Kd.R_lit (Kd.int .i64) _ 3 ?hg (N := 8) ?hd (xs := ([] : List Int)) (inner := []) (ok := fun _ => True) (okp := fun _ => True) ?hr ?hp (fun _ hk => hk) trivial (Below.refl _ _) (Nat.le_refl _) (by simp) ?_; (case hd => rfl); (case hg => rfl); (case hr => first | (go_simp; done) | (go_simp; rfl)); (case hp => exact (Reps.none _ _)); intro v247 w3 ho4 hb hg_ hnew_; clear hg_ hnew_; (first | rw [← Ny246.out] at ho4 | (simp only [Int.reduceToNat] at ho4; rw [← Ny246.out] at ho4)); have n0_ := Aside0.mk (Kd.R_lower ho4 (below_size (by repeat (first | (with_reducible first | exact HB.out | apply below_alloc | apply pw_below_drewN | apply below_drew1) | exact HB.out)))); have n1_ := Aside0.mk (below_step (by repeat (first | (with_reducible first | exact HB.out | apply below_alloc | apply pw_below_drewN | apply below_drew1) | exact HB.out)) hb); clear HB; have HO248 := n0_; have HB := n1_; clear n0_ n1_; clear hb ho4)); go_loopg [5, 6, 7] k (fun kq v5 v6 v7 w' => ∃ (x5_1 : List Int) (x6_1 : Int) (x7_1 : Int), v6 = .int .i64 x6_1 ∧ v7 = .int .i64 x7_1 ∧ Aside0 (impl_match.l0 kq l0 l1 x5_1 x6_1 x7_1 = some r) ∧ Aside0 (kq ≤ k) ∧ Aside0 (Kd.R (Kd.int .i64) 3 w' w.heap.size (fun _ => True) v5 x5_1) ∧ Aside0 (Below w.heap.size w w'))
 case atStart => exact ⟨(y246), (0), (0), (by first | rfl | (simp; done) | (simp [*]; done)), (by first | rfl | (simp; done) | (simp [*]; done)), H', ⟨Nat.le_refl _⟩, ⟨by (with_reducible repeat (first | apply Kd.R_alloc | apply Kd.R_drewN | apply Kd.R_drew)); exact HO248.out⟩, ⟨by repeat (first | (with_reducible first | exact HB.out | apply below_alloc | apply pw_below_drewN | apply below_drew1) | exact HB.out)⟩⟩
 case round =>
  clear H'; (try clear c1); (try clear p2); obtain ⟨x5_1, x6_1, x7_1, rfl, rfl, HA, HK1, HO_5, HB⟩ := hrel
  cases gk with
  | zero => exact absurd HA.out (by simp [impl_match.l0])
  | succ k1 =>
   have H := HA.out; clear HA; simp only [impl_match.l0] at H; by_cases c5 : x7_1 < (l0.length : Int)
   ·rw [if_pos c5] at H; have c5b0 : decide (x7_1 < (l0.length : Int)) = true := decide_eq_true c5; clear c5; have HC6 := Aside0.mk H; clear H; (go_upto_region 5 with (fail)); go_cut [15] (fun v15 wc => ∃ (kq : Nat) (x15_5 : Bool), v15 = .bool x15_5 ∧ Aside0 (impl_match.j1 kq l0 l1 x5_1 x6_1 x7_1 x15_5 = some r) ∧ Aside0 (kq ≤ k1) ∧ Aside0 (Kd.R (Kd.int .i64) 3 wc w.heap.size (fun _ => True) u5 x5_1) ∧ Aside0 (Below w.heap.size w wc))
    case first =>
     have H := HC6.out; clear HC6; by_cases c7 : x6_1 < (l1.length : Int)
     ·rw [if_pos c7] at H; have c7b0 : decide (x6_1 < (l1.length : Int)) = true := decide_eq_true c7; clear c7
      (first | rw [c7b0] | (simp only [i64_w, i32_w]; rw [c7b0]) | skip)
      by_cases c8 : 0 ≤ x7_1
      ·rw [if_pos c8] at H; have c8b0 : decide (0 ≤ x7_1) = true := decide_eq_true c8; clear c8; by_cases c9 : 0 ≤ x6_1
       ·rw [if_pos c9] at H; have c9b0 : decide (0 ≤ x6_1) = true := decide_eq_true c9; clear c9; have H' := Aside0.mk H; clear H; (try go_wp2); have n0_ := Aside0.mk (Kd.R_drew HO_5.out); have n1_ := Aside0.mk (below_drew1 HB.out); clear HO_5; clear HB; have HO_5 := n0_; have HB := n1_; clear n0_ n1_; have p249 : 0 ≤ (x7_1 : Int) := of_decide_eq_true (by assumption); have q249 : x7_1 < (l0.length : Int) := of_decide_eq_true (by assumption); obtain ⟨ad249, e249, hx249_0⟩ := Kd.at_string HR0.out x7_1 p249 q249; have hw249_0 := hx249_0; cases e249; replace hx249_0 := (HB.out.cell (World.block_lt_of_cell? w _ hx249_0)).trans hx249_0; replace p249 := eq_true p249; replace q249 := eq_true q249; have p250 : 0 ≤ (x6_1 : Int) := of_decide_eq_true (by assumption); have q250 : x6_1 < (l1.length : Int) := of_decide_eq_true (by assumption); obtain ⟨ad250, e250, hx250_0⟩ := Kd.at_string HR1.out x6_1 p250 q250; have hw250_0 := hx250_0; cases e250; replace hx250_0 := (HB.out.cell (World.block_lt_of_cell? w _ hx250_0)).trans hx250_0; replace p250 := eq_true p250; replace q250 := eq_true q250; refine start_ (n := 16) (S := fun w' => w'.cell? (ad249.add (x7_1).toNat) = some (.string (rdOf ByteArray.empty l0 x7_1)) ∧ w'.cell? (ad250.add (x6_1).toNat) = some (.string (rdOf ByteArray.empty l1 x6_1))) (ds := []) #[f_, f_, f_, f_, f_, f_, f_, f_, f_, f_, f_, f_, f_, f_, f_, f_] (by kernel_rfl) rfl rfl ⟨((HB.out.cell (World.block_lt_of_cell? w _ hw249_0)).trans hw249_0), ((HB.out.cell (World.block_lt_of_cell? w _ hw250_0)).trans hw250_0)⟩ (fun hHeld => ?_); refine with_tabW impl_match.tab5 impl_match.bits5 (fun HT_ HW_ => ?_); generalize wr.drew = w10 at HO_5 HB hx249_0 hx250_0 hHeld ⊢; refine pure_ (i := 0) (N := some 16) (v := ?_) (a' := ?_) #[t_, f_, f_, f_, f_, f_, f_, f_, f_, f_, f_, f_, f_, f_, f_, f_] rfl rfl (any_of HT_.out (by kernel_rfl)) (fun _ _ _ h => h) (Or.inl ⟨by rfl, ?_⟩) ?_ ?_
        rotate_left
        ·intro w'; go_simp
         with_reducible rfl
        rotate_left
        ·simp only [Act.put, List.setIfInBounds_toArray, List.set_cons_zero, List.set_cons_succ, i64_w, i32_w]
         rfl
        refine pure_ (i := 1) (N := some 17) (v := ?_) (a' := ?_) #[t_, t_, f_, f_, f_, f_, f_, f_, f_, f_, f_, f_, f_, f_, f_, f_] rfl rfl (any_of HT_.out (by kernel_rfl)) (fun _ _ _ h => h) (Or.inl ⟨by rfl, ?_⟩) ?_ ?_
        rotate_left
        ·intro w'; go_simp
         with_reducible rfl
        rotate_left
        ·simp only [Act.put, List.setIfInBounds_toArray, List.set_cons_zero, List.set_cons_succ, i64_w, i32_w]
         rfl
        refine pure_ (i := 2) (N := some 18) (v := ?_) (a' := ?_) #[t_, t_, t_, f_, f_, f_, f_, f_, f_, f_, f_, f_, f_, f_, f_, f_] rfl rfl (any_of HT_.out (by kernel_rfl)) (fun _ _ _ h => h) (Or.inl ⟨by rfl, ?_⟩) ?_ ?_
        rotate_left
        ·intro w'; go_simp
         with_reducible rfl
        rotate_left
        ·simp only [Act.put, List.setIfInBounds_toArray, List.set_cons_zero, List.set_cons_succ, i64_w, i32_w]
         rfl
        refine pure_ (i := 3) (N := some 19) (v := ?_) (a' := ?_) #[t_, t_, t_, t_, f_, f_, f_, f_, f_, f_, f_, f_, f_, f_, f_, f_] rfl rfl (any_of HT_.out (by kernel_rfl)) (fun _ _ _ h => h) (Or.inl ⟨by rfl, ?_⟩) ?_ ?_
        rotate_left
        ·intro w'; go_simp
         with_reducible rfl
        rotate_left
        ·simp only [Act.put, List.setIfInBounds_toArray, List.set_cons_zero, List.set_cons_succ, i64_w, i32_w]
         rfl
        refine pure_ (i := 4) (N := some 20) (v := ?_) (a' := ?_) #[t_, t_, t_, t_, t_, f_, f_, f_, f_, f_, f_, f_, f_, f_, f_, f_] rfl rfl (any_of HT_.out (by kernel_rfl)) (fun _ _ _ h => h) (Or.inl ⟨by rfl, ?_⟩) ?_ ?_
        rotate_left
        ·intro w'; go_simp
         with_reducible rfl
        rotate_left
        ·simp only [Act.put, List.setIfInBounds_toArray, List.set_cons_zero, List.set_cons_succ, i64_w, i32_w]
         rfl
        refine pure_ (i := 5) (N := some 21) (v := ?_) (a' := ?_) #[t_, t_, t_, t_, t_, t_, f_, f_, f_, f_, f_, f_, f_, f_, f_, f_] rfl rfl (any_of HT_.out (by kernel_rfl)) (fun _ _ _ h => h) (Or.inl ⟨by rfl, ?_⟩) ?_ ?_
        rotate_left
        ·intro w'; go_simp
         with_reducible rfl
        rotate_left
        ·simp only [Act.put, List.setIfInBounds_toArray, List.set_cons_zero, List.set_cons_succ, i64_w, i32_w]
         rfl
        refine pure_ (i := 6) (N := some 22) (v := ?_) (a' := ?_) #[t_, t_, t_, t_, t_, t_, t_, f_, f_, f_, f_, f_, f_, f_, f_, f_] rfl rfl (any_of HT_.out (by kernel_rfl)) (fun _ _ _ h => h) (Or.inl ⟨by rfl, ?_⟩) ?_ ?_
        rotate_left
        ·intro w'; go_simp
         with_reducible rfl
        rotate_left
        ·simp only [Act.put, List.setIfInBounds_toArray, List.set_cons_zero, List.set_cons_succ, i64_w, i32_w]
         rfl
        refine pure_ (i := 7) (N := some 23) (v := ?_) (a' := ?_) #[t_, t_, t_, t_, t_, t_, t_, t_, f_, f_, f_, f_, f_, f_, f_, f_] rfl rfl (any_of HT_.out (by kernel_rfl)) (fun _ _ _ h => h) (Or.inl ⟨by rfl, ?_⟩) ?_ ?_
        rotate_left
        ·intro w'; go_simp
         with_reducible rfl
        rotate_left
        ·simp only [Act.put, List.setIfInBounds_toArray, List.set_cons_zero, List.set_cons_succ, i64_w, i32_w]
         rfl
        refine pure_ (i := 9) (N := some 25) (v := ?_) (a' := ?_) #[t_, t_, t_, t_, t_, t_, t_, t_, f_, t_, f_, f_, f_, f_, f_, f_] rfl rfl (any_of HT_.out (by kernel_rfl)) (fun _ _ _ h => h) (Or.inl ⟨by rfl, ?_⟩) ?_ ?_
        rotate_left
        ·intro w'; go_simp
         with_reducible rfl
        rotate_left
        ·simp only [Act.put, List.setIfInBounds_toArray, List.set_cons_zero, List.set_cons_succ, i64_w, i32_w]
         rfl
        refine pure_ (i := 10) (N := some 26) (v := ?_) (a' := ?_) #[t_, t_, t_, t_, t_, t_, t_, t_, f_, t_, t_, f_, f_, f_, f_, f_] rfl rfl (any_of HT_.out (by kernel_rfl)) (fun _ _ _ h => h) (Or.inl ⟨by rfl, ?_⟩) ?_ ?_
        rotate_left
        ·intro w'; go_simp
         with_reducible rfl
        rotate_left
        ·simp only [Act.put, List.setIfInBounds_toArray, List.set_cons_zero, List.set_cons_succ, i64_w, i32_w]
         rfl
        refine pure_ (i := 11) (N := some 27) (v := ?_) (a' := ?_) #[t_, t_, t_, t_, t_, t_, t_, t_, f_, t_, t_, t_, f_, f_, f_, f_] rfl rfl (any_of HT_.out (by kernel_rfl)) (fun _ _ _ h => h) (Or.inl ⟨by rfl, ?_⟩) ?_ ?_
        rotate_left
        ·intro w'; go_simp
         with_reducible rfl
        rotate_left
        ·simp only [Act.put, List.setIfInBounds_toArray, List.set_cons_zero, List.set_cons_succ, i64_w, i32_w]
         rfl
        refine take_ (i := 8) (N := some 24) (v := ?_) (a' := ?_) #[t_, t_, t_, t_, t_, t_, t_, t_, t_, t_, t_, t_, f_, f_, f_, f_] rfl rfl (take_ofW HT_.out HW_.out (by kernel_rfl)) (fun _ _ _ h => h) (Or.inl ⟨by rfl, ?_⟩) hHeld ?_ ?_
        rotate_left
        ·rintro w' ⟨s0, s1⟩; go_simp
         with_reducible rfl
        rotate_left
        ·simp only [Act.put, List.setIfInBounds_toArray, List.set_cons_zero, List.set_cons_succ, i64_w, i32_w]
         rfl
        refine take_ (i := 12) (N := some 28) (v := ?_) (a' := ?_) #[t_, t_, t_, t_, t_, t_, t_, t_, t_, t_, t_, t_, t_, f_, f_, f_] rfl rfl (take_ofW HT_.out HW_.out (by kernel_rfl)) (fun _ _ _ h => h) (Or.inl ⟨by rfl, ?_⟩) hHeld ?_ ?_
        rotate_left
        ·rintro w' ⟨s0, s1⟩; go_simp
         with_reducible rfl
        rotate_left
        ·simp only [Act.put, List.setIfInBounds_toArray, List.set_cons_zero, List.set_cons_succ, i64_w, i32_w]
         rfl
        refine pure_ (i := 13) (N := some 29) (v := ?_) (a' := ?_) #[t_, t_, t_, t_, t_, t_, t_, t_, t_, t_, t_, t_, t_, t_, f_, f_] rfl rfl (any_of HT_.out (by kernel_rfl)) (fun _ _ _ h => h) (Or.inl ⟨by rfl, ?_⟩) ?_ ?_
        rotate_left
        ·intro w'; go_simp
         with_reducible rfl
        rotate_left
        ·simp only [Act.put, List.setIfInBounds_toArray, List.set_cons_zero, List.set_cons_succ, i64_w, i32_w]
         rfl
        refine pure_ (i := 14) (N := some 30) (v := ?_) (a' := ?_) #[t_, t_, t_, t_, t_, t_, t_, t_, t_, t_, t_, t_, t_, t_, t_, f_] rfl rfl (any_of HT_.out (by kernel_rfl)) (fun _ _ _ h => h) (Or.inl ⟨by rfl, ?_⟩) ?_ ?_
        rotate_left
        ·intro w'; go_simp
         with_reducible rfl
        rotate_left
        ·simp only [Act.put, List.setIfInBounds_toArray, List.set_cons_zero, List.set_cons_succ, i64_w, i32_w]
         rfl
        refine pure_ (i := 15) (N := some 15) (v := ?_) (a' := ?_) #[t_, t_, t_, t_, t_, t_, t_, t_, t_, t_, t_, t_, t_, t_, t_, t_] rfl rfl (any_of HT_.out (by kernel_rfl)) (fun _ _ _ h => h) (Or.inl ⟨by rfl, ?_⟩) ?_ ?_
        rotate_left
        ·intro w'; go_simp
         with_reducible rfl
        rotate_left
        ·simp only [Act.put, List.setIfInBounds_toArray, List.set_cons_zero, List.set_cons_succ, i64_w, i32_w]
         rfl
        refine done_ (done_of HT_.out (by kernel_rfl)) ?_; (try go_wp2); go_meet
        case rel => exact ⟨_, (((rdOf ByteArray.empty l0 x7_1).toList == (rdOf ByteArray.empty l1 x6_1).toList)), (by first | rfl | (simp; done) | (simp [*]; done)), H', ⟨by have := HK1.out; first | omega | exact Nat.le_refl _⟩, ⟨by (with_reducible repeat (first | apply Kd.R_alloc | apply Kd.R_drewN | apply Kd.R_drew)); exact HO_5.out⟩, ⟨by repeat (first | (with_reducible first | exact HB.out | apply below_alloc | apply pw_below_drewN | apply below_drew1) | exact HB.out)⟩⟩
       ·rw [if_neg c9] at H; exact absurd H (by simp)
      ·rw [if_neg c8] at H; exact absurd H (by simp)
     ·rw [if_neg c7] at H; have c7b0 : decide (x6_1 < (l1.length : Int)) = false := decide_eq_false c7; clear c7
      (first | rw [c7b0] | (simp only [i64_w, i32_w]; rw [c7b0]) | skip)
      have H' := Aside0.mk H; clear H; (try go_wp2); have n0_ := Aside0.mk (Kd.R_drew HO_5.out); have n1_ := Aside0.mk (below_drew1 HB.out); clear HO_5; clear HB; have HO_5 := n0_; have HB := n1_; clear n0_ n1_; refine start_ (n := 16) (S := fun w' => True) (ds := []) #[f_, f_, f_, f_, f_, f_, f_, f_, f_, f_, f_, f_, f_, f_, f_, f_] (by kernel_rfl) rfl rfl trivial (fun hHeld => ?_); refine with_tabW impl_match.tab5 impl_match.bits5 (fun HT_ HW_ => ?_); generalize wr.drew = w11 at HO_5 HB hHeld ⊢; refine pure_ (i := 0) (N := some 16) (v := ?_) (a' := ?_) #[t_, f_, f_, f_, f_, f_, f_, f_, f_, f_, f_, f_, f_, f_, f_, f_] rfl rfl (any_of HT_.out (by kernel_rfl)) (fun _ _ _ h => h) (Or.inl ⟨by rfl, ?_⟩) ?_ ?_
      rotate_left
      ·intro w'; go_simp
       with_reducible rfl
      rotate_left
      ·simp only [Act.put, List.setIfInBounds_toArray, List.set_cons_zero, List.set_cons_succ, i64_w, i32_w]
       rfl
      refine pure_ (i := 1) (N := some 17) (v := ?_) (a' := ?_) #[t_, t_, f_, f_, f_, f_, f_, f_, f_, f_, f_, f_, f_, f_, f_, f_] rfl rfl (any_of HT_.out (by kernel_rfl)) (fun _ _ _ h => h) (Or.inl ⟨by rfl, ?_⟩) ?_ ?_
      rotate_left
      ·intro w'; go_simp
       with_reducible rfl
      rotate_left
      ·simp only [Act.put, List.setIfInBounds_toArray, List.set_cons_zero, List.set_cons_succ, i64_w, i32_w]
       rfl
      refine pure_ (i := 2) (N := some 18) (v := ?_) (a' := ?_) #[t_, t_, t_, f_, f_, f_, f_, f_, f_, f_, f_, f_, f_, f_, f_, f_] rfl rfl (any_of HT_.out (by kernel_rfl)) (fun _ _ _ h => h) (Or.inl ⟨by rfl, ?_⟩) ?_ ?_
      rotate_left
      ·intro w'; go_simp
       with_reducible rfl
      rotate_left
      ·simp only [Act.put, List.setIfInBounds_toArray, List.set_cons_zero, List.set_cons_succ, i64_w, i32_w]
       rfl
      refine pure_ (i := 3) (N := some 19) (v := ?_) (a' := ?_) #[t_, t_, t_, t_, f_, f_, f_, f_, f_, f_, f_, f_, f_, f_, f_, f_] rfl rfl (any_of HT_.out (by kernel_rfl)) (fun _ _ _ h => h) (Or.inl ⟨by rfl, ?_⟩) ?_ ?_
      rotate_left
      ·intro w'; go_simp
       with_reducible rfl
      rotate_left
      ·simp only [Act.put, List.setIfInBounds_toArray, List.set_cons_zero, List.set_cons_succ, i64_w, i32_w]
       rfl
      refine pure_ (i := 4) (N := some 20) (v := ?_) (a' := ?_) #[t_, t_, t_, t_, t_, f_, f_, f_, f_, f_, f_, f_, f_, f_, f_, f_] rfl rfl (any_of HT_.out (by kernel_rfl)) (fun _ _ _ h => h) (Or.inl ⟨by rfl, ?_⟩) ?_ ?_
      rotate_left
      ·intro w'; go_simp
       with_reducible rfl
      rotate_left
      ·simp only [Act.put, List.setIfInBounds_toArray, List.set_cons_zero, List.set_cons_succ, i64_w, i32_w]
       rfl
      refine pure_ (i := 5) (N := some 21) (v := undef) (a' := ?_) #[t_, t_, t_, t_, t_, t_, f_, f_, f_, f_, f_, f_, f_, f_, f_, f_] rfl rfl (any_of HT_.out (by kernel_rfl)) (fun _ _ _ h => h) (Or.inr ⟨by rfl, rfl⟩) ?_ ?_
      rotate_left
      ·simp only [Act.put, List.setIfInBounds_toArray, List.set_cons_zero, List.set_cons_succ, i64_w, i32_w]
       rfl
      refine pure_ (i := 6) (N := some 22) (v := undef) (a' := ?_) #[t_, t_, t_, t_, t_, t_, t_, f_, f_, f_, f_, f_, f_, f_, f_, f_] rfl rfl (any_of HT_.out (by kernel_rfl)) (fun _ _ _ h => h) (Or.inr ⟨by rfl, rfl⟩) ?_ ?_
      rotate_left
      ·simp only [Act.put, List.setIfInBounds_toArray, List.set_cons_zero, List.set_cons_succ, i64_w, i32_w]
       rfl
      refine pure_ (i := 7) (N := some 23) (v := undef) (a' := ?_) #[t_, t_, t_, t_, t_, t_, t_, t_, f_, f_, f_, f_, f_, f_, f_, f_] rfl rfl (any_of HT_.out (by kernel_rfl)) (fun _ _ _ h => h) (Or.inr ⟨by rfl, rfl⟩) ?_ ?_
      rotate_left
      ·simp only [Act.put, List.setIfInBounds_toArray, List.set_cons_zero, List.set_cons_succ, i64_w, i32_w]
       rfl
      refine pure_ (i := 8) (N := some 24) (v := undef) (a' := ?_) #[t_, t_, t_, t_, t_, t_, t_, t_, t_, f_, f_, f_, f_, f_, f_, f_] rfl rfl (any_of HT_.out (by kernel_rfl)) (fun _ _ _ h => h) (Or.inr ⟨by rfl, rfl⟩) ?_ ?_
      rotate_left
      ·simp only [Act.put, List.setIfInBounds_toArray, List.set_cons_zero, List.set_cons_succ, i64_w, i32_w]
       rfl
      refine pure_ (i := 9) (N := some 25) (v := undef) (a' := ?_) #[t_, t_, t_, t_, t_, t_, t_, t_, t_, t_, f_, f_, f_, f_, f_, f_] rfl rfl (any_of HT_.out (by kernel_rfl)) (fun _ _ _ h => h) (Or.inr ⟨by rfl, rfl⟩) ?_ ?_
      rotate_left
      ·simp only [Act.put, List.setIfInBounds_toArray, List.set_cons_zero, List.set_cons_succ, i64_w, i32_w]
       rfl
      refine pure_ (i := 10) (N := some 26) (v := undef) (a' := ?_) #[t_, t_, t_, t_, t_, t_, t_, t_, t_, t_, t_, f_, f_, f_, f_, f_] rfl rfl (any_of HT_.out (by kernel_rfl)) (fun _ _ _ h => h) (Or.inr ⟨by rfl, rfl⟩) ?_ ?_
      rotate_left
      ·simp only [Act.put, List.setIfInBounds_toArray, List.set_cons_zero, List.set_cons_succ, i64_w, i32_w]
       rfl
      refine pure_ (i := 11) (N := some 27) (v := undef) (a' := ?_) #[t_, t_, t_, t_, t_, t_, t_, t_, t_, t_, t_, t_, f_, f_, f_, f_] rfl rfl (any_of HT_.out (by kernel_rfl)) (fun _ _ _ h => h) (Or.inr ⟨by rfl, rfl⟩) ?_ ?_
      rotate_left
      ·simp only [Act.put, List.setIfInBounds_toArray, List.set_cons_zero, List.set_cons_succ, i64_w, i32_w]
       rfl
      refine pure_ (i := 12) (N := some 28) (v := undef) (a' := ?_) #[t_, t_, t_, t_, t_, t_, t_, t_, t_, t_, t_, t_, t_, f_, f_, f_] rfl rfl (any_of HT_.out (by kernel_rfl)) (fun _ _ _ h => h) (Or.inr ⟨by rfl, rfl⟩) ?_ ?_
      rotate_left
      ·simp only [Act.put, List.setIfInBounds_toArray, List.set_cons_zero, List.set_cons_succ, i64_w, i32_w]
       rfl
      refine pure_ (i := 13) (N := some 29) (v := undef) (a' := ?_) #[t_, t_, t_, t_, t_, t_, t_, t_, t_, t_, t_, t_, t_, t_, f_, f_] rfl rfl (any_of HT_.out (by kernel_rfl)) (fun _ _ _ h => h) (Or.inr ⟨by rfl, rfl⟩) ?_ ?_
      rotate_left
      ·simp only [Act.put, List.setIfInBounds_toArray, List.set_cons_zero, List.set_cons_succ, i64_w, i32_w]
       rfl
      refine pure_ (i := 14) (N := some 30) (v := ?_) (a' := ?_) #[t_, t_, t_, t_, t_, t_, t_, t_, t_, t_, t_, t_, t_, t_, t_, f_] rfl rfl (any_of HT_.out (by kernel_rfl)) (fun _ _ _ h => h) (Or.inl ⟨by rfl, ?_⟩) ?_ ?_
      rotate_left
      ·intro w'; go_simp
       with_reducible rfl
      rotate_left
      ·simp only [Act.put, List.setIfInBounds_toArray, List.set_cons_zero, List.set_cons_succ, i64_w, i32_w]
       rfl
      refine pure_ (i := 15) (N := some 15) (v := ?_) (a' := ?_) #[t_, t_, t_, t_, t_, t_, t_, t_, t_, t_, t_, t_, t_, t_, t_, t_] rfl rfl (any_of HT_.out (by kernel_rfl)) (fun _ _ _ h => h) (Or.inl ⟨by rfl, ?_⟩) ?_ ?_
      rotate_left
      ·intro w'; go_simp
       with_reducible rfl
      rotate_left
      ·simp only [Act.put, List.setIfInBounds_toArray, List.set_cons_zero, List.set_cons_succ, i64_w, i32_w]
       rfl
      refine done_ (done_of HT_.out (by kernel_rfl)) ?_; (try go_wp2); go_meet
      case rel => exact ⟨_, (false), (by first | rfl | (simp; done) | (simp [*]; done)), H', ⟨by have := HK1.out; first | omega | exact Nat.le_refl _⟩, ⟨by (with_reducible repeat (first | apply Kd.R_alloc | apply Kd.R_drewN | apply Kd.R_drew)); exact HO_5.out⟩, ⟨by repeat (first | (with_reducible first | exact HB.out | apply below_alloc | apply pw_below_drewN | apply below_drew1) | exact HB.out)⟩⟩
    case rest =>
     clear HC6; (try clear c1); (try clear p2); (try clear q2); (try clear hx2); (try clear c5); (try clear c5b0); (try clear c7); (try clear c7b0); (try clear c8); (try clear c8b0); (try clear c9); (try clear c9b0); (try clear hx249_0); (try clear hx250_0); (try clear p2); (try clear p249); (try clear p250); (try clear q249); (try clear q250); obtain ⟨kq, x15_5, rfl, HA, HJ5, HO_5, HB⟩ := hcut
     cases kq with
     | zero => exact absurd HA.out (by simp [impl_match.j1])
     | succ kj5 =>
      have H := HA.out; clear HA; simp only [impl_match.j1] at H; by_cases c12 : x15_5 = true
      ·subst c12; (have H1 : (if x5_1.length < 17592186044416 then (impl_match.l0 kj5 l0 l1 (x5_1 ++ [x6_1]) (wrap64 (x6_1 + 1)) (wrap64 (x7_1 + 1))) else (none)) = some r := by rw [if_pos rfl] at H; exact H); clear H; have H := H1; clear H1; by_cases c13 : x5_1.length < 17592186044416
       ·rw [if_pos c13] at H; have LMc13 := Aside0.mk c13; clear c13; obtain ⟨y251, hy251⟩ : ∃ y_ : List Int, y_ = (x5_1 ++ [x6_1]) := ⟨_, rfl⟩; (replace H : (impl_match.l0 kj5 l0 l1 y251 (wrap64 (x6_1 + 1)) (wrap64 (x7_1 + 1))) = some r := by first | (rw [hy251]; with_reducible exact H) | (have H2_ := (Option.bind_some _ _).symm.trans H; rw [hy251]; with_reducible exact H2_) | (have H2_ := (Option.bind_some _ _).symm.trans H; with_reducible exact H2_) | with_reducible exact H | (rw [hy251]; exact H) | exact H); have Ny251 := Aside0.mk hy251; clear hy251; have H' := Aside0.mk H; clear H; go_wp2_with (first | ((with_reducible refine gate_builtin (b := .append) (xs := #[.tmp 31, .tmp 33]) rfl ?_); at_builtin; refine Kd.R_append (Kd.int .i64) (w0 := w) w.heap.size rfl (.tmp 31) (.tmp 33) 80 3 (.int .i64 0) 8 rfl Try.underlying80 info3 rfl (by decide) (by omega) u5 x5_1 x6_1 [.int .i64 x6_1] (fun _ => True) (fun _ => False) rfl rfl ?aP (fun _ hk => hk.elim) ?aF ?aO ?aB ?aS ?aL ?_; (case aP => exact rfl); (case aB => exact (by repeat (first | (with_reducible first | exact HB.out | apply below_alloc | apply pw_below_drewN | apply below_drew1) | exact HB.out))); (case aF => exact (fun _ _ => trivial)); (case aO => exact (by (with_reducible repeat (first | apply Kd.R_alloc | apply Kd.R_drewN | apply Kd.R_drew)); exact HO_5.out)); (case aS => exact (below_size (by repeat (first | (with_reducible first | exact HB.out | apply below_alloc | apply pw_below_drewN | apply below_drew1) | exact HB.out)))); (case aL => have := LMc13.out; omega); intro v252 w14 ho hb hg hat; rw [← Ny251.out] at ho; have n0_ := Aside0.mk (hb); have n1_ := Aside0.mk (ho); clear HB; clear HO_5; have HB := n0_; have HO253 := n1_; clear n0_ n1_; clear ho hb hg hat)); go_roundg kj5
        case measure => have := HK1.out; have := HJ5.out; omega
        case rel => exact ⟨(y251), (wrap64 (x6_1 + 1)), (wrap64 (x7_1 + 1)), (by first | rfl | (simp; done) | (simp [*]; done)), (by first | rfl | (simp; done) | (simp [*]; done)), H', ⟨by have := HK1.out; have := HJ5.out; omega⟩, ⟨by (with_reducible repeat (first | apply Kd.R_alloc | apply Kd.R_drewN | apply Kd.R_drew)); exact HO253.out⟩, ⟨by repeat (first | (with_reducible first | exact HB.out | apply below_alloc | apply pw_below_drewN | apply below_drew1) | exact HB.out)⟩⟩
       ·rw [if_neg c13] at H; exact absurd H (by simp)
      ·replace c12 := Bool.eq_false_iff.mpr c12; subst c12; (have H1 : (if x6_1 = (l1.length : Int) then (if x5_1.length < 17592186044416 then (impl_match.l0 kj5 l0 l1 (x5_1 ++ [(-1)]) x6_1 (wrap64 (x7_1 + 1))) else (none)) else (if 0 ≤ (wrap64 (x7_1 + 1)) then (if (wrap64 (x7_1 + 1)) ≤ (l0.length : Int) then (if 0 ≤ x6_1 then (if x6_1 ≤ (l1.length : Int) then ((impl_lcs.f kj5 (l0.drop ((wrap64 (x7_1 + 1)) : Int).toNat) (l1.drop (x6_1 : Int).toNat)).bind fun t259 => (if 0 ≤ x7_1 then (if x7_1 ≤ (l0.length : Int) then (if 0 ≤ (wrap64 (x6_1 + 1)) then (if (wrap64 (x6_1 + 1)) ≤ (l1.length : Int) then ((impl_lcs.f kj5 (l0.drop (x7_1 : Int).toNat) (l1.drop ((wrap64 (x6_1 + 1)) : Int).toNat)).bind fun t262 => (if t259 ≥ t262 then (if x5_1.length < 17592186044416 then (impl_match.l0 kj5 l0 l1 (x5_1 ++ [(-1)]) x6_1 (wrap64 (x7_1 + 1))) else (none)) else (impl_match.l0 kj5 l0 l1 x5_1 (wrap64 (x6_1 + 1)) x7_1))) else (none)) else (none)) else (none)) else (none))) else (none)) else (none)) else (none)) else (none))) = some r := by rw [if_neg (show ¬ (false = true) by decide)] at H; exact H); clear H; have H := H1; clear H1; by_cases c15 : x6_1 = (l1.length : Int)
       ·rw [if_pos c15] at H; have c15b0 : (x6_1 == (l1.length : Int)) = true := beq_iff_eq.mpr c15; have c15b1 : (x6_1 != (l1.length : Int)) = false := bne_eq_false_iff_eq.mpr c15; clear c15; by_cases c16 : x5_1.length < 17592186044416
        ·rw [if_pos c16] at H; have LMc16 := Aside0.mk c16; clear c16; obtain ⟨y254, hy254⟩ : ∃ y_ : List Int, y_ = (x5_1 ++ [(-1)]) := ⟨_, rfl⟩; (replace H : (impl_match.l0 kj5 l0 l1 y254 x6_1 (wrap64 (x7_1 + 1))) = some r := by first | (rw [hy254]; with_reducible exact H) | (have H2_ := (Option.bind_some _ _).symm.trans H; rw [hy254]; with_reducible exact H2_) | (have H2_ := (Option.bind_some _ _).symm.trans H; with_reducible exact H2_) | with_reducible exact H | (rw [hy254]; exact H) | exact H); have Ny254 := Aside0.mk hy254; clear hy254; have H' := Aside0.mk H; clear H; (try go_wp2); have n0_ := Aside0.mk (Kd.R_drew HO_5.out); have n1_ := Aside0.mk (below_drew1 HB.out); clear HO_5; clear HB; have HO_5 := n0_; have HB := n1_; clear n0_ n1_; refine start_ (n := 24) (S := fun w' => True) (ds := []) #[f_, f_, f_, f_, f_, f_, f_, f_, f_, f_, f_, f_, f_, f_, f_, f_, f_, f_, f_, f_, f_, f_, f_, f_] (by kernel_rfl) rfl rfl trivial (fun hHeld => ?_); refine with_tabW impl_match.tab8 impl_match.bits8 (fun HT_ HW_ => ?_); generalize wc.drew = w17 at HO_5 HB hHeld ⊢; refine pure_ (i := 0) (N := some 40) (v := ?_) (a' := ?_) #[t_, f_, f_, f_, f_, f_, f_, f_, f_, f_, f_, f_, f_, f_, f_, f_, f_, f_, f_, f_, f_, f_, f_, f_] rfl rfl (any_of HT_.out (by kernel_rfl)) (fun _ _ _ h => h) (Or.inl ⟨by rfl, ?_⟩) ?_ ?_
         rotate_left
         ·intro w'; go_simp
          with_reducible rfl
         rotate_left
         ·simp only [Act.put, List.setIfInBounds_toArray, List.set_cons_zero, List.set_cons_succ, i64_w, i32_w]
          rfl
         refine pure_ (i := 1) (N := some 41) (v := ?_) (a' := ?_) #[t_, t_, f_, f_, f_, f_, f_, f_, f_, f_, f_, f_, f_, f_, f_, f_, f_, f_, f_, f_, f_, f_, f_, f_] rfl rfl (any_of HT_.out (by kernel_rfl)) (fun _ _ _ h => h) (Or.inl ⟨by rfl, ?_⟩) ?_ ?_
         rotate_left
         ·intro w'; go_simp
          with_reducible rfl
         rotate_left
         ·simp only [Act.put, List.setIfInBounds_toArray, List.set_cons_zero, List.set_cons_succ, i64_w, i32_w]
          rfl
         refine pure_ (i := 2) (N := some 42) (v := ?_) (a' := ?_) #[t_, t_, t_, f_, f_, f_, f_, f_, f_, f_, f_, f_, f_, f_, f_, f_, f_, f_, f_, f_, f_, f_, f_, f_] rfl rfl (any_of HT_.out (by kernel_rfl)) (fun _ _ _ h => h) (Or.inl ⟨by rfl, ?_⟩) ?_ ?_
         rotate_left
         ·intro w'; go_simp
          with_reducible rfl
         rotate_left
         ·simp only [Act.put, List.setIfInBounds_toArray, List.set_cons_zero, List.set_cons_succ, i64_w, i32_w]
          rfl
         refine pure_ (i := 3) (N := some 43) (v := ?_) (a' := ?_) #[t_, t_, t_, t_, f_, f_, f_, f_, f_, f_, f_, f_, f_, f_, f_, f_, f_, f_, f_, f_, f_, f_, f_, f_] rfl rfl (any_of HT_.out (by kernel_rfl)) (fun _ _ _ h => h) (Or.inl ⟨by rfl, ?_⟩) ?_ ?_
         rotate_left
         ·intro w'; go_simp
          with_reducible rfl
         rotate_left
         ·simp only [Act.put, List.setIfInBounds_toArray, List.set_cons_zero, List.set_cons_succ, i64_w, i32_w]
          rfl
         refine pure_ (i := 4) (N := some 44) (v := ?_) (a' := ?_) #[t_, t_, t_, t_, t_, f_, f_, f_, f_, f_, f_, f_, f_, f_, f_, f_, f_, f_, f_, f_, f_, f_, f_, f_] rfl rfl (any_of HT_.out (by kernel_rfl)) (fun _ _ _ h => h) (Or.inl ⟨by rfl, ?_⟩) ?_ ?_
         rotate_left
         ·intro w'; go_simp
          with_reducible rfl
         rotate_left
         ·simp only [Act.put, List.setIfInBounds_toArray, List.set_cons_zero, List.set_cons_succ, i64_w, i32_w]
          rfl
         refine pure_ (i := 5) (N := some 45) (v := undef) (a' := ?_) #[t_, t_, t_, t_, t_, t_, f_, f_, f_, f_, f_, f_, f_, f_, f_, f_, f_, f_, f_, f_, f_, f_, f_, f_] rfl rfl (any_of HT_.out (by kernel_rfl)) (fun _ _ _ h => h) (Or.inr ⟨by rfl, rfl⟩) ?_ ?_
         rotate_left
         ·simp only [Act.put, List.setIfInBounds_toArray, List.set_cons_zero, List.set_cons_succ, i64_w, i32_w]
          rfl
         refine pure_ (i := 6) (N := some 46) (v := undef) (a' := ?_) #[t_, t_, t_, t_, t_, t_, t_, f_, f_, f_, f_, f_, f_, f_, f_, f_, f_, f_, f_, f_, f_, f_, f_, f_] rfl rfl (any_of HT_.out (by kernel_rfl)) (fun _ _ _ h => h) (Or.inr ⟨by rfl, rfl⟩) ?_ ?_
         rotate_left
         ·simp only [Act.put, List.setIfInBounds_toArray, List.set_cons_zero, List.set_cons_succ, i64_w, i32_w]
          rfl
         refine pure_ (i := 7) (N := some 47) (v := undef) (a' := ?_) #[t_, t_, t_, t_, t_, t_, t_, t_, f_, f_, f_, f_, f_, f_, f_, f_, f_, f_, f_, f_, f_, f_, f_, f_] rfl rfl (any_of HT_.out (by kernel_rfl)) (fun _ _ _ h => h) (Or.inr ⟨by rfl, rfl⟩) ?_ ?_
         rotate_left
         ·simp only [Act.put, List.setIfInBounds_toArray, List.set_cons_zero, List.set_cons_succ, i64_w, i32_w]
          rfl
         refine pure_ (i := 8) (N := some 48) (v := undef) (a' := ?_) #[t_, t_, t_, t_, t_, t_, t_, t_, t_, f_, f_, f_, f_, f_, f_, f_, f_, f_, f_, f_, f_, f_, f_, f_] rfl rfl (any_of HT_.out (by kernel_rfl)) (fun _ _ _ h => h) (Or.inr ⟨by rfl, rfl⟩) ?_ ?_
         rotate_left
         ·simp only [Act.put, List.setIfInBounds_toArray, List.set_cons_zero, List.set_cons_succ, i64_w, i32_w]
          rfl
         refine pure_ (i := 9) (N := some 49) (v := undef) (a' := ?_) #[t_, t_, t_, t_, t_, t_, t_, t_, t_, t_, f_, f_, f_, f_, f_, f_, f_, f_, f_, f_, f_, f_, f_, f_] rfl rfl (any_of HT_.out (by kernel_rfl)) (fun _ _ _ h => h) (Or.inr ⟨by rfl, rfl⟩) ?_ ?_
         rotate_left
         ·simp only [Act.put, List.setIfInBounds_toArray, List.set_cons_zero, List.set_cons_succ, i64_w, i32_w]
          rfl
         refine pure_ (i := 10) (N := some 50) (v := undef) (a' := ?_) #[t_, t_, t_, t_, t_, t_, t_, t_, t_, t_, t_, f_, f_, f_, f_, f_, f_, f_, f_, f_, f_, f_, f_, f_] rfl rfl (any_of HT_.out (by kernel_rfl)) (fun _ _ _ h => h) (Or.inr ⟨by rfl, rfl⟩) ?_ ?_
         rotate_left
         ·simp only [Act.put, List.setIfInBounds_toArray, List.set_cons_zero, List.set_cons_succ, i64_w, i32_w]
          rfl
         refine pure_ (i := 11) (N := some 51) (v := undef) (a' := ?_) #[t_, t_, t_, t_, t_, t_, t_, t_, t_, t_, t_, t_, f_, f_, f_, f_, f_, f_, f_, f_, f_, f_, f_, f_] rfl rfl (any_of HT_.out (by kernel_rfl)) (fun _ _ _ h => h) (Or.inr ⟨by rfl, rfl⟩) ?_ ?_
         rotate_left
         ·simp only [Act.put, List.setIfInBounds_toArray, List.set_cons_zero, List.set_cons_succ, i64_w, i32_w]
          rfl
         refine pure_ (i := 12) (N := some 52) (v := undef) (a' := ?_) #[t_, t_, t_, t_, t_, t_, t_, t_, t_, t_, t_, t_, t_, f_, f_, f_, f_, f_, f_, f_, f_, f_, f_, f_] rfl rfl (any_of HT_.out (by kernel_rfl)) (fun _ _ _ h => h) (Or.inr ⟨by rfl, rfl⟩) ?_ ?_
         rotate_left
         ·simp only [Act.put, List.setIfInBounds_toArray, List.set_cons_zero, List.set_cons_succ, i64_w, i32_w]
          rfl
         refine pure_ (i := 13) (N := some 53) (v := undef) (a' := ?_) #[t_, t_, t_, t_, t_, t_, t_, t_, t_, t_, t_, t_, t_, t_, f_, f_, f_, f_, f_, f_, f_, f_, f_, f_] rfl rfl (any_of HT_.out (by kernel_rfl)) (fun _ _ _ h => h) (Or.inr ⟨by rfl, rfl⟩) ?_ ?_
         rotate_left
         ·simp only [Act.put, List.setIfInBounds_toArray, List.set_cons_zero, List.set_cons_succ, i64_w, i32_w]
          rfl
         refine pure_ (i := 14) (N := some 54) (v := undef) (a' := ?_) #[t_, t_, t_, t_, t_, t_, t_, t_, t_, t_, t_, t_, t_, t_, t_, f_, f_, f_, f_, f_, f_, f_, f_, f_] rfl rfl (any_of HT_.out (by kernel_rfl)) (fun _ _ _ h => h) (Or.inr ⟨by rfl, rfl⟩) ?_ ?_
         rotate_left
         ·simp only [Act.put, List.setIfInBounds_toArray, List.set_cons_zero, List.set_cons_succ, i64_w, i32_w]
          rfl
         refine pure_ (i := 15) (N := some 55) (v := undef) (a' := ?_) #[t_, t_, t_, t_, t_, t_, t_, t_, t_, t_, t_, t_, t_, t_, t_, t_, f_, f_, f_, f_, f_, f_, f_, f_] rfl rfl (any_of HT_.out (by kernel_rfl)) (fun _ _ _ h => h) (Or.inr ⟨by rfl, rfl⟩) ?_ ?_
         rotate_left
         ·simp only [Act.put, List.setIfInBounds_toArray, List.set_cons_zero, List.set_cons_succ, i64_w, i32_w]
          rfl
         refine pure_ (i := 16) (N := some 56) (v := undef) (a' := ?_) #[t_, t_, t_, t_, t_, t_, t_, t_, t_, t_, t_, t_, t_, t_, t_, t_, t_, f_, f_, f_, f_, f_, f_, f_] rfl rfl (any_of HT_.out (by kernel_rfl)) (fun _ _ _ h => h) (Or.inr ⟨by rfl, rfl⟩) ?_ ?_
         rotate_left
         ·simp only [Act.put, List.setIfInBounds_toArray, List.set_cons_zero, List.set_cons_succ, i64_w, i32_w]
          rfl
         refine pure_ (i := 17) (N := some 57) (v := undef) (a' := ?_) #[t_, t_, t_, t_, t_, t_, t_, t_, t_, t_, t_, t_, t_, t_, t_, t_, t_, t_, f_, f_, f_, f_, f_, f_] rfl rfl (any_of HT_.out (by kernel_rfl)) (fun _ _ _ h => h) (Or.inr ⟨by rfl, rfl⟩) ?_ ?_
         rotate_left
         ·simp only [Act.put, List.setIfInBounds_toArray, List.set_cons_zero, List.set_cons_succ, i64_w, i32_w]
          rfl
         refine pure_ (i := 18) (N := some 58) (v := undef) (a' := ?_) #[t_, t_, t_, t_, t_, t_, t_, t_, t_, t_, t_, t_, t_, t_, t_, t_, t_, t_, t_, f_, f_, f_, f_, f_] rfl rfl (any_of HT_.out (by kernel_rfl)) (fun _ _ _ h => h) (Or.inr ⟨by rfl, rfl⟩) ?_ ?_
         rotate_left
         ·simp only [Act.put, List.setIfInBounds_toArray, List.set_cons_zero, List.set_cons_succ, i64_w, i32_w]
          rfl
         refine pure_ (i := 19) (N := some 59) (v := undef) (a' := ?_) #[t_, t_, t_, t_, t_, t_, t_, t_, t_, t_, t_, t_, t_, t_, t_, t_, t_, t_, t_, t_, f_, f_, f_, f_] rfl rfl (any_of HT_.out (by kernel_rfl)) (fun _ _ _ h => h) (Or.inr ⟨by rfl, rfl⟩) ?_ ?_
         rotate_left
         ·simp only [Act.put, List.setIfInBounds_toArray, List.set_cons_zero, List.set_cons_succ, i64_w, i32_w]
          rfl
         refine pure_ (i := 20) (N := some 60) (v := undef) (a' := ?_) #[t_, t_, t_, t_, t_, t_, t_, t_, t_, t_, t_, t_, t_, t_, t_, t_, t_, t_, t_, t_, t_, f_, f_, f_] rfl rfl (any_of HT_.out (by kernel_rfl)) (fun _ _ _ h => h) (Or.inr ⟨by rfl, rfl⟩) ?_ ?_
         rotate_left
         ·simp only [Act.put, List.setIfInBounds_toArray, List.set_cons_zero, List.set_cons_succ, i64_w, i32_w]
          rfl
         refine pure_ (i := 21) (N := some 61) (v := undef) (a' := ?_) #[t_, t_, t_, t_, t_, t_, t_, t_, t_, t_, t_, t_, t_, t_, t_, t_, t_, t_, t_, t_, t_, t_, f_, f_] rfl rfl (any_of HT_.out (by kernel_rfl)) (fun _ _ _ h => h) (Or.inr ⟨by rfl, rfl⟩) ?_ ?_
         rotate_left
         ·simp only [Act.put, List.setIfInBounds_toArray, List.set_cons_zero, List.set_cons_succ, i64_w, i32_w]
          rfl
         refine pure_ (i := 22) (N := some 62) (v := ?_) (a' := ?_) #[t_, t_, t_, t_, t_, t_, t_, t_, t_, t_, t_, t_, t_, t_, t_, t_, t_, t_, t_, t_, t_, t_, t_, f_] rfl rfl (any_of HT_.out (by kernel_rfl)) (fun _ _ _ h => h) (Or.inl ⟨by rfl, ?_⟩) ?_ ?_
         rotate_left
         ·intro w'; go_simp
          with_reducible rfl
         rotate_left
         ·simp only [Act.put, List.setIfInBounds_toArray, List.set_cons_zero, List.set_cons_succ, i64_w, i32_w]
          rfl
         refine pure_ (i := 23) (N := some 39) (v := ?_) (a' := ?_) #[t_, t_, t_, t_, t_, t_, t_, t_, t_, t_, t_, t_, t_, t_, t_, t_, t_, t_, t_, t_, t_, t_, t_, t_] rfl rfl (any_of HT_.out (by kernel_rfl)) (fun _ _ _ h => h) (Or.inl ⟨by rfl, ?_⟩) ?_ ?_
         rotate_left
         ·intro w'; go_simp
          with_reducible rfl
         rotate_left
         ·simp only [Act.put, List.setIfInBounds_toArray, List.set_cons_zero, List.set_cons_succ, i64_w, i32_w]
          rfl
         refine done_ (done_of HT_.out (by kernel_rfl)) ?_; (try go_wp2_with (first | ((with_reducible refine gate_builtin (b := .append) (xs := #[.tmp 63, .tmp 64]) rfl ?_); at_builtin; refine Kd.R_append (Kd.int .i64) (w0 := w) w.heap.size rfl (.tmp 63) (.tmp 64) 80 3 (.int .i64 0) 8 rfl Try.underlying80 info3 rfl (by decide) (by omega) u5 x5_1 (-1) [.int .i64 (-1)] (fun _ => True) (fun _ => False) rfl rfl ?aP (fun _ hk => hk.elim) ?aF ?aO ?aB ?aS ?aL ?_; (case aP => exact rfl); (case aB => exact (by repeat (first | (with_reducible first | exact HB.out | apply below_alloc | apply pw_below_drewN | apply below_drew1) | exact HB.out))); (case aF => exact (fun _ _ => trivial)); (case aO => exact (by (with_reducible repeat (first | apply Kd.R_alloc | apply Kd.R_drewN | apply Kd.R_drew)); exact HO_5.out)); (case aS => exact (below_size (by repeat (first | (with_reducible first | exact HB.out | apply below_alloc | apply pw_below_drewN | apply below_drew1) | exact HB.out)))); (case aL => have := LMc16.out; omega); intro v255 w18 ho hb hg hat; rw [← Ny254.out] at ho; have n0_ := Aside0.mk (hb); have n1_ := Aside0.mk (ho); clear HB; clear HO_5; have HB := n0_; have HO256 := n1_; clear n0_ n1_; clear ho hb hg hat))); go_roundg kj5
         case measure => have := HK1.out; have := HJ5.out; omega
         case rel => exact ⟨(y254), (x6_1), (wrap64 (x7_1 + 1)), (by first | rfl | (simp; done) | (simp [*]; done)), (by first | rfl | (simp; done) | (simp [*]; done)), H', ⟨by have := HK1.out; have := HJ5.out; omega⟩, ⟨by (with_reducible repeat (first | apply Kd.R_alloc | apply Kd.R_drewN | apply Kd.R_drew)); exact HO256.out⟩, ⟨by repeat (first | (with_reducible first | exact HB.out | apply below_alloc | apply pw_below_drewN | apply below_drew1) | exact HB.out)⟩⟩
        ·rw [if_neg c16] at H; exact absurd H (by simp)
       ·rw [if_neg c15] at H; have c15b0 : (x6_1 == (l1.length : Int)) = false := beq_eq_false_iff_ne.mpr c15; have c15b1 : (x6_1 != (l1.length : Int)) = true := bne_iff_ne.mpr c15; obtain ⟨ji19, hji19⟩ : ∃ j_ : Int, (wrap64 (x7_1 + 1)) = j_ := ⟨_, rfl⟩; (replace H : (if 0 ≤ (ji19) then (if (ji19) ≤ (l0.length : Int) then (if 0 ≤ x6_1 then (if x6_1 ≤ (l1.length : Int) then ((impl_lcs.f kj5 (l0.drop ((ji19) : Int).toNat) (l1.drop (x6_1 : Int).toNat)).bind fun t259 => (if 0 ≤ x7_1 then (if x7_1 ≤ (l0.length : Int) then (if 0 ≤ (wrap64 (x6_1 + 1)) then (if (wrap64 (x6_1 + 1)) ≤ (l1.length : Int) then ((impl_lcs.f kj5 (l0.drop (x7_1 : Int).toNat) (l1.drop ((wrap64 (x6_1 + 1)) : Int).toNat)).bind fun t262 => (if t259 ≥ t262 then (if x5_1.length < 17592186044416 then (impl_match.l0 kj5 l0 l1 (x5_1 ++ [(-1)]) x6_1 ji19) else (none)) else (impl_match.l0 kj5 l0 l1 x5_1 (wrap64 (x6_1 + 1)) x7_1))) else (none)) else (none)) else (none)) else (none))) else (none)) else (none)) else (none)) else (none)) = some r := by first | (rw [hji19] at H; exact H) | (simp only [hji19] at H ⊢; exact H)); have hji19w : (IntKind.i64.wrap (x7_1 + 1)) = ji19 := (i64_w _).trans hji19; by_cases c20 : 0 ≤ (ji19)
        ·rw [if_pos c20] at H; have c20b0 := eq_true c20; have c20b1 : decide (0 ≤ (ji19)) = true := decide_eq_true c20; clear c20; by_cases c21 : (ji19) ≤ (l0.length : Int)
         ·rw [if_pos c21] at H; have c21b0 := eq_true c21; have c21b1 : decide ((ji19) ≤ (l0.length : Int)) = true := decide_eq_true c21; clear c21; by_cases c22 : 0 ≤ x6_1
          ·rw [if_pos c22] at H; have c22b0 := eq_true c22; have c22b1 : decide (0 ≤ x6_1) = true := decide_eq_true c22; clear c22; by_cases c23 : x6_1 ≤ (l1.length : Int)
           ·rw [if_pos c23] at H; have c23b0 := eq_true c23; have c23b1 : decide (x6_1 ≤ (l1.length : Int)) = true := decide_eq_true c23; clear c23; replace H := Option.bind_eq_some_iff.mp H; obtain ⟨t259, A240, H⟩ := H; replace H : (if 0 ≤ x7_1 then (if x7_1 ≤ (l0.length : Int) then (if 0 ≤ (wrap64 (x6_1 + 1)) then (if (wrap64 (x6_1 + 1)) ≤ (l1.length : Int) then ((impl_lcs.f kj5 (l0.drop (x7_1 : Int).toNat) (l1.drop ((wrap64 (x6_1 + 1)) : Int).toNat)).bind fun t262 => (if t259 ≥ t262 then (if x5_1.length < 17592186044416 then (impl_match.l0 kj5 l0 l1 (x5_1 ++ [(-1)]) x6_1 ji19) else (none)) else (impl_match.l0 kj5 l0 l1 x5_1 (wrap64 (x6_1 + 1)) x7_1))) else (none)) else (none)) else (none)) else (none)) = some r := H; have A24 := Aside0.mk A240; clear A240; by_cases c25 : 0 ≤ x7_1
            ·rw [if_pos c25] at H; have c25b0 := eq_true c25; have c25b1 : decide (0 ≤ x7_1) = true := decide_eq_true c25; clear c25; by_cases c26 : x7_1 ≤ (l0.length : Int)
             ·rw [if_pos c26] at H; have c26b0 := eq_true c26; have c26b1 : decide (x7_1 ≤ (l0.length : Int)) = true := decide_eq_true c26; clear c26; obtain ⟨ji27, hji27⟩ : ∃ j_ : Int, (wrap64 (x6_1 + 1)) = j_ := ⟨_, rfl⟩; (replace H : (if 0 ≤ (ji27) then (if (ji27) ≤ (l1.length : Int) then ((impl_lcs.f kj5 (l0.drop (x7_1 : Int).toNat) (l1.drop ((ji27) : Int).toNat)).bind fun t262 => (if t259 ≥ t262 then (if x5_1.length < 17592186044416 then (impl_match.l0 kj5 l0 l1 (x5_1 ++ [(-1)]) x6_1 ji19) else (none)) else (impl_match.l0 kj5 l0 l1 x5_1 ji27 x7_1))) else (none)) else (none)) = some r := by first | (rw [hji27] at H; exact H) | (simp only [hji27] at H ⊢; exact H))
              (try rw [hji27] at A24)
              have hji27w : (IntKind.i64.wrap (x6_1 + 1)) = ji27 := (i64_w _).trans hji27; by_cases c28 : 0 ≤ (ji27)
              ·rw [if_pos c28] at H; have c28b0 := eq_true c28; have c28b1 : decide (0 ≤ (ji27)) = true := decide_eq_true c28; clear c28; by_cases c29 : (ji27) ≤ (l1.length : Int)
               ·rw [if_pos c29] at H; have c29b0 := eq_true c29; have c29b1 : decide ((ji27) ≤ (l1.length : Int)) = true := decide_eq_true c29; clear c29; replace H := Option.bind_eq_some_iff.mp H; obtain ⟨t262, A300, H⟩ := H; replace H : (if t259 ≥ t262 then (if x5_1.length < 17592186044416 then (impl_match.l0 kj5 l0 l1 (x5_1 ++ [(-1)]) x6_1 ji19) else (none)) else (impl_match.l0 kj5 l0 l1 x5_1 ji27 x7_1)) = some r := H; have A30 := Aside0.mk A300; clear A300; by_cases c31 : t259 ≥ t262
                ·rw [if_pos c31] at H; have c31b0 : decide (t262 ≤ t259) = true := decide_eq_true c31; clear c31; by_cases c32 : x5_1.length < 17592186044416
                 ·rw [if_pos c32] at H; have LMc32 := Aside0.mk c32; clear c32; obtain ⟨y263, hy263⟩ : ∃ y_ : List Int, y_ = (x5_1 ++ [(-1)]) := ⟨_, rfl⟩; (replace H : (impl_match.l0 kj5 l0 l1 y263 x6_1 ji19) = some r := by first | (rw [hy263]; with_reducible exact H) | (have H2_ := (Option.bind_some _ _).symm.trans H; rw [hy263]; with_reducible exact H2_) | (have H2_ := (Option.bind_some _ _).symm.trans H; with_reducible exact H2_) | with_reducible exact H | (rw [hy263]; exact H) | exact H); have Ny263 := Aside0.mk hy263; clear hy263; have H' := Aside0.mk H; clear H; (try go_wp2); have n0_ := Aside0.mk (Kd.R_drew HO_5.out); have n1_ := Aside0.mk (below_drew1 HB.out); clear HO_5; clear HB; have HO_5 := n0_; have HB := n1_; clear n0_ n1_; obtain ⟨i034, hi034, _, hsz34, _⟩ := info_parts info9; obtain ⟨A34, hcut34, hA34, hC34⟩ := print_drop_of (P := Try.prog) Value.string (⟨#[]⟩ : ByteArray) 23 9 .i64 Try.underlying23 hi034 hsz34 A0 c0 l0 (ji19) (of_decide_eq_true (by assumption)) (of_decide_eq_true (by assumption)) HC0.out; have HR257 := Aside0.mk (Kd.C_of_reads (h1 := fun _ => rfl) (hA34 _ (Kd.reads_of_C HR0.out))); have HC257 := Aside0.mk hC34; clear hA34 hC34 hi034 hsz34; obtain ⟨i035, hi035, _, hsz35, _⟩ := info_parts info9; obtain ⟨A35, hcut35, hA35, hC35⟩ := print_drop_of (P := Try.prog) Value.string (⟨#[]⟩ : ByteArray) 23 9 .i64 Try.underlying23 hi035 hsz35 A1 c1 l1 x6_1 (of_decide_eq_true (by assumption)) (of_decide_eq_true (by assumption)) HC1.out; have HR258 := Aside0.mk (Kd.C_of_reads (h1 := fun _ => rfl) (hA35 _ (Kd.reads_of_C HR1.out))); have HC258 := Aside0.mk hC35; clear hA35 hC35 hi035 hsz35; obtain ⟨i036, hi036, _, hsz36, _⟩ := info_parts info9; obtain ⟨A36, hcut36, hA36, hC36⟩ := print_drop_of (P := Try.prog) Value.string (⟨#[]⟩ : ByteArray) 23 9 .i64 Try.underlying23 hi036 hsz36 A0 c0 l0 x7_1 (of_decide_eq_true (by assumption)) (of_decide_eq_true (by assumption)) HC0.out; have HR260 := Aside0.mk (Kd.C_of_reads (h1 := fun _ => rfl) (hA36 _ (Kd.reads_of_C HR0.out))); have HC260 := Aside0.mk hC36; clear hA36 hC36 hi036 hsz36; obtain ⟨i037, hi037, _, hsz37, _⟩ := info_parts info9; obtain ⟨A37, hcut37, hA37, hC37⟩ := print_drop_of (P := Try.prog) Value.string (⟨#[]⟩ : ByteArray) 23 9 .i64 Try.underlying23 hi037 hsz37 A1 c1 l1 (ji27) (of_decide_eq_true (by assumption)) (of_decide_eq_true (by assumption)) HC1.out; have HR261 := Aside0.mk (Kd.C_of_reads (h1 := fun _ => rfl) (hA37 _ (Kd.reads_of_C HR1.out))); have HC261 := Aside0.mk hC37; clear hA37 hC37 hi037 hsz37; refine start_ (n := 24) (S := fun w' => True) (ds := []) #[f_, f_, f_, f_, f_, f_, f_, f_, f_, f_, f_, f_, f_, f_, f_, f_, f_, f_, f_, f_, f_, f_, f_, f_] (by kernel_rfl) rfl rfl trivial (fun hHeld => ?_); refine with_tabW impl_match.tab8 impl_match.bits8 (fun HT_ HW_ => ?_); generalize wc.drew = w33 at HO_5 HB HR257 HR258 HR260 HR261 hHeld ⊢; refine pure_ (i := 0) (N := some 40) (v := ?_) (a' := ?_) #[t_, f_, f_, f_, f_, f_, f_, f_, f_, f_, f_, f_, f_, f_, f_, f_, f_, f_, f_, f_, f_, f_, f_, f_] rfl rfl (any_of HT_.out (by kernel_rfl)) (fun _ _ _ h => h) (Or.inl ⟨by rfl, ?_⟩) ?_ ?_
                  rotate_left
                  ·intro w'; go_simp
                   with_reducible rfl
                  rotate_left
                  ·simp only [Act.put, List.setIfInBounds_toArray, List.set_cons_zero, List.set_cons_succ, i64_w, i32_w]
                   rfl
                  refine pure_ (i := 1) (N := some 41) (v := ?_) (a' := ?_) #[t_, t_, f_, f_, f_, f_, f_, f_, f_, f_, f_, f_, f_, f_, f_, f_, f_, f_, f_, f_, f_, f_, f_, f_] rfl rfl (any_of HT_.out (by kernel_rfl)) (fun _ _ _ h => h) (Or.inl ⟨by rfl, ?_⟩) ?_ ?_
                  rotate_left
                  ·intro w'; go_simp
                   with_reducible rfl
                  rotate_left
                  ·simp only [Act.put, List.setIfInBounds_toArray, List.set_cons_zero, List.set_cons_succ, i64_w, i32_w]
                   rfl
                  refine pure_ (i := 2) (N := some 42) (v := ?_) (a' := ?_) #[t_, t_, t_, f_, f_, f_, f_, f_, f_, f_, f_, f_, f_, f_, f_, f_, f_, f_, f_, f_, f_, f_, f_, f_] rfl rfl (any_of HT_.out (by kernel_rfl)) (fun _ _ _ h => h) (Or.inl ⟨by rfl, ?_⟩) ?_ ?_
                  rotate_left
                  ·intro w'; go_simp
                   with_reducible rfl
                  rotate_left
                  ·simp only [Act.put, List.setIfInBounds_toArray, List.set_cons_zero, List.set_cons_succ, i64_w, i32_w]
                   rfl
                  refine pure_ (i := 3) (N := some 43) (v := ?_) (a' := ?_) #[t_, t_, t_, t_, f_, f_, f_, f_, f_, f_, f_, f_, f_, f_, f_, f_, f_, f_, f_, f_, f_, f_, f_, f_] rfl rfl (any_of HT_.out (by kernel_rfl)) (fun _ _ _ h => h) (Or.inl ⟨by rfl, ?_⟩) ?_ ?_
                  rotate_left
                  ·intro w'; go_simp
                   with_reducible rfl
                  rotate_left
                  ·simp only [Act.put, List.setIfInBounds_toArray, List.set_cons_zero, List.set_cons_succ, i64_w, i32_w]
                   rfl
                  refine pure_ (i := 4) (N := some 44) (v := ?_) (a' := ?_) #[t_, t_, t_, t_, t_, f_, f_, f_, f_, f_, f_, f_, f_, f_, f_, f_, f_, f_, f_, f_, f_, f_, f_, f_] rfl rfl (any_of HT_.out (by kernel_rfl)) (fun _ _ _ h => h) (Or.inl ⟨by rfl, ?_⟩) ?_ ?_
                  rotate_left
                  ·intro w'; go_simp
                   with_reducible rfl
                  rotate_left
                  ·simp only [Act.put, List.setIfInBounds_toArray, List.set_cons_zero, List.set_cons_succ, i64_w, i32_w]
                   rfl
                  refine pure_ (i := 5) (N := some 45) (v := ?_) (a' := ?_) #[t_, t_, t_, t_, t_, t_, f_, f_, f_, f_, f_, f_, f_, f_, f_, f_, f_, f_, f_, f_, f_, f_, f_, f_] rfl rfl (any_of HT_.out (by kernel_rfl)) (fun _ _ _ h => h) (Or.inl ⟨by rfl, ?_⟩) ?_ ?_
                  rotate_left
                  ·intro w'; go_simp
                   with_reducible rfl
                  rotate_left
                  ·simp only [Act.put, List.setIfInBounds_toArray, List.set_cons_zero, List.set_cons_succ, i64_w, i32_w]
                   rfl
                  refine pure_ (i := 6) (N := some 46) (v := ?_) (a' := ?_) #[t_, t_, t_, t_, t_, t_, t_, f_, f_, f_, f_, f_, f_, f_, f_, f_, f_, f_, f_, f_, f_, f_, f_, f_] rfl rfl (any_of HT_.out (by kernel_rfl)) (fun _ _ _ h => h) (Or.inl ⟨by rfl, ?_⟩) ?_ ?_
                  rotate_left
                  ·intro w'; go_simp
                   with_reducible rfl
                  rotate_left
                  ·simp only [Act.put, List.setIfInBounds_toArray, List.set_cons_zero, List.set_cons_succ, i64_w, i32_w]
                   rfl
                  refine pure_ (i := 7) (N := some 47) (v := ?_) (a' := ?_) #[t_, t_, t_, t_, t_, t_, t_, t_, f_, f_, f_, f_, f_, f_, f_, f_, f_, f_, f_, f_, f_, f_, f_, f_] rfl rfl (any_of HT_.out (by kernel_rfl)) (fun _ _ _ h => h) (Or.inl ⟨by rfl, ?_⟩) ?_ ?_
                  rotate_left
                  ·intro w'; go_simp
                   with_reducible rfl
                  rotate_left
                  ·simp only [Act.put, List.setIfInBounds_toArray, List.set_cons_zero, List.set_cons_succ, i64_w, i32_w]
                   rfl
                  refine pure_ (i := 8) (N := some 48) (v := ?_) (a' := ?_) #[t_, t_, t_, t_, t_, t_, t_, t_, t_, f_, f_, f_, f_, f_, f_, f_, f_, f_, f_, f_, f_, f_, f_, f_] rfl rfl (any_of HT_.out (by kernel_rfl)) (fun _ _ _ h => h) (Or.inl ⟨by rfl, ?_⟩) ?_ ?_
                  rotate_left
                  ·intro w'; go_simp
                   with_reducible rfl
                  rotate_left
                  ·simp only [Act.put, List.setIfInBounds_toArray, List.set_cons_zero, List.set_cons_succ, i64_w, i32_w]
                   rfl
                  refine pure_ (i := 9) (N := some 49) (v := ?_) (a' := ?_) #[t_, t_, t_, t_, t_, t_, t_, t_, t_, t_, f_, f_, f_, f_, f_, f_, f_, f_, f_, f_, f_, f_, f_, f_] rfl rfl (any_of HT_.out (by kernel_rfl)) (fun _ _ _ h => h) (Or.inl ⟨by rfl, ?_⟩) ?_ ?_
                  rotate_left
                  ·intro w'; go_simp
                   with_reducible rfl
                  rotate_left
                  ·simp only [Act.put, List.setIfInBounds_toArray, List.set_cons_zero, List.set_cons_succ, i64_w, i32_w]
                   rfl
                  refine pure_ (i := 10) (N := some 50) (v := ?_) (a' := ?_) #[t_, t_, t_, t_, t_, t_, t_, t_, t_, t_, t_, f_, f_, f_, f_, f_, f_, f_, f_, f_, f_, f_, f_, f_] rfl rfl (any_of HT_.out (by kernel_rfl)) (fun _ _ _ h => h) (Or.inl ⟨by rfl, ?_⟩) ?_ ?_
                  rotate_left
                  ·intro w'; go_simp
                   with_reducible rfl
                  rotate_left
                  ·simp only [Act.put, List.setIfInBounds_toArray, List.set_cons_zero, List.set_cons_succ, i64_w, i32_w]
                   rfl
                  refine pure_ (i := 11) (N := some 51) (v := ?_) (a' := ?_) #[t_, t_, t_, t_, t_, t_, t_, t_, t_, t_, t_, t_, f_, f_, f_, f_, f_, f_, f_, f_, f_, f_, f_, f_] rfl rfl (any_of HT_.out (by kernel_rfl)) (fun _ _ _ h => h) (Or.inl ⟨by rfl, ?_⟩) ?_ ?_
                  rotate_left
                  ·intro w'; go_simp
                   with_reducible rfl
                  rotate_left
                  ·simp only [Act.put, List.setIfInBounds_toArray, List.set_cons_zero, List.set_cons_succ, i64_w, i32_w]
                   rfl
                  refine pure_ (i := 13) (N := some 53) (v := ?_) (a' := ?_) #[t_, t_, t_, t_, t_, t_, t_, t_, t_, t_, t_, t_, f_, t_, f_, f_, f_, f_, f_, f_, f_, f_, f_, f_] rfl rfl (any_of HT_.out (by kernel_rfl)) (fun _ _ _ h => h) (Or.inl ⟨by rfl, ?_⟩) ?_ ?_
                  rotate_left
                  ·intro w'; go_simp
                   with_reducible rfl
                  rotate_left
                  ·simp only [Act.put, List.setIfInBounds_toArray, List.set_cons_zero, List.set_cons_succ, i64_w, i32_w]
                   rfl
                  refine pure_ (i := 14) (N := some 54) (v := ?_) (a' := ?_) #[t_, t_, t_, t_, t_, t_, t_, t_, t_, t_, t_, t_, f_, t_, t_, f_, f_, f_, f_, f_, f_, f_, f_, f_] rfl rfl (any_of HT_.out (by kernel_rfl)) (fun _ _ _ h => h) (Or.inl ⟨by rfl, ?_⟩) ?_ ?_
                  rotate_left
                  ·intro w'; go_simp
                   with_reducible rfl
                  rotate_left
                  ·simp only [Act.put, List.setIfInBounds_toArray, List.set_cons_zero, List.set_cons_succ, i64_w, i32_w]
                   rfl
                  refine pure_ (i := 15) (N := some 55) (v := ?_) (a' := ?_) #[t_, t_, t_, t_, t_, t_, t_, t_, t_, t_, t_, t_, f_, t_, t_, t_, f_, f_, f_, f_, f_, f_, f_, f_] rfl rfl (any_of HT_.out (by kernel_rfl)) (fun _ _ _ h => h) (Or.inl ⟨by rfl, ?_⟩) ?_ ?_
                  rotate_left
                  ·intro w'; go_simp
                   with_reducible rfl
                  rotate_left
                  ·simp only [Act.put, List.setIfInBounds_toArray, List.set_cons_zero, List.set_cons_succ, i64_w, i32_w]
                   rfl
                  refine pure_ (i := 16) (N := some 56) (v := ?_) (a' := ?_) #[t_, t_, t_, t_, t_, t_, t_, t_, t_, t_, t_, t_, f_, t_, t_, t_, t_, f_, f_, f_, f_, f_, f_, f_] rfl rfl (any_of HT_.out (by kernel_rfl)) (fun _ _ _ h => h) (Or.inl ⟨by rfl, ?_⟩) ?_ ?_
                  rotate_left
                  ·intro w'; go_simp
                   with_reducible rfl
                  rotate_left
                  ·simp only [Act.put, List.setIfInBounds_toArray, List.set_cons_zero, List.set_cons_succ, i64_w, i32_w]
                   rfl
                  refine pure_ (i := 17) (N := some 57) (v := ?_) (a' := ?_) #[t_, t_, t_, t_, t_, t_, t_, t_, t_, t_, t_, t_, f_, t_, t_, t_, t_, t_, f_, f_, f_, f_, f_, f_] rfl rfl (any_of HT_.out (by kernel_rfl)) (fun _ _ _ h => h) (Or.inl ⟨by rfl, ?_⟩) ?_ ?_
                  rotate_left
                  ·intro w'; go_simp
                   with_reducible rfl
                  rotate_left
                  ·simp only [Act.put, List.setIfInBounds_toArray, List.set_cons_zero, List.set_cons_succ, i64_w, i32_w]
                   rfl
                  refine pure_ (i := 18) (N := some 58) (v := ?_) (a' := ?_) #[t_, t_, t_, t_, t_, t_, t_, t_, t_, t_, t_, t_, f_, t_, t_, t_, t_, t_, t_, f_, f_, f_, f_, f_] rfl rfl (any_of HT_.out (by kernel_rfl)) (fun _ _ _ h => h) (Or.inl ⟨by rfl, ?_⟩) ?_ ?_
                  rotate_left
                  ·intro w'; go_simp
                   with_reducible rfl
                  rotate_left
                  ·simp only [Act.put, List.setIfInBounds_toArray, List.set_cons_zero, List.set_cons_succ, i64_w, i32_w]
                   rfl
                  refine pure_ (i := 19) (N := some 59) (v := ?_) (a' := ?_) #[t_, t_, t_, t_, t_, t_, t_, t_, t_, t_, t_, t_, f_, t_, t_, t_, t_, t_, t_, t_, f_, f_, f_, f_] rfl rfl (any_of HT_.out (by kernel_rfl)) (fun _ _ _ h => h) (Or.inl ⟨by rfl, ?_⟩) ?_ ?_
                  rotate_left
                  ·intro w'; go_simp
                   with_reducible rfl
                  rotate_left
                  ·simp only [Act.put, List.setIfInBounds_toArray, List.set_cons_zero, List.set_cons_succ, i64_w, i32_w]
                   rfl
                  refine one_ (i := 12) (N := some 52) #[t_, t_, t_, t_, t_, t_, t_, t_, t_, t_, t_, t_, t_, t_, t_, t_, t_, t_, t_, t_, f_, f_, f_, f_] rfl rfl (one_of HT_.out (by kernel_rfl)) (by decide) (fun K hK => ?_); refine goes_ Try.func78 (by kernel_rfl) rfl #[.slice A34 (l0.drop ((ji19) : Int).toNat).length (c0 - (ji19).toNat), .slice A35 (l1.drop (x6_1 : Int).toNat).length (c1 - x6_1.toNat)] (by rfl) rfl rfl (by (try simp only [List.map_toArray, List.map_cons, List.map_nil]); first | done | (rw [show (l0.drop ((ji19) : Int).toNat).length = (l0.length - (ji19).toNat) from List.length_drop] <;> rfl) | (rw [show (l1.drop (x6_1 : Int).toNat).length = (l1.length - x6_1.toNat) from List.length_drop] <;> rfl) | (simp only [hji19]; rfl) | rfl | (simp only [List.length_drop, List.length_take]; rfl)) ?_
                  with_reducible refine (impl_lcs.calls kj5 _ _ (l0.drop ((ji19) : Int).toNat) _ _ (l1.drop (x6_1 : Int).toNat) t259 _ ?side1 ?side2 ?side3 ?side4 A24.out).mono ?_
                  (case side1 => repeat (first | exact (Kd.C_below HR257.out HB.out) | (with_reducible refine Kd.C_alloc ?_ _) | (with_reducible refine Kd.C_drewN ?_ _) | (with_reducible refine Kd.C_drew ?_)))
                  (case side2 => exact HC257.out)
                  (case side3 => repeat (first | exact (Kd.C_below HR258.out HB.out) | (with_reducible refine Kd.C_alloc ?_ _) | (with_reducible refine Kd.C_drewN ?_ _) | (with_reducible refine Kd.C_drew ?_)))
                  (case side4 => exact HC258.out)
                  rintro e w38 ⟨rfl, hb⟩; refine ⟨_, rfl, ?_⟩; have n0_ := Aside0.mk (Kd.R_below (by (with_reducible repeat (first | apply Kd.R_alloc | apply Kd.R_drewN | apply Kd.R_drew)); exact HO_5.out) hb); have n1_ := Aside0.mk (below_step (by repeat (first | (with_reducible first | exact HB.out | apply below_alloc | apply pw_below_drewN | apply below_drew1) | exact HB.out)) hb); clear HO_5; clear HB; have HO_5 := n0_; have HB := n1_; clear n0_ n1_
                  (try clear hb)
                  (try clear hb2)
                  (try clear hk)
                  (try clear hi)
                  refine hK.out _ _ trivial (fun hHeld => ?_); clear hK K; refine norm_ (a' := ?_) ?_ ?_
                  rotate_left
                  ·show Act.put _ (some 52) _ = _
                   simp only [Act.put, List.setIfInBounds_toArray, List.set_cons_zero, List.set_cons_succ, i64_w, i32_w]
                   rfl
                  refine one_ (i := 20) (N := some 60) #[t_, t_, t_, t_, t_, t_, t_, t_, t_, t_, t_, t_, t_, t_, t_, t_, t_, t_, t_, t_, t_, f_, f_, f_] rfl rfl (one_of HT_.out (by kernel_rfl)) (by decide) (fun K hK => ?_); refine goes_ Try.func78 (by kernel_rfl) rfl #[.slice A36 (l0.drop (x7_1 : Int).toNat).length (c0 - x7_1.toNat), .slice A37 (l1.drop ((ji27) : Int).toNat).length (c1 - (ji27).toNat)] (by rfl) rfl rfl (by (try simp only [List.map_toArray, List.map_cons, List.map_nil]); first | done | (rw [show (l0.drop (x7_1 : Int).toNat).length = (l0.length - x7_1.toNat) from List.length_drop] <;> rfl) | (rw [show (l1.drop ((ji27) : Int).toNat).length = (l1.length - (ji27).toNat) from List.length_drop] <;> rfl) | (simp only [hji27]; rfl) | rfl | (simp only [List.length_drop, List.length_take]; rfl)) ?_
                  with_reducible refine (impl_lcs.calls kj5 _ _ (l0.drop (x7_1 : Int).toNat) _ _ (l1.drop ((ji27) : Int).toNat) t262 _ ?side1 ?side2 ?side3 ?side4 A30.out).mono ?_
                  (case side1 => repeat (first | exact (Kd.C_below HR260.out HB.out) | (with_reducible refine Kd.C_alloc ?_ _) | (with_reducible refine Kd.C_drewN ?_ _) | (with_reducible refine Kd.C_drew ?_)))
                  (case side2 => exact HC260.out)
                  (case side3 => repeat (first | exact (Kd.C_below HR261.out HB.out) | (with_reducible refine Kd.C_alloc ?_ _) | (with_reducible refine Kd.C_drewN ?_ _) | (with_reducible refine Kd.C_drew ?_)))
                  (case side4 => exact HC261.out)
                  rintro e w39 ⟨rfl, hb⟩; refine ⟨_, rfl, ?_⟩; have n0_ := Aside0.mk (Kd.R_below (by (with_reducible repeat (first | apply Kd.R_alloc | apply Kd.R_drewN | apply Kd.R_drew)); exact HO_5.out) hb); have n1_ := Aside0.mk (below_step (by repeat (first | (with_reducible first | exact HB.out | apply below_alloc | apply pw_below_drewN | apply below_drew1) | exact HB.out)) hb); clear HO_5; clear HB; have HO_5 := n0_; have HB := n1_; clear n0_ n1_
                  (try clear hb)
                  (try clear hb2)
                  (try clear hk)
                  (try clear hi)
                  refine hK.out _ _ trivial (fun hHeld => ?_); clear hK K; refine norm_ (a' := ?_) ?_ ?_
                  rotate_left
                  ·show Act.put _ (some 60) _ = _
                   simp only [Act.put, List.setIfInBounds_toArray, List.set_cons_zero, List.set_cons_succ, i64_w, i32_w]
                   rfl
                  refine pure_ (i := 21) (N := some 61) (v := ?_) (a' := ?_) #[t_, t_, t_, t_, t_, t_, t_, t_, t_, t_, t_, t_, t_, t_, t_, t_, t_, t_, t_, t_, t_, t_, f_, f_] rfl rfl (any_of HT_.out (by kernel_rfl)) (fun _ _ _ h => h) (Or.inl ⟨by rfl, ?_⟩) ?_ ?_
                  rotate_left
                  ·intro w'; go_simp
                   with_reducible rfl
                  rotate_left
                  ·simp only [Act.put, List.setIfInBounds_toArray, List.set_cons_zero, List.set_cons_succ, i64_w, i32_w]
                   rfl
                  refine pure_ (i := 22) (N := some 62) (v := ?_) (a' := ?_) #[t_, t_, t_, t_, t_, t_, t_, t_, t_, t_, t_, t_, t_, t_, t_, t_, t_, t_, t_, t_, t_, t_, t_, f_] rfl rfl (any_of HT_.out (by kernel_rfl)) (fun _ _ _ h => h) (Or.inl ⟨by rfl, ?_⟩) ?_ ?_
                  rotate_left
                  ·intro w'; go_simp
                   with_reducible rfl
                  rotate_left
                  ·simp only [Act.put, List.setIfInBounds_toArray, List.set_cons_zero, List.set_cons_succ, i64_w, i32_w]
                   rfl
                  refine pure_ (i := 23) (N := some 39) (v := ?_) (a' := ?_) #[t_, t_, t_, t_, t_, t_, t_, t_, t_, t_, t_, t_, t_, t_, t_, t_, t_, t_, t_, t_, t_, t_, t_, t_] rfl rfl (any_of HT_.out (by kernel_rfl)) (fun _ _ _ h => h) (Or.inl ⟨by rfl, ?_⟩) ?_ ?_
                  rotate_left
                  ·intro w'; go_simp
                   with_reducible rfl
                  rotate_left
                  ·simp only [Act.put, List.setIfInBounds_toArray, List.set_cons_zero, List.set_cons_succ, i64_w, i32_w]
                   rfl
                  refine done_ (done_of HT_.out (by kernel_rfl)) ?_; (try go_wp2_with (first | ((with_reducible refine gate_builtin (b := .append) (xs := #[.tmp 63, .tmp 64]) rfl ?_); at_builtin; refine Kd.R_append (Kd.int .i64) (w0 := w) w.heap.size rfl (.tmp 63) (.tmp 64) 80 3 (.int .i64 0) 8 rfl Try.underlying80 info3 rfl (by decide) (by omega) u5 x5_1 (-1) [.int .i64 (-1)] (fun _ => True) (fun _ => False) rfl rfl ?aP (fun _ hk => hk.elim) ?aF ?aO ?aB ?aS ?aL ?_; (case aP => exact rfl); (case aB => exact (by repeat (first | (with_reducible first | exact HB.out | apply below_alloc | apply pw_below_drewN | apply below_drew1) | exact HB.out))); (case aF => exact (fun _ _ => trivial)); (case aO => exact (by (with_reducible repeat (first | apply Kd.R_alloc | apply Kd.R_drewN | apply Kd.R_drew)); exact HO_5.out)); (case aS => exact (below_size (by repeat (first | (with_reducible first | exact HB.out | apply below_alloc | apply pw_below_drewN | apply below_drew1) | exact HB.out)))); (case aL => have := LMc32.out; omega); intro v264 w40 ho hb hg hat; rw [← Ny263.out] at ho; have n0_ := Aside0.mk (hb); have n1_ := Aside0.mk (ho); clear HB; clear HO_5; have HB := n0_; have HO265 := n1_; clear n0_ n1_; clear ho hb hg hat))); go_roundg kj5
                  case measure => have := HK1.out; have := HJ5.out; omega
                  case rel => exact ⟨(y263), (x6_1), (ji19), (by first | rfl | (simp; done) | (simp [*]; done)), (by first | rfl | (simp; done) | (simp only [← hji19] <;> (first | rfl | simp)) | (simp [*]; done)), H', ⟨by have := HK1.out; have := HJ5.out; omega⟩, ⟨by (with_reducible repeat (first | apply Kd.R_alloc | apply Kd.R_drewN | apply Kd.R_drew)); exact HO265.out⟩, ⟨by repeat (first | (with_reducible first | exact HB.out | apply below_alloc | apply pw_below_drewN | apply below_drew1) | exact HB.out)⟩⟩
                 ·rw [if_neg c32] at H; exact absurd H (by simp)
                ·rw [if_neg c31] at H; have c31b0 : decide (t262 ≤ t259) = false := decide_eq_false c31; clear c31; have H' := Aside0.mk H; clear H; (try go_wp2); have n0_ := Aside0.mk (Kd.R_drew HO_5.out); have n1_ := Aside0.mk (below_drew1 HB.out); clear HO_5; clear HB; have HO_5 := n0_; have HB := n1_; clear n0_ n1_; obtain ⟨i042, hi042, _, hsz42, _⟩ := info_parts info9; obtain ⟨A42, hcut42, hA42, hC42⟩ := print_drop_of (P := Try.prog) Value.string (⟨#[]⟩ : ByteArray) 23 9 .i64 Try.underlying23 hi042 hsz42 A0 c0 l0 (ji19) (of_decide_eq_true (by assumption)) (of_decide_eq_true (by assumption)) HC0.out; have HR257 := Aside0.mk (Kd.C_of_reads (h1 := fun _ => rfl) (hA42 _ (Kd.reads_of_C HR0.out))); have HC257 := Aside0.mk hC42; clear hA42 hC42 hi042 hsz42; obtain ⟨i043, hi043, _, hsz43, _⟩ := info_parts info9; obtain ⟨A43, hcut43, hA43, hC43⟩ := print_drop_of (P := Try.prog) Value.string (⟨#[]⟩ : ByteArray) 23 9 .i64 Try.underlying23 hi043 hsz43 A1 c1 l1 x6_1 (of_decide_eq_true (by assumption)) (of_decide_eq_true (by assumption)) HC1.out; have HR258 := Aside0.mk (Kd.C_of_reads (h1 := fun _ => rfl) (hA43 _ (Kd.reads_of_C HR1.out))); have HC258 := Aside0.mk hC43; clear hA43 hC43 hi043 hsz43; obtain ⟨i044, hi044, _, hsz44, _⟩ := info_parts info9; obtain ⟨A44, hcut44, hA44, hC44⟩ := print_drop_of (P := Try.prog) Value.string (⟨#[]⟩ : ByteArray) 23 9 .i64 Try.underlying23 hi044 hsz44 A0 c0 l0 x7_1 (of_decide_eq_true (by assumption)) (of_decide_eq_true (by assumption)) HC0.out; have HR260 := Aside0.mk (Kd.C_of_reads (h1 := fun _ => rfl) (hA44 _ (Kd.reads_of_C HR0.out))); have HC260 := Aside0.mk hC44; clear hA44 hC44 hi044 hsz44; obtain ⟨i045, hi045, _, hsz45, _⟩ := info_parts info9; obtain ⟨A45, hcut45, hA45, hC45⟩ := print_drop_of (P := Try.prog) Value.string (⟨#[]⟩ : ByteArray) 23 9 .i64 Try.underlying23 hi045 hsz45 A1 c1 l1 (ji27) (of_decide_eq_true (by assumption)) (of_decide_eq_true (by assumption)) HC1.out; have HR261 := Aside0.mk (Kd.C_of_reads (h1 := fun _ => rfl) (hA45 _ (Kd.reads_of_C HR1.out))); have HC261 := Aside0.mk hC45; clear hA45 hC45 hi045 hsz45; refine start_ (n := 24) (S := fun w' => True) (ds := []) #[f_, f_, f_, f_, f_, f_, f_, f_, f_, f_, f_, f_, f_, f_, f_, f_, f_, f_, f_, f_, f_, f_, f_, f_] (by kernel_rfl) rfl rfl trivial (fun hHeld => ?_); refine with_tabW impl_match.tab8 impl_match.bits8 (fun HT_ HW_ => ?_); generalize wc.drew = w41 at HO_5 HB HR257 HR258 HR260 HR261 hHeld ⊢; refine pure_ (i := 0) (N := some 40) (v := ?_) (a' := ?_) #[t_, f_, f_, f_, f_, f_, f_, f_, f_, f_, f_, f_, f_, f_, f_, f_, f_, f_, f_, f_, f_, f_, f_, f_] rfl rfl (any_of HT_.out (by kernel_rfl)) (fun _ _ _ h => h) (Or.inl ⟨by rfl, ?_⟩) ?_ ?_
                 rotate_left
                 ·intro w'; go_simp
                  with_reducible rfl
                 rotate_left
                 ·simp only [Act.put, List.setIfInBounds_toArray, List.set_cons_zero, List.set_cons_succ, i64_w, i32_w]
                  rfl
                 refine pure_ (i := 1) (N := some 41) (v := ?_) (a' := ?_) #[t_, t_, f_, f_, f_, f_, f_, f_, f_, f_, f_, f_, f_, f_, f_, f_, f_, f_, f_, f_, f_, f_, f_, f_] rfl rfl (any_of HT_.out (by kernel_rfl)) (fun _ _ _ h => h) (Or.inl ⟨by rfl, ?_⟩) ?_ ?_
                 rotate_left
                 ·intro w'; go_simp
                  with_reducible rfl
                 rotate_left
                 ·simp only [Act.put, List.setIfInBounds_toArray, List.set_cons_zero, List.set_cons_succ, i64_w, i32_w]
                  rfl
                 refine pure_ (i := 2) (N := some 42) (v := ?_) (a' := ?_) #[t_, t_, t_, f_, f_, f_, f_, f_, f_, f_, f_, f_, f_, f_, f_, f_, f_, f_, f_, f_, f_, f_, f_, f_] rfl rfl (any_of HT_.out (by kernel_rfl)) (fun _ _ _ h => h) (Or.inl ⟨by rfl, ?_⟩) ?_ ?_
                 rotate_left
                 ·intro w'; go_simp
                  with_reducible rfl
                 rotate_left
                 ·simp only [Act.put, List.setIfInBounds_toArray, List.set_cons_zero, List.set_cons_succ, i64_w, i32_w]
                  rfl
                 refine pure_ (i := 3) (N := some 43) (v := ?_) (a' := ?_) #[t_, t_, t_, t_, f_, f_, f_, f_, f_, f_, f_, f_, f_, f_, f_, f_, f_, f_, f_, f_, f_, f_, f_, f_] rfl rfl (any_of HT_.out (by kernel_rfl)) (fun _ _ _ h => h) (Or.inl ⟨by rfl, ?_⟩) ?_ ?_
                 rotate_left
                 ·intro w'; go_simp
                  with_reducible rfl
                 rotate_left
                 ·simp only [Act.put, List.setIfInBounds_toArray, List.set_cons_zero, List.set_cons_succ, i64_w, i32_w]
                  rfl
                 refine pure_ (i := 4) (N := some 44) (v := ?_) (a' := ?_) #[t_, t_, t_, t_, t_, f_, f_, f_, f_, f_, f_, f_, f_, f_, f_, f_, f_, f_, f_, f_, f_, f_, f_, f_] rfl rfl (any_of HT_.out (by kernel_rfl)) (fun _ _ _ h => h) (Or.inl ⟨by rfl, ?_⟩) ?_ ?_
                 rotate_left
                 ·intro w'; go_simp
                  with_reducible rfl
                 rotate_left
                 ·simp only [Act.put, List.setIfInBounds_toArray, List.set_cons_zero, List.set_cons_succ, i64_w, i32_w]
                  rfl
                 refine pure_ (i := 5) (N := some 45) (v := ?_) (a' := ?_) #[t_, t_, t_, t_, t_, t_, f_, f_, f_, f_, f_, f_, f_, f_, f_, f_, f_, f_, f_, f_, f_, f_, f_, f_] rfl rfl (any_of HT_.out (by kernel_rfl)) (fun _ _ _ h => h) (Or.inl ⟨by rfl, ?_⟩) ?_ ?_
                 rotate_left
                 ·intro w'; go_simp
                  with_reducible rfl
                 rotate_left
                 ·simp only [Act.put, List.setIfInBounds_toArray, List.set_cons_zero, List.set_cons_succ, i64_w, i32_w]
                  rfl
                 refine pure_ (i := 6) (N := some 46) (v := ?_) (a' := ?_) #[t_, t_, t_, t_, t_, t_, t_, f_, f_, f_, f_, f_, f_, f_, f_, f_, f_, f_, f_, f_, f_, f_, f_, f_] rfl rfl (any_of HT_.out (by kernel_rfl)) (fun _ _ _ h => h) (Or.inl ⟨by rfl, ?_⟩) ?_ ?_
                 rotate_left
                 ·intro w'; go_simp
                  with_reducible rfl
                 rotate_left
                 ·simp only [Act.put, List.setIfInBounds_toArray, List.set_cons_zero, List.set_cons_succ, i64_w, i32_w]
                  rfl
                 refine pure_ (i := 7) (N := some 47) (v := ?_) (a' := ?_) #[t_, t_, t_, t_, t_, t_, t_, t_, f_, f_, f_, f_, f_, f_, f_, f_, f_, f_, f_, f_, f_, f_, f_, f_] rfl rfl (any_of HT_.out (by kernel_rfl)) (fun _ _ _ h => h) (Or.inl ⟨by rfl, ?_⟩) ?_ ?_
                 rotate_left
                 ·intro w'; go_simp
                  with_reducible rfl
                 rotate_left
                 ·simp only [Act.put, List.setIfInBounds_toArray, List.set_cons_zero, List.set_cons_succ, i64_w, i32_w]
                  rfl
                 refine pure_ (i := 8) (N := some 48) (v := ?_) (a' := ?_) #[t_, t_, t_, t_, t_, t_, t_, t_, t_, f_, f_, f_, f_, f_, f_, f_, f_, f_, f_, f_, f_, f_, f_, f_] rfl rfl (any_of HT_.out (by kernel_rfl)) (fun _ _ _ h => h) (Or.inl ⟨by rfl, ?_⟩) ?_ ?_
                 rotate_left
                 ·intro w'; go_simp
                  with_reducible rfl
                 rotate_left
                 ·simp only [Act.put, List.setIfInBounds_toArray, List.set_cons_zero, List.set_cons_succ, i64_w, i32_w]
                  rfl
                 refine pure_ (i := 9) (N := some 49) (v := ?_) (a' := ?_) #[t_, t_, t_, t_, t_, t_, t_, t_, t_, t_, f_, f_, f_, f_, f_, f_, f_, f_, f_, f_, f_, f_, f_, f_] rfl rfl (any_of HT_.out (by kernel_rfl)) (fun _ _ _ h => h) (Or.inl ⟨by rfl, ?_⟩) ?_ ?_
                 rotate_left
                 ·intro w'; go_simp
                  with_reducible rfl
                 rotate_left
                 ·simp only [Act.put, List.setIfInBounds_toArray, List.set_cons_zero, List.set_cons_succ, i64_w, i32_w]
                  rfl
                 refine pure_ (i := 10) (N := some 50) (v := ?_) (a' := ?_) #[t_, t_, t_, t_, t_, t_, t_, t_, t_, t_, t_, f_, f_, f_, f_, f_, f_, f_, f_, f_, f_, f_, f_, f_] rfl rfl (any_of HT_.out (by kernel_rfl)) (fun _ _ _ h => h) (Or.inl ⟨by rfl, ?_⟩) ?_ ?_
                 rotate_left
                 ·intro w'; go_simp
                  with_reducible rfl
                 rotate_left
                 ·simp only [Act.put, List.setIfInBounds_toArray, List.set_cons_zero, List.set_cons_succ, i64_w, i32_w]
                  rfl
                 refine pure_ (i := 11) (N := some 51) (v := ?_) (a' := ?_) #[t_, t_, t_, t_, t_, t_, t_, t_, t_, t_, t_, t_, f_, f_, f_, f_, f_, f_, f_, f_, f_, f_, f_, f_] rfl rfl (any_of HT_.out (by kernel_rfl)) (fun _ _ _ h => h) (Or.inl ⟨by rfl, ?_⟩) ?_ ?_
                 rotate_left
                 ·intro w'; go_simp
                  with_reducible rfl
                 rotate_left
                 ·simp only [Act.put, List.setIfInBounds_toArray, List.set_cons_zero, List.set_cons_succ, i64_w, i32_w]
                  rfl
                 refine pure_ (i := 13) (N := some 53) (v := ?_) (a' := ?_) #[t_, t_, t_, t_, t_, t_, t_, t_, t_, t_, t_, t_, f_, t_, f_, f_, f_, f_, f_, f_, f_, f_, f_, f_] rfl rfl (any_of HT_.out (by kernel_rfl)) (fun _ _ _ h => h) (Or.inl ⟨by rfl, ?_⟩) ?_ ?_
                 rotate_left
                 ·intro w'; go_simp
                  with_reducible rfl
                 rotate_left
                 ·simp only [Act.put, List.setIfInBounds_toArray, List.set_cons_zero, List.set_cons_succ, i64_w, i32_w]
                  rfl
                 refine pure_ (i := 14) (N := some 54) (v := ?_) (a' := ?_) #[t_, t_, t_, t_, t_, t_, t_, t_, t_, t_, t_, t_, f_, t_, t_, f_, f_, f_, f_, f_, f_, f_, f_, f_] rfl rfl (any_of HT_.out (by kernel_rfl)) (fun _ _ _ h => h) (Or.inl ⟨by rfl, ?_⟩) ?_ ?_
                 rotate_left
                 ·intro w'; go_simp
                  with_reducible rfl
                 rotate_left
                 ·simp only [Act.put, List.setIfInBounds_toArray, List.set_cons_zero, List.set_cons_succ, i64_w, i32_w]
                  rfl
                 refine pure_ (i := 15) (N := some 55) (v := ?_) (a' := ?_) #[t_, t_, t_, t_, t_, t_, t_, t_, t_, t_, t_, t_, f_, t_, t_, t_, f_, f_, f_, f_, f_, f_, f_, f_] rfl rfl (any_of HT_.out (by kernel_rfl)) (fun _ _ _ h => h) (Or.inl ⟨by rfl, ?_⟩) ?_ ?_
                 rotate_left
                 ·intro w'; go_simp
                  with_reducible rfl
                 rotate_left
                 ·simp only [Act.put, List.setIfInBounds_toArray, List.set_cons_zero, List.set_cons_succ, i64_w, i32_w]
                  rfl
                 refine pure_ (i := 16) (N := some 56) (v := ?_) (a' := ?_) #[t_, t_, t_, t_, t_, t_, t_, t_, t_, t_, t_, t_, f_, t_, t_, t_, t_, f_, f_, f_, f_, f_, f_, f_] rfl rfl (any_of HT_.out (by kernel_rfl)) (fun _ _ _ h => h) (Or.inl ⟨by rfl, ?_⟩) ?_ ?_
                 rotate_left
                 ·intro w'; go_simp
                  with_reducible rfl
                 rotate_left
                 ·simp only [Act.put, List.setIfInBounds_toArray, List.set_cons_zero, List.set_cons_succ, i64_w, i32_w]
                  rfl
                 refine pure_ (i := 17) (N := some 57) (v := ?_) (a' := ?_) #[t_, t_, t_, t_, t_, t_, t_, t_, t_, t_, t_, t_, f_, t_, t_, t_, t_, t_, f_, f_, f_, f_, f_, f_] rfl rfl (any_of HT_.out (by kernel_rfl)) (fun _ _ _ h => h) (Or.inl ⟨by rfl, ?_⟩) ?_ ?_
                 rotate_left
                 ·intro w'; go_simp
                  with_reducible rfl
                 rotate_left
                 ·simp only [Act.put, List.setIfInBounds_toArray, List.set_cons_zero, List.set_cons_succ, i64_w, i32_w]
                  rfl
                 refine pure_ (i := 18) (N := some 58) (v := ?_) (a' := ?_) #[t_, t_, t_, t_, t_, t_, t_, t_, t_, t_, t_, t_, f_, t_, t_, t_, t_, t_, t_, f_, f_, f_, f_, f_] rfl rfl (any_of HT_.out (by kernel_rfl)) (fun _ _ _ h => h) (Or.inl ⟨by rfl, ?_⟩) ?_ ?_
                 rotate_left
                 ·intro w'; go_simp
                  with_reducible rfl
                 rotate_left
                 ·simp only [Act.put, List.setIfInBounds_toArray, List.set_cons_zero, List.set_cons_succ, i64_w, i32_w]
                  rfl
                 refine pure_ (i := 19) (N := some 59) (v := ?_) (a' := ?_) #[t_, t_, t_, t_, t_, t_, t_, t_, t_, t_, t_, t_, f_, t_, t_, t_, t_, t_, t_, t_, f_, f_, f_, f_] rfl rfl (any_of HT_.out (by kernel_rfl)) (fun _ _ _ h => h) (Or.inl ⟨by rfl, ?_⟩) ?_ ?_
                 rotate_left
                 ·intro w'; go_simp
                  with_reducible rfl
                 rotate_left
                 ·simp only [Act.put, List.setIfInBounds_toArray, List.set_cons_zero, List.set_cons_succ, i64_w, i32_w]
                  rfl
                 refine one_ (i := 12) (N := some 52) #[t_, t_, t_, t_, t_, t_, t_, t_, t_, t_, t_, t_, t_, t_, t_, t_, t_, t_, t_, t_, f_, f_, f_, f_] rfl rfl (one_of HT_.out (by kernel_rfl)) (by decide) (fun K hK => ?_); refine goes_ Try.func78 (by kernel_rfl) rfl #[.slice A42 (l0.drop ((ji19) : Int).toNat).length (c0 - (ji19).toNat), .slice A43 (l1.drop (x6_1 : Int).toNat).length (c1 - x6_1.toNat)] (by rfl) rfl rfl (by (try simp only [List.map_toArray, List.map_cons, List.map_nil]); first | done | (rw [show (l0.drop ((ji19) : Int).toNat).length = (l0.length - (ji19).toNat) from List.length_drop] <;> rfl) | (rw [show (l1.drop (x6_1 : Int).toNat).length = (l1.length - x6_1.toNat) from List.length_drop] <;> rfl) | (simp only [hji19]; rfl) | rfl | (simp only [List.length_drop, List.length_take]; rfl)) ?_
                 with_reducible refine (impl_lcs.calls kj5 _ _ (l0.drop ((ji19) : Int).toNat) _ _ (l1.drop (x6_1 : Int).toNat) t259 _ ?side1 ?side2 ?side3 ?side4 A24.out).mono ?_
                 (case side1 => repeat (first | exact (Kd.C_below HR257.out HB.out) | (with_reducible refine Kd.C_alloc ?_ _) | (with_reducible refine Kd.C_drewN ?_ _) | (with_reducible refine Kd.C_drew ?_)))
                 (case side2 => exact HC257.out)
                 (case side3 => repeat (first | exact (Kd.C_below HR258.out HB.out) | (with_reducible refine Kd.C_alloc ?_ _) | (with_reducible refine Kd.C_drewN ?_ _) | (with_reducible refine Kd.C_drew ?_)))
                 (case side4 => exact HC258.out)
                 rintro e w46 ⟨rfl, hb⟩; refine ⟨_, rfl, ?_⟩; have n0_ := Aside0.mk (Kd.R_below (by (with_reducible repeat (first | apply Kd.R_alloc | apply Kd.R_drewN | apply Kd.R_drew)); exact HO_5.out) hb); have n1_ := Aside0.mk (below_step (by repeat (first | (with_reducible first | exact HB.out | apply below_alloc | apply pw_below_drewN | apply below_drew1) | exact HB.out)) hb); clear HO_5; clear HB; have HO_5 := n0_; have HB := n1_; clear n0_ n1_
                 (try clear hb)
                 (try clear hb2)
                 (try clear hk)
                 (try clear hi)
                 refine hK.out _ _ trivial (fun hHeld => ?_); clear hK K; refine norm_ (a' := ?_) ?_ ?_
                 rotate_left
                 ·show Act.put _ (some 52) _ = _
                  simp only [Act.put, List.setIfInBounds_toArray, List.set_cons_zero, List.set_cons_succ, i64_w, i32_w]
                  rfl
                 refine one_ (i := 20) (N := some 60) #[t_, t_, t_, t_, t_, t_, t_, t_, t_, t_, t_, t_, t_, t_, t_, t_, t_, t_, t_, t_, t_, f_, f_, f_] rfl rfl (one_of HT_.out (by kernel_rfl)) (by decide) (fun K hK => ?_); refine goes_ Try.func78 (by kernel_rfl) rfl #[.slice A44 (l0.drop (x7_1 : Int).toNat).length (c0 - x7_1.toNat), .slice A45 (l1.drop ((ji27) : Int).toNat).length (c1 - (ji27).toNat)] (by rfl) rfl rfl (by (try simp only [List.map_toArray, List.map_cons, List.map_nil]); first | done | (rw [show (l0.drop (x7_1 : Int).toNat).length = (l0.length - x7_1.toNat) from List.length_drop] <;> rfl) | (rw [show (l1.drop ((ji27) : Int).toNat).length = (l1.length - (ji27).toNat) from List.length_drop] <;> rfl) | (simp only [hji27]; rfl) | rfl | (simp only [List.length_drop, List.length_take]; rfl)) ?_
                 with_reducible refine (impl_lcs.calls kj5 _ _ (l0.drop (x7_1 : Int).toNat) _ _ (l1.drop ((ji27) : Int).toNat) t262 _ ?side1 ?side2 ?side3 ?side4 A30.out).mono ?_
                 (case side1 => repeat (first | exact (Kd.C_below HR260.out HB.out) | (with_reducible refine Kd.C_alloc ?_ _) | (with_reducible refine Kd.C_drewN ?_ _) | (with_reducible refine Kd.C_drew ?_)))
                 (case side2 => exact HC260.out)
                 (case side3 => repeat (first | exact (Kd.C_below HR261.out HB.out) | (with_reducible refine Kd.C_alloc ?_ _) | (with_reducible refine Kd.C_drewN ?_ _) | (with_reducible refine Kd.C_drew ?_)))
                 (case side4 => exact HC261.out)
                 rintro e w47 ⟨rfl, hb⟩; refine ⟨_, rfl, ?_⟩; have n0_ := Aside0.mk (Kd.R_below (by (with_reducible repeat (first | apply Kd.R_alloc | apply Kd.R_drewN | apply Kd.R_drew)); exact HO_5.out) hb); have n1_ := Aside0.mk (below_step (by repeat (first | (with_reducible first | exact HB.out | apply below_alloc | apply pw_below_drewN | apply below_drew1) | exact HB.out)) hb); clear HO_5; clear HB; have HO_5 := n0_; have HB := n1_; clear n0_ n1_
                 (try clear hb)
                 (try clear hb2)
                 (try clear hk)
                 (try clear hi)
                 refine hK.out _ _ trivial (fun hHeld => ?_); clear hK K; refine norm_ (a' := ?_) ?_ ?_
                 rotate_left
                 ·show Act.put _ (some 60) _ = _
                  simp only [Act.put, List.setIfInBounds_toArray, List.set_cons_zero, List.set_cons_succ, i64_w, i32_w]
                  rfl
                 refine pure_ (i := 21) (N := some 61) (v := ?_) (a' := ?_) #[t_, t_, t_, t_, t_, t_, t_, t_, t_, t_, t_, t_, t_, t_, t_, t_, t_, t_, t_, t_, t_, t_, f_, f_] rfl rfl (any_of HT_.out (by kernel_rfl)) (fun _ _ _ h => h) (Or.inl ⟨by rfl, ?_⟩) ?_ ?_
                 rotate_left
                 ·intro w'; go_simp
                  with_reducible rfl
                 rotate_left
                 ·simp only [Act.put, List.setIfInBounds_toArray, List.set_cons_zero, List.set_cons_succ, i64_w, i32_w]
                  rfl
                 refine pure_ (i := 22) (N := some 62) (v := ?_) (a' := ?_) #[t_, t_, t_, t_, t_, t_, t_, t_, t_, t_, t_, t_, t_, t_, t_, t_, t_, t_, t_, t_, t_, t_, t_, f_] rfl rfl (any_of HT_.out (by kernel_rfl)) (fun _ _ _ h => h) (Or.inl ⟨by rfl, ?_⟩) ?_ ?_
                 rotate_left
                 ·intro w'; go_simp
                  with_reducible rfl
                 rotate_left
                 ·simp only [Act.put, List.setIfInBounds_toArray, List.set_cons_zero, List.set_cons_succ, i64_w, i32_w]
                  rfl
                 refine pure_ (i := 23) (N := some 39) (v := ?_) (a' := ?_) #[t_, t_, t_, t_, t_, t_, t_, t_, t_, t_, t_, t_, t_, t_, t_, t_, t_, t_, t_, t_, t_, t_, t_, t_] rfl rfl (any_of HT_.out (by kernel_rfl)) (fun _ _ _ h => h) (Or.inl ⟨by rfl, ?_⟩) ?_ ?_
                 rotate_left
                 ·intro w'; go_simp
                  with_reducible rfl
                 rotate_left
                 ·simp only [Act.put, List.setIfInBounds_toArray, List.set_cons_zero, List.set_cons_succ, i64_w, i32_w]
                  rfl
                 refine done_ (done_of HT_.out (by kernel_rfl)) ?_; (try go_wp2); go_roundg kj5
                 case measure => have := HK1.out; have := HJ5.out; omega
                 case rel => exact ⟨(x5_1), (ji27), (x7_1), (by first | rfl | (simp; done) | (simp only [← hji27] <;> (first | rfl | simp)) | (simp [*]; done)), (by first | rfl | (simp; done) | (simp [*]; done)), H', ⟨by have := HK1.out; have := HJ5.out; omega⟩, ⟨by (with_reducible repeat (first | apply Kd.R_alloc | apply Kd.R_drewN | apply Kd.R_drew)); exact HO_5.out⟩, ⟨by repeat (first | (with_reducible first | exact HB.out | apply below_alloc | apply pw_below_drewN | apply below_drew1) | exact HB.out)⟩⟩
               ·rw [if_neg c29] at H; exact absurd H (by simp)
              ·rw [if_neg c28] at H; exact absurd H (by simp)
             ·rw [if_neg c26] at H; exact absurd H (by simp)
            ·rw [if_neg c25] at H; exact absurd H (by simp)
           ·rw [if_neg c23] at H; exact absurd H (by simp)
          ·rw [if_neg c22] at H; exact absurd H (by simp)
         ·rw [if_neg c21] at H; exact absurd H (by simp)
        ·rw [if_neg c20] at H; exact absurd H (by simp)
   ·rw [if_neg c5] at H; have c5b0 : decide (x7_1 < (l0.length : Int)) = false := decide_eq_false c5; clear c5; obtain rfl := Option.some.inj H; go_wp2; go_ret; exact ⟨_, by first | rfl | (simp <;> rfl) | (simp [*] <;> rfl), by (with_reducible repeat (first | apply Kd.R_alloc | apply Kd.R_drewN | apply Kd.R_drew)); exact HO_5.out, by repeat (first | (with_reducible first | exact HB.out | apply below_alloc | apply pw_below_drewN | apply below_drew1) | exact HB.out)⟩
end Go.Proofs.Ytfpdkeolecmepaa.Q
end
section
namespace Go.Proofs.Ytfpdkeolecmepaa.Q
open Go.RowKit Go.Proofs.YtfpdkeolecmepaaW.PrintWords Go.Proofs.YtfpdkeolecmepaaW.PrintLast Go.Proofs.YtfpdkeolecmepaaW.PrintMore
attribute [local go_sem] max2_int min2_int max_two min_two max_three min_three max_four min_four   -- for this text's walks alone
set_option linter.unusedVariables false
set_option linter.unusedSimpArgs false
theorem equal0_ev (a b : List ByteArray) (h : a.length = b.length) (hs : a.length ≤ 100000000) : ∀ (d i : Nat), i ≤ a.length → a.length - i = d →
 ∃ r, Ev (fun k => slices_Equal_string_string.l0 k a b (a.length : Int) i) r ∧ (r = true ↔ a.drop i = b.drop i)
 | 0, i, hi, hd => by
  refine ⟨true, Ev.step' ?_, ?_⟩
  ·simp only [slices_Equal_string_string.l0]; exact Ev.negf (by omega) (Ev.now _)
  ·rw [List.drop_eq_nil_of_le (by omega), List.drop_eq_nil_of_le (by omega)]; simp
 | d + 1, i, hi, hd => by
  (have h1 : i < a.length := by omega); (have h2 : i < b.length := by omega); rw [List.drop_eq_getElem_cons h1, List.drop_eq_getElem_cons h2]; by_cases c : a[i].toList = b[i].toList
  ·obtain ⟨r, hr, he⟩ := equal0_ev a b h hs d (i + 1) (by omega) (by omega); refine ⟨r, Ev.step' ?_, ?_⟩
   ·simp only [slices_Equal_string_string.l0]; rw [rdAt h1, rdAt h2, show wrap64 ((i : Int) + 1) = ((i + 1 : Nat) : Int) by rw [w64 (by omega) (by omega)]; omega]; exact Ev.posf (by omega) (Ev.posf (by omega) (Ev.posf (by omega) (Ev.posf (by omega) (Ev.posf c hr))))
   ·rw [he, bstr.mp c]; exact ⟨fun e => by rw [e], fun e => (List.cons.inj e).2⟩
  ·refine ⟨false, Ev.step' ?_, ?_⟩
   ·simp only [slices_Equal_string_string.l0]; rw [rdAt h1, rdAt h2]; exact Ev.posf (by omega) (Ev.posf (by omega) (Ev.posf (by omega) (Ev.posf (by omega) (Ev.negf c (Ev.now _)))))
   ·exact ⟨fun e => (by cases e), fun e => absurd (bstr.mpr (List.cons.inj e).1) c⟩
theorem equal_at (a b : List ByteArray) (hs : a.length ≤ 100000000) : ∃ k, slices_Equal_string_string.f k a b = some (decide (a = b)) := by
 have : ∃ r, Ev (fun k => slices_Equal_string_string.f k a b) r ∧ (r = true ↔ a = b) := by
  unfold slices_Equal_string_string.f
  by_cases h : a.length = b.length
  ·obtain ⟨r, hr, he⟩ := equal0_ev a b h hs _ 0 (by omega) rfl; exact ⟨r, Ev.posf (by omega) hr, by simpa using he⟩
  ·exact ⟨false, Ev.negf (by omega) (Ev.now _), by simp; intro e; exact h (by rw [e])⟩
 obtain ⟨r, hr, he⟩ := this; (have : r = decide (a = b) := by cases r <;> simp_all); subst this; exact hr.rounds
theorem equal_calls (a b : List ByteArray) (hs : a.length ≤ 100000000) (A0 : Option Addr) (c0 : Nat) (A1 : Option Addr) (c1 : Nat) (w : World) (t : Bool) (ht : decide (a = b) = t) (hr0 : Kd.C Kd.string w A0 a.length a) (hc0 : a.length ≤ c0) (hr1 : Kd.C Kd.string w A1 b.length b) (hc1 : b.length ≤ c1) :
 Calls Try.prog 62 #[.slice A0 a.length c0, .slice A1 b.length c1] w fun e w' => e = .returned (.bool t) ∧ Drawn0 w w' := by
 obtain ⟨k, hk⟩ := equal_at a b hs; rw [ht] at hk; exact slices_Equal_string_string.calls k A0 c0 a A1 c1 b t w hr0 hc0 hr1 hc1 hk
set_option maxHeartbeats 4000000 in
set_option maxRecDepth 100000 in
theorem region_calls (w0 w : World) (g : Nat) (v : Value) (ps : List Pt) (N M : Nat) (Ao : Option Addr) (co : Nat) (o : List ByteArray) (Aa : Option Addr) (ca : Nat) (a : List ByteArray) (Ab : Option Addr) (cb : Nat) (b : List ByteArray) (hG : w.heap[g]? = some (.cells #[v] 79 (0, 0))) (hS : Kd.S kPt 31 w w0.heap.size (fun k => M ≤ k) v ps) (hgM : g < M) (hM : M ≤ w.heap.size) (hro : Kd.C Kd.string w Ao o.length o) (hco : o.length ≤ co) (hra : Kd.C Kd.string w Aa a.length a) (hca : a.length ≤ ca) (hrb : Kd.C Kd.string w Ab b.length b) (hcb : b.length ≤ cb) (hB : Below w0.heap.size w0 w) (hg0 : w0.heap.size ≤ g) (hP : smP N ps) (hN : N ≤ 100000000) (hlo : o.length ≤ 1000) (hla : a.length ≤ 1000) (hlb : b.length ≤ 1000) :
 Calls Try.prog 80 #[.pointer (some ⟨g, 0, none⟩), .slice Ao o.length co, .slice Aa a.length ca, .slice Ab b.length cb] w fun e w' => e = .returned (.tuple #[]) ∧ (∃ v', w'.heap[g]? = some (.cells #[v'] 79 (0, 0)) ∧ Kd.S kPt 31 w' w0.heap.size (fun k => M ≤ k) v' (reg ps o a b)) ∧ Below w0.heap.size w0 w' ∧ Kept w w' (fun k => M ≤ k ∨ k = g) := by
 have HG := Aside0.mk hG; have HS := Aside0.mk hS; have HRo := Aside0.mk hro; have HRa := Aside0.mk hra; have HRb := Aside0.mk hrb; have HC := Aside0.mk (And.intro hco (And.intro hca hcb)); have HB := Aside0.mk hB; have HP := Aside0.mk hP; have HL := Aside0.mk (And.intro hlo (And.intro hla hlb)); have HX := Aside0.mk (And.intro hgM (And.intro hM hg0)); have HN := Aside0.mk hN; clear hG hS hro hco hra hca hrb hcb hB hg0 hP hN hlo hla hlb hgM hM; go_enter Try.func80, Try.ntmps80; by_cases e1 : a = o
 ·have q1 : decide (a = o) = true := decide_eq_true e1; have HE := Aside0.mk (show reg ps o a b = res ps b by rw [reg, if_pos (.inl e1)]); clear e1; go_wp2_with (first | (go_at_call 62; with_reducible refine (equal_calls a o (by have := HL.out; omega) _ _ _ _ _ true q1 HRa.out HC.out.2.1 HRo.out HC.out.1).mono ?_; rintro e w' ⟨rfl, nd, rfl⟩) | (go_at_call 81; refine (resolved_calls w0 _ g v ps N M Ab cb b ?s1 ?s2 HX.out.1 ?sM ?s3 HC.out.2.2 ?s4 HX.out.2.2 HP.out HN.out HL.out.2.2).mono ?_; (case sM => exact HX.out.2.1); (case s1 => repeat (first | (with_reducible exact HG.out) | (with_reducible refine blk_drewN ?_ _))); (case s2 => repeat (first | (with_reducible exact HS.out) | (with_reducible refine Kd.S_drewN ?_ _))); (case s3 => repeat (first | (with_reducible exact HRb.out) | (with_reducible refine Kd.C_drewN ?_ _))); (case s4 => repeat (first | (with_reducible exact HB.out) | (with_reducible refine pw_below_drewN ?_ _))); rintro e w' ⟨rfl, ⟨v', hG', hS'⟩, hB', hK'⟩)); go_end0; exact ⟨rfl, ⟨v', hG', by rw [HE.out]; exact hS'⟩, hB', hK'⟩
 ·by_cases e2 : a = b
  ·have q1 : decide (a = o) = false := decide_eq_false e1; have q2 : decide (a = b) = true := decide_eq_true e2; have HE := Aside0.mk (show reg ps o a b = res ps b by rw [reg, if_pos (.inr e2)]); clear e1 e2; go_wp2_with (first | (go_at_call 62; with_reducible refine (equal_calls a o (by have := HL.out; omega) _ _ _ _ _ false q1 HRa.out HC.out.2.1 HRo.out HC.out.1).mono ?_; rintro e w' ⟨rfl, nd, rfl⟩) | (go_at_call 62; with_reducible refine (equal_calls a b (by have := HL.out; omega) _ _ _ _ _ true q2 ?s1 HC.out.2.1 ?s2 HC.out.2.2).mono ?_; (case s1 => repeat (first | (with_reducible exact HRa.out) | (with_reducible refine Kd.C_drewN ?_ _))); (case s2 => repeat (first | (with_reducible exact HRb.out) | (with_reducible refine Kd.C_drewN ?_ _))); rintro e w' ⟨rfl, nd2, rfl⟩) | (go_at_call 81; refine (resolved_calls w0 _ g v ps N M Ab cb b ?s1 ?s2 HX.out.1 ?sM ?s3 HC.out.2.2 ?s4 HX.out.2.2 HP.out HN.out HL.out.2.2).mono ?_; (case sM => exact HX.out.2.1); (case s1 => repeat (first | (with_reducible exact HG.out) | (with_reducible refine blk_drewN ?_ _))); (case s2 => repeat (first | (with_reducible exact HS.out) | (with_reducible refine Kd.S_drewN ?_ _))); (case s3 => repeat (first | (with_reducible exact HRb.out) | (with_reducible refine Kd.C_drewN ?_ _))); (case s4 => repeat (first | (with_reducible exact HB.out) | (with_reducible refine pw_below_drewN ?_ _))); rintro e w' ⟨rfl, ⟨v', hG', hS'⟩, hB', hK'⟩)); go_end0; exact ⟨rfl, ⟨v', hG', by rw [HE.out]; exact hS'⟩, hB', hK'⟩
  ·by_cases e3 : b = o
   ·have q1 : decide (a = o) = false := decide_eq_false e1; have q2 : decide (a = b) = false := decide_eq_false e2; have q3 : decide (b = o) = true := decide_eq_true e3; have HE := Aside0.mk (show reg ps o a b = res ps a by rw [reg, if_neg (fun h => h.elim e1 e2), if_pos e3]); clear e1 e2 e3; go_wp2_with (first | (go_at_call 62; with_reducible refine (equal_calls a o (by have := HL.out; omega) _ _ _ _ _ false q1 HRa.out HC.out.2.1 HRo.out HC.out.1).mono ?_; rintro e w' ⟨rfl, nd, rfl⟩) | (go_at_call 62; with_reducible refine (equal_calls a b (by have := HL.out; omega) _ _ _ _ _ false q2 ?s1 HC.out.2.1 ?s2 HC.out.2.2).mono ?_; (case s1 => repeat (first | (with_reducible exact HRa.out) | (with_reducible refine Kd.C_drewN ?_ _))); (case s2 => repeat (first | (with_reducible exact HRb.out) | (with_reducible refine Kd.C_drewN ?_ _))); rintro e w' ⟨rfl, nd2, rfl⟩) | (go_at_call 62; with_reducible refine (equal_calls b o (by have := HL.out; omega) _ _ _ _ _ true q3 ?s1 HC.out.2.2 ?s2 HC.out.1).mono ?_; (case s1 => repeat (first | (with_reducible exact HRb.out) | (with_reducible refine Kd.C_drewN ?_ _))); (case s2 => repeat (first | (with_reducible exact HRo.out) | (with_reducible refine Kd.C_drewN ?_ _))); rintro e w' ⟨rfl, nd3, rfl⟩) | (go_at_call 81; refine (resolved_calls w0 _ g v ps N M Aa ca a ?s1 ?s2 HX.out.1 ?sM ?s3 HC.out.2.1 ?s4 HX.out.2.2 HP.out HN.out HL.out.2.1).mono ?_; (case sM => exact HX.out.2.1); (case s1 => repeat (first | (with_reducible exact HG.out) | (with_reducible refine blk_drewN ?_ _))); (case s2 => repeat (first | (with_reducible exact HS.out) | (with_reducible refine Kd.S_drewN ?_ _))); (case s3 => repeat (first | (with_reducible exact HRa.out) | (with_reducible refine Kd.C_drewN ?_ _))); (case s4 => repeat (first | (with_reducible exact HB.out) | (with_reducible refine pw_below_drewN ?_ _))); rintro e w' ⟨rfl, ⟨v', hG', hS'⟩, hB', hK'⟩)); go_end0; exact ⟨rfl, ⟨v', hG', by rw [HE.out]; exact hS'⟩, hB', hK'⟩
   ·have q1 : decide (a = o) = false := decide_eq_false e1; have q2 : decide (a = b) = false := decide_eq_false e2; have q3 : decide (b = o) = false := decide_eq_false e3; have HE := Aside0.mk (show reg ps o a b = ps ++ [⟨true, [], o, a, b⟩] by rw [reg, if_neg (fun h => h.elim e1 e2), if_neg e3]); clear e1 e2 e3; go_wp2_with (first | (go_at_call 62; with_reducible refine (equal_calls a o (by have := HL.out; omega) _ _ _ _ _ false q1 HRa.out HC.out.2.1 HRo.out HC.out.1).mono ?_; rintro e w' ⟨rfl, nd, rfl⟩) | (go_at_call 62; with_reducible refine (equal_calls a b (by have := HL.out; omega) _ _ _ _ _ false q2 ?s1 HC.out.2.1 ?s2 HC.out.2.2).mono ?_; (case s1 => repeat (first | (with_reducible exact HRa.out) | (with_reducible refine Kd.C_drewN ?_ _))); (case s2 => repeat (first | (with_reducible exact HRb.out) | (with_reducible refine Kd.C_drewN ?_ _))); rintro e w' ⟨rfl, nd2, rfl⟩) | (go_at_call 62; with_reducible refine (equal_calls b o (by have := HL.out; omega) _ _ _ _ _ false q3 ?s1 HC.out.2.2 ?s2 HC.out.1).mono ?_; (case s1 => repeat (first | (with_reducible exact HRb.out) | (with_reducible refine Kd.C_drewN ?_ _))); (case s2 => repeat (first | (with_reducible exact HRo.out) | (with_reducible refine Kd.C_drewN ?_ _))); rintro e w' ⟨rfl, nd3, rfl⟩))
    obtain ⟨Av, n, cv, rfl, hn⟩ : ∃ Av n cv, v = .slice Av n cv ∧ n = ps.length := by
     obtain ⟨Av, cv, rfl⟩ := Kd.S_slice HS.out; exact ⟨Av, _, cv, rfl, rfl⟩
    obtain ⟨W, hW⟩ : ∃ W, W = w.drewN (nd + nd2 + nd3) := ⟨_, rfl⟩; rw [← hW]; (have hM1 : M ≤ W.heap.size := by rw [hW]; exact HX.out.2.1); have HS1 : Aside0 (Kd.S kPt 31 W.drew w0.heap.size (fun k => M ≤ k ∧ k < W.heap.size) (.slice Av n cv) ps) := ⟨Kd.S_drew (Kd.S_mono (Kd.S_bound (w := W) (by rw [hW]; repeat (first | (with_reducible exact HS.out) | (with_reducible refine Kd.S_drewN ?_ _)))) (fun k hk => ⟨hk.1, hk.2.2.1⟩))⟩; have HG1 : Aside0 (W.drew.heap[g]? = some (.cells #[.slice Av n cv] 79 (0, 0))) := ⟨blk_drew (by rw [hW]; repeat (first | (with_reducible exact HG.out) | (with_reducible refine blk_drewN ?_ _)))⟩; have HB1 : Aside0 (Below w0.heap.size w0 W.drew) := ⟨below_drew1 (by rw [hW]; repeat (first | (with_reducible exact HB.out) | (with_reducible refine pw_below_drewN ?_ _)))⟩; have HRo1 : Aside0 (Kd.C Kd.string W.drew Ao o.length o) := ⟨Kd.C_drew (by rw [hW]; repeat (first | (with_reducible exact HRo.out) | (with_reducible refine Kd.C_drewN ?_ _)))⟩; have HRa1 : Aside0 (Kd.C Kd.string W.drew Aa a.length a) := ⟨Kd.C_drew (by rw [hW]; repeat (first | (with_reducible exact HRa.out) | (with_reducible refine Kd.C_drewN ?_ _)))⟩; have HRb1 : Aside0 (Kd.C Kd.string W.drew Ab b.length b) := ⟨Kd.C_drew (by rw [hW]; repeat (first | (with_reducible exact HRb.out) | (with_reducible refine Kd.C_drewN ?_ _)))⟩; have HK1 : Aside0 (Kept w W.drew (fun k => M ≤ k ∨ k = g)) := ⟨Kept.drew (by rw [hW]; repeat (first | (with_reducible exact Kept.refl _ _) | (with_reducible refine Kept.drewN ?_ _)))⟩; have HM1 : Aside0 (W.heap.size ≤ W.drew.heap.size) := ⟨Nat.le_refl _⟩; have hcg1 : W.drew.cell? ⟨g, 0, none⟩ = some (.slice Av n cv) := (blk_cell HG1.out 0).trans rfl; clear hn; clear HS HG HB HRo HRa HRb; generalize hZ : W.heap.size = Z at HS1 HM1 hM1; refine start_ (n := 17) (S := fun w' => w'.cell? ⟨g, 0, none⟩ = some (.slice Av n cv)) (ds := [16]) #[f_, f_, f_, f_, f_, f_, f_, f_, f_, f_, f_, f_, f_, f_, f_, f_, f_] (by kernel_rfl) rfl rfl (hcg1) (fun hHeld => ?_); generalize W.drew = w1 at HS1 HG1 HB1 HRo1 HRa1 HRb1 HK1 HM1 hcg1 hHeld ⊢; refine pure_ (i := 0) (N := some 8) (v := ?_) (a' := ?_) #[t_, f_, f_, f_, f_, f_, f_, f_, f_, f_, f_, f_, f_, f_, f_, f_, f_] rfl rfl (by kernel_rfl) (fun _ _ _ h => h) (Or.inl ⟨by rfl, ?_⟩) ?_ ?_
    rotate_left
    ·intro w'; go_simp
     with_reducible rfl
    rotate_left
    ·simp only [Act.put, List.setIfInBounds_toArray, List.set_cons_zero, List.set_cons_succ, i64_w, i32_w]
     rfl
    refine pure_ (i := 1) (N := some 9) (v := ?_) (a' := ?_) #[t_, t_, f_, f_, f_, f_, f_, f_, f_, f_, f_, f_, f_, f_, f_, f_, f_] rfl rfl (by kernel_rfl) (fun _ _ _ h => h) (Or.inl ⟨by rfl, ?_⟩) ?_ ?_
    rotate_left
    ·intro w'; go_simp
     with_reducible rfl
    rotate_left
    ·simp only [Act.put, List.setIfInBounds_toArray, List.set_cons_zero, List.set_cons_succ, i64_w, i32_w]
     rfl
    refine pure_ (i := 2) (N := some 10) (v := ?_) (a' := ?_) #[t_, t_, t_, f_, f_, f_, f_, f_, f_, f_, f_, f_, f_, f_, f_, f_, f_] rfl rfl (by kernel_rfl) (fun _ _ _ h => h) (Or.inl ⟨by rfl, ?_⟩) ?_ ?_
    rotate_left
    ·intro w'; go_simp
     with_reducible rfl
    rotate_left
    ·simp only [Act.put, List.setIfInBounds_toArray, List.set_cons_zero, List.set_cons_succ, i64_w, i32_w]
     rfl
    refine pure_ (i := 3) (N := some 11) (v := ?_) (a' := ?_) #[t_, t_, t_, t_, f_, f_, f_, f_, f_, f_, f_, f_, f_, f_, f_, f_, f_] rfl rfl (by kernel_rfl) (fun _ _ _ h => h) (Or.inl ⟨by rfl, ?_⟩) ?_ ?_
    rotate_left
    ·intro w'; go_simp
     with_reducible rfl
    rotate_left
    ·simp only [Act.put, List.setIfInBounds_toArray, List.set_cons_zero, List.set_cons_succ, i64_w, i32_w]
     rfl
    refine pure_ (i := 5) (N := some 13) (v := ?_) (a' := ?_) #[t_, t_, t_, t_, f_, t_, f_, f_, f_, f_, f_, f_, f_, f_, f_, f_, f_] rfl rfl (by kernel_rfl) (fun _ _ _ h => h) (Or.inl ⟨by rfl, ?_⟩) ?_ ?_
    rotate_left
    ·intro w'; go_simp
     with_reducible rfl
    rotate_left
    ·simp only [Act.put, List.setIfInBounds_toArray, List.set_cons_zero, List.set_cons_succ, i64_w, i32_w]
     rfl
    refine pure_ (i := 7) (N := some 15) (v := ?_) (a' := ?_) #[t_, t_, t_, t_, f_, t_, f_, t_, f_, f_, f_, f_, f_, f_, f_, f_, f_] rfl rfl (by kernel_rfl) (fun _ _ _ h => h) (Or.inl ⟨by rfl, ?_⟩) ?_ ?_
    rotate_left
    ·intro w'; go_simp
     with_reducible rfl
    rotate_left
    ·simp only [Act.put, List.setIfInBounds_toArray, List.set_cons_zero, List.set_cons_succ, i64_w, i32_w]
     rfl
    refine pure_ (i := 9) (N := some 17) (v := ?_) (a' := ?_) #[t_, t_, t_, t_, f_, t_, f_, t_, f_, t_, f_, f_, f_, f_, f_, f_, f_] rfl rfl (by kernel_rfl) (fun _ _ _ h => h) (Or.inl ⟨by rfl, ?_⟩) ?_ ?_
    rotate_left
    ·intro w'; go_simp
     with_reducible rfl
    rotate_left
    ·simp only [Act.put, List.setIfInBounds_toArray, List.set_cons_zero, List.set_cons_succ, i64_w, i32_w]
     rfl
    refine take_ (i := 4) (N := some 12) (v := ?_) (a' := ?_) #[t_, t_, t_, t_, t_, t_, f_, t_, f_, t_, f_, f_, f_, f_, f_, f_, f_] rfl rfl (by kernel_rfl) (fun _ _ _ h => h) (Or.inl ⟨by rfl, ?_⟩) hHeld ?_ ?_
    rotate_left
    ·intro w' s0; go_simp
     with_reducible rfl
    rotate_left
    ·simp only [Act.put, List.setIfInBounds_toArray, List.set_cons_zero, List.set_cons_succ, i64_w, i32_w]
     rfl
    refine one_ (i := 6) (N := some 14) #[t_, t_, t_, t_, t_, t_, t_, t_, f_, t_, f_, f_, f_, f_, f_, f_, f_] rfl rfl (by kernel_rfl) (by decide) (fun K hK => ?_); refine goes_ Try.func65 (by kernel_rfl) rfl #[.slice Ao o.length co] (by rfl) rfl rfl (by simp only [List.map_toArray, List.map_cons, List.map_nil]; rfl) ?_
    with_reducible refine (slices_Clone_string_string.calls Ao co o o w1 HRo1.out HC.out.1 (by have := HL.out; unfold slices_Clone_string_string.f; rw [if_pos (by omega)])).mono ?_
    rintro e w3 ⟨vo, rfl, ho, hb⟩; refine ⟨_, rfl, ?_⟩; have HOo := Aside0.mk (Kd.R_lower (Kd.R_mono (Kd.R_bound ho) (fun k hk => Nat.le_trans HM1.out hk.2.1)) (below_size HB1.out)); have HS3 := Aside0.mk (Kd.S_below HS1.out hb); have HG3 := Aside0.mk (blk_below HG1.out hb); have HB3 := Aside0.mk (below_step HB1.out hb); have HK3 := Aside0.mk (HK1.out.below hb); have HM3 := Aside0.mk (Nat.le_trans HM1.out hb.size); have HRa3 := Aside0.mk (Kd.C_below HRa1.out hb); have HRb3 := Aside0.mk (Kd.C_below HRb1.out hb); have hcg3 : w3.cell? ⟨g, 0, none⟩ = some (.slice Av n cv) := (blk_cell HG3.out 0).trans rfl; obtain ⟨Bo, d_o, rfl⟩ := Kd.R_slice HOo.out; clear hb ho HS1 HG1 HB1 HK1 HM1 hcg1 hHeld HRo1 HRa1 HRb1; refine hK.out _ _ (hcg3) (fun hHeld => ?_); clear hK K; refine norm_ (a' := ?_) ?_ ?_
    rotate_left
    ·show Act.put _ (some 14) _ = _
     simp only [Act.put, List.setIfInBounds_toArray, List.set_cons_zero, List.set_cons_succ, i64_w, i32_w]
     rfl
    refine one_ (i := 8) (N := some 16) #[t_, t_, t_, t_, t_, t_, t_, t_, t_, t_, f_, f_, f_, f_, f_, f_, f_] rfl rfl (by kernel_rfl) (by decide) (fun K hK => ?_); refine goes_ Try.func65 (by kernel_rfl) rfl #[.slice Aa a.length ca] (by rfl) rfl rfl (by simp only [List.map_toArray, List.map_cons, List.map_nil]; rfl) ?_
    with_reducible refine (slices_Clone_string_string.calls Aa ca a a w3 HRa3.out HC.out.2.1 (by have := HL.out; unfold slices_Clone_string_string.f; rw [if_pos (by omega)])).mono ?_
    rintro e w4 ⟨va, rfl, ho, hb⟩; refine ⟨_, rfl, ?_⟩; have HOa := Aside0.mk (Kd.R_lower (Kd.R_mono (Kd.R_bound ho) (fun k hk => Nat.le_trans HM3.out hk.2.1)) (below_size HB3.out)); have HS4 := Aside0.mk (Kd.S_below HS3.out hb); have HG4 := Aside0.mk (blk_below HG3.out hb); have HB4 := Aside0.mk (below_step HB3.out hb); have HK4 := Aside0.mk (HK3.out.below hb); have HM4 := Aside0.mk (Nat.le_trans HM3.out hb.size); have HRb4 := Aside0.mk (Kd.C_below HRb3.out hb); replace HOo := Aside0.mk (Kd.R_below HOo.out hb); have hcg4 : w4.cell? ⟨g, 0, none⟩ = some (.slice Av n cv) := (blk_cell HG4.out 0).trans rfl; obtain ⟨Ba, d_a, rfl⟩ := Kd.R_slice HOa.out; clear hb ho HS3 HG3 HB3 HK3 HM3 hcg3 hHeld HRa3 HRb3; refine hK.out _ _ (hcg4) (fun hHeld => ?_); clear hK K; refine norm_ (a' := ?_) ?_ ?_
    rotate_left
    ·show Act.put _ (some 16) _ = _
     simp only [Act.put, List.setIfInBounds_toArray, List.set_cons_zero, List.set_cons_succ, i64_w, i32_w]
     rfl
    refine one_ (i := 10) (N := some 18) #[t_, t_, t_, t_, t_, t_, t_, t_, t_, t_, t_, f_, f_, f_, f_, f_, f_] rfl rfl (by kernel_rfl) (by decide) (fun K hK => ?_); refine goes_ Try.func65 (by kernel_rfl) rfl #[.slice Ab b.length cb] (by rfl) rfl rfl (by simp only [List.map_toArray, List.map_cons, List.map_nil]; rfl) ?_
    with_reducible refine (slices_Clone_string_string.calls Ab cb b b w4 HRb4.out HC.out.2.2 (by have := HL.out; unfold slices_Clone_string_string.f; rw [if_pos (by omega)])).mono ?_
    rintro e w5 ⟨vb, rfl, ho, hb⟩; refine ⟨_, rfl, ?_⟩; have HOb := Aside0.mk (Kd.R_lower (Kd.R_mono (Kd.R_bound ho) (fun k hk => Nat.le_trans HM4.out hk.2.1)) (below_size HB4.out)); have HS5 := Aside0.mk (Kd.S_below HS4.out hb); have HG5 := Aside0.mk (blk_below HG4.out hb); have HB5 := Aside0.mk (below_step HB4.out hb); have HK5 := Aside0.mk (HK4.out.below hb); have HM5 := Aside0.mk (Nat.le_trans HM4.out hb.size); replace HOo := Aside0.mk (Kd.R_below HOo.out hb); replace HOa := Aside0.mk (Kd.R_below HOa.out hb); have hcg5 : w5.cell? ⟨g, 0, none⟩ = some (.slice Av n cv) := (blk_cell HG5.out 0).trans rfl; obtain ⟨Bb, d_b, rfl⟩ := Kd.R_slice HOb.out; clear hb ho HS4 HG4 HB4 HK4 HM4 hcg4 hHeld HRb4; refine hK.out _ _ (hcg5) (fun hHeld => ?_); clear hK K; refine norm_ (a' := ?_) ?_ ?_
    rotate_left
    ·show Act.put _ (some 18) _ = _
     simp only [Act.put, List.setIfInBounds_toArray, List.set_cons_zero, List.set_cons_succ, i64_w, i32_w]
     rfl
    refine pure_ (i := 11) (N := some 19) (v := ?_) (a' := ?_) #[t_, t_, t_, t_, t_, t_, t_, t_, t_, t_, t_, t_, f_, f_, f_, f_, f_] rfl rfl (by kernel_rfl) (fun _ _ _ h => h) (Or.inl ⟨by rfl, ?_⟩) ?_ ?_
    rotate_left
    ·intro w'; go_simp
     with_reducible rfl
    rotate_left
    ·simp only [Act.put, List.setIfInBounds_toArray, List.set_cons_zero, List.set_cons_succ, i64_w, i32_w]
     rfl
    refine one_ (i := 12) (N := some 20) #[t_, t_, t_, t_, t_, t_, t_, t_, t_, t_, t_, t_, t_, f_, f_, f_, f_] rfl rfl (by kernel_rfl) (by decide) (fun K hK => ?_); refine value_ (w1 := ?_) (v := ?_) (by rfl) rfl ?_ ?_
    rotate_left 2
    ·go_simp
     constructor
     ·rfl
     ·rfl
    refine hK.out _ _ ((World.cell?_alloc_lt _ _ _ (World.block_lt_of_cell? _ _ hcg5)).trans hcg5) (fun hHeld => ?_); clear hK K; refine norm_ (a' := ?_) ?_ ?_
    rotate_left
    ·show Act.put _ (some 20) _ = _
     simp only [Act.put, List.setIfInBounds_toArray, List.set_cons_zero, List.set_cons_succ, i64_w, i32_w]
     rfl
    refine one_ (i := 13) (N := some 21) #[t_, t_, t_, t_, t_, t_, t_, t_, t_, t_, t_, t_, t_, t_, f_, f_, f_] rfl rfl (by kernel_rfl) (by decide) (fun K hK => ?_); refine Kd.S_append_step kPt (w0 := w0) w0.heap.size (by rfl) (.tmp 12) (.tmp 20) 26 31 (.agg #[.bool false, .slice none 0 0, .slice none 0 0, .slice none 0 0, .slice none 0 0]) 104 rfl Try.underlying26 infoPt rfl (by decide) (by omega) (.slice Av n cv) ps (⟨true, [], o, a, b⟩ : Pt) [.bool true, .slice none 0 0, .slice Bo o.length d_o, .slice Ba a.length d_a, .slice Bb b.length d_b] (fun k => M ≤ k) (fun k => Z ≤ k) rfl rfl ?aP (fun k hk => ⟨Nat.le_trans hM1 hk, fun h2 => Nat.lt_irrefl _ (Nat.lt_of_lt_of_le ((Kd.S_R HS5.out).1 k h2.symm).2 hk)⟩) (fun k hk => Nat.le_trans hM1 (Nat.le_trans HM5.out hk)) ?aO HB5.out (below_size HB5.out) ?aL ?_
    (case aP => exact ⟨_, _, _, _, rfl, Kd.R_nil _ _ _ _ _, Kd.R_mono HOo.out (fun k hk => ⟨hk, by simp [Value.ownBlock]⟩), Kd.R_mono HOa.out (fun k hk => ⟨hk, by simp [Value.ownBlock]⟩), Kd.R_mono HOb.out (fun k hk => ⟨hk, by simp [Value.ownBlock]⟩)⟩)
    (case aO => exact Kd.S_mono HS5.out (fun k hk => ⟨hk.1, Nat.not_le.mpr hk.2⟩))
    (case aL => have h1 := HP.out.1; have h2 := HN.out; omega)
    intro v6 w6 ho hb hg hat; obtain ⟨A6, n6, c6, rfl⟩ : ∃ A n c, v6 = .slice A n c := (by obtain ⟨A6, c6, h6⟩ := Kd.S_slice ho; exact ⟨A6, _, c6, h6⟩); have HG6 := Aside0.mk (blk_grown HG5.out hg (fun h => by have := (Kd.S_R HS5.out).1 g h.symm; have := HX.out.1; omega)); have HK6 := Aside0.mk (Kept.of_grown hg HK5.out (fun k hk => by have := (Kd.S_R HS5.out).1 k hk; exact .inl (.inl this.1))); have hcg6 : w6.cell? ⟨g, 0, none⟩ = some (.slice Av n cv) := (blk_cell HG6.out 0).trans rfl; have hzg6 : w6.frozen? ⟨g, 0, none⟩ = false := blk_frozen HG6.out 0; refine hK.out _ _ (hcg6) (fun hHeld => ?_); clear hK K; refine norm_ (a' := ?_) ?_ ?_
    rotate_left
    ·show Act.put _ (some 21) _ = _
     simp only [Act.put, List.setIfInBounds_toArray, List.set_cons_zero, List.set_cons_succ, i64_w, i32_w]
     rfl
    refine pure_ (i := 14) (N := some 22) (v := ?_) (a' := ?_) #[t_, t_, t_, t_, t_, t_, t_, t_, t_, t_, t_, t_, t_, t_, t_, f_, f_] rfl rfl (by kernel_rfl) (fun _ _ _ h => h) (Or.inl ⟨by rfl, ?_⟩) ?_ ?_
    rotate_left
    ·intro w'; go_simp
     with_reducible rfl
    rotate_left
    ·simp only [Act.put, List.setIfInBounds_toArray, List.set_cons_zero, List.set_cons_succ, i64_w, i32_w]
     rfl
    refine pure_ (i := 15) (N := some 23) (v := ?_) (a' := ?_) #[t_, t_, t_, t_, t_, t_, t_, t_, t_, t_, t_, t_, t_, t_, t_, t_, f_] rfl rfl (by kernel_rfl) (fun _ _ _ h => h) (Or.inl ⟨by rfl, ?_⟩) ?_ ?_
    rotate_left
    ·intro w'; go_simp
     with_reducible rfl
    rotate_left
    ·simp only [Act.put, List.setIfInBounds_toArray, List.set_cons_zero, List.set_cons_succ, i64_w, i32_w]
     rfl
    refine last_ (i := 16) (N := none) #[t_, t_, t_, t_, t_, t_, t_, t_, t_, t_, t_, t_, t_, t_, t_, t_, t_] rfl rfl (by kernel_rfl) (by decide) (fun K hK => ?_); refine skip_ (w1 := ?_) (by rfl) rfl ?_ ?_
    rotate_left
    ·go_simp
     rfl
    refine hK.out _ _ ?_; clear hK K; refine done_ (by kernel_rfl) ?_; go_wp2; go_end0; exact ⟨rfl, ⟨_, (blk_set HG6.out 0 _).trans rfl, by rw [HE.out]; exact Kd.S_far ho (fun k hk => by have := HX.out.1; show k ≠ g; omega) _⟩, below_set hb HX.out.2.2, HK6.out.setCell (.inl (.inr rfl)) _⟩
theorem region_callsN (w0 w : World) (g : Nat) (v : Value) (ps : List Pt) (N M : Nat) (Ao : Option Addr) (no co : Nat) (o : List ByteArray) (Aa : Option Addr) (na ca : Nat) (a : List ByteArray) (Ab : Option Addr) (nb cb : Nat) (b : List ByteArray) (hno : no = o.length) (hna : na = a.length) (hnb : nb = b.length) (hG : w.heap[g]? = some (.cells #[v] 79 (0, 0))) (hS : Kd.S kPt 31 w w0.heap.size (fun k => M ≤ k) v ps) (hgM : g < M) (hM : M ≤ w.heap.size) (hro : Kd.C Kd.string w Ao o.length o) (hco : o.length ≤ co) (hra : Kd.C Kd.string w Aa a.length a) (hca : a.length ≤ ca) (hrb : Kd.C Kd.string w Ab b.length b) (hcb : b.length ≤ cb) (hB : Below w0.heap.size w0 w) (hg0 : w0.heap.size ≤ g) (hP : smP N ps) (hN : N ≤ 100000000) (hlo : o.length ≤ 1000) (hla : a.length ≤ 1000) (hlb : b.length ≤ 1000) :
 Calls Try.prog 80 #[.pointer (some ⟨g, 0, none⟩), .slice Ao no co, .slice Aa na ca, .slice Ab nb cb] w fun e w' => e = .returned (.tuple #[]) ∧ (∃ v', w'.heap[g]? = some (.cells #[v'] 79 (0, 0)) ∧ Kd.S kPt 31 w' w0.heap.size (fun k => M ≤ k) v' (reg ps o a b)) ∧ Below w0.heap.size w0 w' ∧ Kept w w' (fun k => M ≤ k ∨ k = g) := by
 subst hno hna hnb; exact region_calls w0 w g v ps N M Ao co o Aa ca a Ab cb b hG hS hgM hM hro hco hra hca hrb hcb hB hg0 hP hN hlo hla hlb
end Go.Proofs.Ytfpdkeolecmepaa.Q
end
section
namespace Go.Proofs.Ytfpdkeolecmepaa.Q
open Go.RowKit Go.Proofs.YtfpdkeolecmepaaW.PrintWords Go.Proofs.YtfpdkeolecmepaaW.PrintLast Go.Proofs.YtfpdkeolecmepaaW.PrintMore
attribute [local go_sem] max2_int min2_int max_two min_two max_three min_three max_four min_four   -- for this text's walks alone
set_option linter.unusedVariables false
set_option linter.unusedSimpArgs false
def impl_merge.f (k : Nat) (l0 l1 l2 : List ByteArray) : Option (List Pt) := (impl_match.f k l0 l1).bind fun mA => (impl_match.f k l0 l2).bind fun mB => mgG l0 l1 l2 mA mB
set_option maxHeartbeats 4000000 in
set_option maxRecDepth 100000 in
theorem impl_merge.calls (k : Nat) (A0 : Option Addr) (c0 : Nat) (l0 : List ByteArray) (A1 : Option Addr) (c1 : Nat) (l1 : List ByteArray) (A2 : Option Addr) (c2 : Nat) (l2 : List ByteArray) (r : List Pt) (w : World) (hr0 : Kd.C Kd.string w A0 l0.length l0) (hc0 : l0.length ≤ c0) (hr1 : Kd.C Kd.string w A1 l1.length l1) (hc1 : l1.length ≤ c1) (hr2 : Kd.C Kd.string w A2 l2.length l2) (hc2 : l2.length ≤ c2) (h : impl_merge.f k l0 l1 l2 = some r) :
 Calls Try.prog 49 #[.slice A0 l0.length c0, .slice A1 l1.length c1, .slice A2 l2.length c2] w fun e w' => ∃ v0_ : Value, e = .returned (v0_) ∧ Kd.S k31 31 w' w.heap.size (fun _ => True) v0_ r ∧ Below w.heap.size w w' := by
 obtain ⟨mA, hA, h⟩ := Option.bind_eq_some_iff.mp h; obtain ⟨mB, hB, h⟩ := Option.bind_eq_some_iff.mp h
 unfold mgG at h
 by_cases hG : mA.length = l0.length ∧ mB.length = l0.length ∧ l0.length ≤ 1000 ∧ l1.length ≤ 1000 ∧ l2.length ≤ 1000
 case neg => rw [if_neg hG] at h; cases h
 rw [if_pos hG] at h; obtain ⟨hlA, hlB, hl0, hl1, hl2⟩ := hG; have HR := Aside0.mk (And.intro hr0 (And.intro hr1 hr2)); have HC := Aside0.mk (And.intro hc0 (And.intro hc1 hc2)); have HA := Aside0.mk hA; have HB := Aside0.mk hB; have HM := Aside0.mk h; have HL := Aside0.mk (And.intro hlA (And.intro hlB (And.intro hl0 (And.intro hl1 hl2)))); clear hr0 hr1 hr2 hc0 hc1 hc2 hA hB h hlA hlB hl0 hl1 hl2; go_enter Try.func49, Try.ntmps49; go_wp2_with (first | (go_at_call 79; with_reducible refine (impl_match.calls k A0 c0 l0 A1 c1 l1 mA _ HR.out.1 HC.out.1 HR.out.2.1 HC.out.2.1 HA.out).mono ?_; rintro e w1 ⟨vA, rfl, hoA, hb1⟩) | (go_at_call 79; with_reducible refine (impl_match.calls k A0 c0 l0 A2 c2 l2 mB _ (Kd.C_below HR.out.1 hb1) HC.out.1 (Kd.C_below HR.out.2.2 hb1) HC.out.2.2 HB.out).mono ?_; rintro e w2 ⟨vB, rfl, hoB, hb2⟩)); obtain ⟨Ba, ca, rfl⟩ := Kd.R_slice hoA; obtain ⟨Bb, cb, rfl⟩ := Kd.R_slice hoB; obtain ⟨na, hna⟩ : ∃ na, na = mA.length := ⟨_, rfl⟩; obtain ⟨nb, hnb⟩ : ∃ nb, nb = mB.length := ⟨_, rfl⟩; rw [← hna, ← hnb]; rw [← hna] at hoA; rw [← hnb] at hoB; have hbw2 : Below w.heap.size w w2 := below_step hb1 hb2; obtain ⟨g, hg⟩ : ∃ g, g = w2.heap.size := ⟨_, rfl⟩; obtain ⟨wl, hwl⟩ : ∃ wl, wl = w2.alloc (.cells #[.slice none 0 0] 79) := ⟨_, rfl⟩; (have hgl : g < wl.heap.size := by rw [hwl, hg]; simp); (have hgw : w.heap.size ≤ g := by rw [hg]; exact hbw2.size); have HG0 : Aside0 (wl.heap[g]? = some (.cells #[.slice none 0 0] 79 (0, 0))) := ⟨by rw [hwl, hg]; exact blk_new _ _⟩; have HBl : Aside0 (Below w.heap.size w wl) := ⟨by rw [hwl]; exact below_alloc hbw2 _⟩; have HOA : Aside0 (Kd.R (Kd.int .i64) 3 wl w.heap.size (fun k => k < g) (.slice Ba na ca) mA) := ⟨by rw [hwl, hg]; exact Kd.R_alloc (Kd.R_mono (Kd.R_bound (Kd.R_below hoA hb2)) (fun k hk => hk.2.2.1)) _⟩; have HOB : Aside0 (Kd.R (Kd.int .i64) 3 wl w.heap.size (fun k => k < g) (.slice Bb nb cb) mB) := ⟨by rw [hwl, hg]; exact Kd.R_alloc (Kd.R_lower (Kd.R_mono (Kd.R_bound hoB) (fun k hk => hk.2.2.1)) hb1.size) _⟩; rw [← hwl, ← hg]; clear hoA hoB hb1 hb2 hbw2 hg hwl; clear w1 w2; have HNA := Aside0.mk hna; have HNB := Aside0.mk hnb; have HGL := Aside0.mk (And.intro hgl hgw); clear hna hnb hgl hgw; go_loopg [10, 11, 12, 24] l0.length (fun gg s10 s11 s12 s24 wr => ∃ (n i j k : Nat) (v : Value) (ps : List Pt), s10 = .int .i64 i ∧ s11 = .int .i64 j ∧ s12 = .int .i64 k ∧ s24 = .int .i64 n ∧ n ≤ l0.length ∧ l0.length - n ≤ gg ∧ i ≤ n ∧ Aside0 (mgO l0 l1 l2 mA mB (l0.length - n) i j k ps = some r) ∧ Aside0 (smP (2000 * n) ps) ∧ Aside0 (wr.heap[g]? = some (.cells #[v] 79 (0, 0))) ∧ Aside0 (Kd.S kPt 31 wr w.heap.size (fun k => wl.heap.size ≤ k) v ps) ∧ Aside0 (Below w.heap.size w wr) ∧ Aside0 (Kept wl wr (fun k => wl.heap.size ≤ k ∨ k = g)))
 case atStart => exact ⟨0, 0, 0, 0, _, [], rfl, rfl, rfl, rfl, Nat.zero_le _, by omega, Nat.le_refl _, ⟨HM.out⟩, ⟨⟨by simp, by simp⟩⟩, HG0, ⟨Kd.S_nil _ _ _ _ _⟩, HBl, ⟨Kept.refl _ _⟩⟩
 case round =>
  clear HG0 HBl HM; obtain ⟨n, i, j, k, v, ps, rfl, rfl, rfl, rfl, hn, hgg, hin, HM, HP, HG, HS, HBr, HK⟩ := hrel; have HRr : Aside0 (Kd.C Kd.string wr A0 l0.length l0 ∧ Kd.C Kd.string wr A1 l1.length l1 ∧ Kd.C Kd.string wr A2 l2.length l2) := ⟨Kd.C_below HR.out.1 HBr.out, Kd.C_below HR.out.2.1 HBr.out, Kd.C_below HR.out.2.2 HBr.out⟩; have HOAr : Aside0 (Kd.R (Kd.int .i64) 3 wr w.heap.size (fun k => k < g) (.slice Ba na ca) mA) := ⟨Kd.R_kept HOA.out HK.out (fun k hk h => by have := HGL.out; rcases h with h | h <;> omega)⟩; have HOBr : Aside0 (Kd.R (Kd.int .i64) 3 wr w.heap.size (fun k => k < g) (.slice Bb nb cb) mB) := ⟨Kd.R_kept HOB.out HK.out (fun k hk h => by have := HGL.out; rcases h with h | h <;> omega)⟩; by_cases hlt : n < l0.length
  ·(have hltz : (n : Int) < (l0.length : Int) := by omega); (have hlta : (n : Int) < (na : Int) := by have := HNA.out; have := HL.out; omega); (have hltb : (n : Int) < (nb : Int) := by have := HNB.out; have := HL.out; omega); (have hz : (0 : Int) ≤ (n : Int) := by omega); obtain ⟨ad0, ea0, hcs⟩ := Kd.at_string HRr.out.1 (n : Int) hz hltz; cases ea0; obtain ⟨adA, eaA, hcA⟩ := Kd.at_int (Kd.R_reads' HOAr.out).2.2 (n : Int) hz (by have := HNA.out; omega); cases eaA; obtain ⟨adB, eaB, hcB⟩ := Kd.at_int (Kd.R_reads' HOBr.out).2.2 (n : Int) hz (by have := HNB.out; omega); cases eaB; have exA : rd mA (n : Int) = mA.getD n 0 := rfl; have exB : rd mB (n : Int) = mB.getD n 0 := rfl; rw [exA] at hcA; rw [exB] at hcB; simp only [Int.toNat_natCast] at hcs hcA hcB; obtain ⟨xa, hxa⟩ : ∃ xa, xa = mA.getD n 0 := ⟨_, rfl⟩; obtain ⟨xb, hxb⟩ : ∃ xb, xb = mB.getD n 0 := ⟨_, rfl⟩; have HXA := Aside0.mk hxa; have HXB := Aside0.mk hxb; have HM2 := mgO_at hlt HM.out; rw [← hxa, ← hxb] at HM2; rw [← hxa] at hcA; rw [← hxb] at hcB; (have hwn : wrap64 ((n : Int) + 1) = ((n + 1 : Nat) : Int) := by have := HL.out; rw [w64 (by omega) (by omega)]; omega); clear hxa hxb exA exB HM
   rcases HM2 with ⟨c, HM2⟩ | ⟨y1, y2, j1, j2, k1, k2, HM2⟩
   ·have HM3 := Aside0.mk HM2; clear HM2; by_cases y1 : xa < 0
    ·clear c; go_wp2; go_roundg (l0.length - (n + 1))
     case measure => omega
     case rel => exact ⟨n + 1, i, j, k, v, ps, rfl, rfl, rfl, by go_num, hlt, by omega, by omega, HM3, ⟨by have := HP.out; exact smP_up2 this⟩, HG, HS, HBr, HK⟩
    ·have y2 : xb < 0 := c.elim (fun h => absurd h y1) id; clear c; go_wp2; go_roundg (l0.length - (n + 1))
     case measure => omega
     case rel => exact ⟨n + 1, i, j, k, v, ps, rfl, rfl, rfl, by go_num, hlt, by omega, by omega, HM3, ⟨by have := HP.out; exact smP_up2 this⟩, HG, HS, HBr, HK⟩
   ·have HM3 := Aside0.mk HM2; clear HM2; obtain ⟨ja, rfl⟩ : ∃ ja : Nat, xa = ja := ⟨xa.toNat, by omega⟩; obtain ⟨jb, rfl⟩ : ∃ jb : Nat, xb = jb := ⟨xb.toNat, by omega⟩; simp only [Int.toNat_natCast] at j1 j2 k1 k2; have HY := Aside0.mk (And.intro j1 (And.intro j2 (And.intro k1 k2))); (have z1 : (i : Int) ≤ (n : Int) := by omega); (have z2 : (n : Int) ≤ (c0 : Int) := by have := HC.out.1; omega); (have z3 : (j : Int) ≤ (ja : Int) := by omega); (have z4 : (ja : Int) ≤ (c1 : Int) := by have := HC.out.2.1; omega); (have z5 : (k : Int) ≤ (jb : Int) := by omega); (have z6 : (jb : Int) ≤ (c2 : Int) := by have := HC.out.2.2; omega); clear j1 j2 k1 k2; go_wp2; have HG2 := Aside0.mk (blk_drew HG.out); have HS2 := Aside0.mk (Kd.S_drew HS.out); have HB2 := Aside0.mk (below_drew1 HBr.out); have HK2 : Aside0 (Kept wl wr.drew (fun k => wl.heap.size ≤ k ∨ k = g)) := ⟨HK.out.drew⟩; have HR2 : Aside0 (Kd.C Kd.string wr.drew (some ad0) l0.length l0 ∧ Kd.C Kd.string wr.drew A1 l1.length l1 ∧ Kd.C Kd.string wr.drew A2 l2.length l2) := ⟨Kd.C_drew HRr.out.1, Kd.C_drew HRr.out.2.1, Kd.C_drew HRr.out.2.2⟩; have HOA2 := Aside0.mk (Kd.R_drew HOAr.out); have HOB2 := Aside0.mk (Kd.R_drew HOBr.out); have hcA2 : wr.drew.cell? (adA.add n) = some (.int .i64 (ja : Int)) := hcA; have hcB2 : wr.drew.cell? (adB.add n) = some (.int .i64 (jb : Int)) := hcB; clear HG HS HBr HK HRr HOAr HOBr hcA hcB hcs; refine start_ (n := 19) (S := fun w' => w'.cell? (adA.add n) = some (.int .i64 (ja : Int)) ∧ w'.cell? (adB.add n) = some (.int .i64 (jb : Int))) (ds := [18]) #[f_, f_, f_, f_, f_, f_, f_, f_, f_, f_, f_, f_, f_, f_, f_, f_, f_, f_, f_] (by kernel_rfl) rfl rfl ⟨hcA2, hcB2⟩ (fun hHeld => ?_); generalize wr.drew = w1 at HG2 HS2 HB2 HK2 HR2 HOA2 HOB2 hcA2 hcB2 hHeld ⊢; refine pure_ (i := 0) (N := some 41) (v := ?_) (a' := ?_) #[t_, f_, f_, f_, f_, f_, f_, f_, f_, f_, f_, f_, f_, f_, f_, f_, f_, f_, f_] rfl rfl (by kernel_rfl) (fun _ _ _ h => h) (Or.inl ⟨by rfl, ?_⟩) ?_ ?_
    rotate_left
    ·intro w'; go_simp
     with_reducible rfl
    rotate_left
    ·simp only [Act.put, List.setIfInBounds_toArray, List.set_cons_zero, List.set_cons_succ, i64_w, i32_w]
     rfl
    refine pure_ (i := 1) (N := some 42) (v := ?_) (a' := ?_) #[t_, t_, f_, f_, f_, f_, f_, f_, f_, f_, f_, f_, f_, f_, f_, f_, f_, f_, f_] rfl rfl (by kernel_rfl) (fun _ _ _ h => h) (Or.inl ⟨by rfl, ?_⟩) ?_ ?_
    rotate_left
    ·intro w'; go_simp
     with_reducible rfl
    rotate_left
    ·simp only [Act.put, List.setIfInBounds_toArray, List.set_cons_zero, List.set_cons_succ, i64_w, i32_w]
     rfl
    refine pure_ (i := 2) (N := some 43) (v := ?_) (a' := ?_) #[t_, t_, t_, f_, f_, f_, f_, f_, f_, f_, f_, f_, f_, f_, f_, f_, f_, f_, f_] rfl rfl (by kernel_rfl) (fun _ _ _ h => h) (Or.inl ⟨by rfl, ?_⟩) ?_ ?_
    rotate_left
    ·intro w'; go_simp
     with_reducible rfl
    rotate_left
    ·simp only [Act.put, List.setIfInBounds_toArray, List.set_cons_zero, List.set_cons_succ, i64_w, i32_w]
     rfl
    refine pure_ (i := 3) (N := some 44) (v := ?_) (a' := ?_) #[t_, t_, t_, t_, f_, f_, f_, f_, f_, f_, f_, f_, f_, f_, f_, f_, f_, f_, f_] rfl rfl (by kernel_rfl) (fun _ _ _ h => h) (Or.inl ⟨by rfl, ?_⟩) ?_ ?_
    rotate_left
    ·intro w'; go_simp
     with_reducible rfl
    rotate_left
    ·simp only [Act.put, List.setIfInBounds_toArray, List.set_cons_zero, List.set_cons_succ, i64_w, i32_w]
     rfl
    refine pure_ (i := 4) (N := some 45) (v := ?_) (a' := ?_) #[t_, t_, t_, t_, t_, f_, f_, f_, f_, f_, f_, f_, f_, f_, f_, f_, f_, f_, f_] rfl rfl (by kernel_rfl) (fun _ _ _ h => h) (Or.inl ⟨by rfl, ?_⟩) ?_ ?_
    rotate_left
    ·intro w'; go_simp
     with_reducible rfl
    rotate_left
    ·simp only [Act.put, List.setIfInBounds_toArray, List.set_cons_zero, List.set_cons_succ, i64_w, i32_w]
     rfl
    refine pure_ (i := 5) (N := some 46) (v := ?_) (a' := ?_) #[t_, t_, t_, t_, t_, t_, f_, f_, f_, f_, f_, f_, f_, f_, f_, f_, f_, f_, f_] rfl rfl (by kernel_rfl) (fun _ _ _ h => h) (Or.inl ⟨by rfl, ?_⟩) ?_ ?_
    rotate_left
    ·intro w'; go_simp
     with_reducible rfl
    rotate_left
    ·simp only [Act.put, List.setIfInBounds_toArray, List.set_cons_zero, List.set_cons_succ, i64_w, i32_w]
     rfl
    refine pure_ (i := 6) (N := some 47) (v := ?_) (a' := ?_) #[t_, t_, t_, t_, t_, t_, t_, f_, f_, f_, f_, f_, f_, f_, f_, f_, f_, f_, f_] rfl rfl (by kernel_rfl) (fun _ _ _ h => h) (Or.inl ⟨by rfl, ?_⟩) ?_ ?_
    rotate_left
    ·intro w'; go_simp
     with_reducible rfl
    rotate_left
    ·simp only [Act.put, List.setIfInBounds_toArray, List.set_cons_zero, List.set_cons_succ, i64_w, i32_w]
     rfl
    refine pure_ (i := 7) (N := some 48) (v := ?_) (a' := ?_) #[t_, t_, t_, t_, t_, t_, t_, t_, f_, f_, f_, f_, f_, f_, f_, f_, f_, f_, f_] rfl rfl (by kernel_rfl) (fun _ _ _ h => h) (Or.inl ⟨by rfl, ?_⟩) ?_ ?_
    rotate_left
    ·intro w'; go_simp
     with_reducible rfl
    rotate_left
    ·simp only [Act.put, List.setIfInBounds_toArray, List.set_cons_zero, List.set_cons_succ, i64_w, i32_w]
     rfl
    refine pure_ (i := 8) (N := some 49) (v := ?_) (a' := ?_) #[t_, t_, t_, t_, t_, t_, t_, t_, t_, f_, f_, f_, f_, f_, f_, f_, f_, f_, f_] rfl rfl (by kernel_rfl) (fun _ _ _ h => h) (Or.inl ⟨by rfl, ?_⟩) ?_ ?_
    rotate_left
    ·intro w'; go_simp
     with_reducible rfl
    rotate_left
    ·simp only [Act.put, List.setIfInBounds_toArray, List.set_cons_zero, List.set_cons_succ, i64_w, i32_w]
     rfl
    refine pure_ (i := 11) (N := some 52) (v := ?_) (a' := ?_) #[t_, t_, t_, t_, t_, t_, t_, t_, t_, f_, f_, t_, f_, f_, f_, f_, f_, f_, f_] rfl rfl (by kernel_rfl) (fun _ _ _ h => h) (Or.inl ⟨by rfl, ?_⟩) ?_ ?_
    rotate_left
    ·intro w'; go_simp
     with_reducible rfl
    rotate_left
    ·simp only [Act.put, List.setIfInBounds_toArray, List.set_cons_zero, List.set_cons_succ, i64_w, i32_w]
     rfl
    refine pure_ (i := 12) (N := some 53) (v := ?_) (a' := ?_) #[t_, t_, t_, t_, t_, t_, t_, t_, t_, f_, f_, t_, t_, f_, f_, f_, f_, f_, f_] rfl rfl (by kernel_rfl) (fun _ _ _ h => h) (Or.inl ⟨by rfl, ?_⟩) ?_ ?_
    rotate_left
    ·intro w'; go_simp
     with_reducible rfl
    rotate_left
    ·simp only [Act.put, List.setIfInBounds_toArray, List.set_cons_zero, List.set_cons_succ, i64_w, i32_w]
     rfl
    refine pure_ (i := 13) (N := some 54) (v := ?_) (a' := ?_) #[t_, t_, t_, t_, t_, t_, t_, t_, t_, f_, f_, t_, t_, t_, f_, f_, f_, f_, f_] rfl rfl (by kernel_rfl) (fun _ _ _ h => h) (Or.inl ⟨by rfl, ?_⟩) ?_ ?_
    rotate_left
    ·intro w'; go_simp
     with_reducible rfl
    rotate_left
    ·simp only [Act.put, List.setIfInBounds_toArray, List.set_cons_zero, List.set_cons_succ, i64_w, i32_w]
     rfl
    refine pure_ (i := 14) (N := some 55) (v := ?_) (a' := ?_) #[t_, t_, t_, t_, t_, t_, t_, t_, t_, f_, f_, t_, t_, t_, t_, f_, f_, f_, f_] rfl rfl (by kernel_rfl) (fun _ _ _ h => h) (Or.inl ⟨by rfl, ?_⟩) ?_ ?_
    rotate_left
    ·intro w'; go_simp
     with_reducible rfl
    rotate_left
    ·simp only [Act.put, List.setIfInBounds_toArray, List.set_cons_zero, List.set_cons_succ, i64_w, i32_w]
     rfl
    refine pure_ (i := 15) (N := some 56) (v := ?_) (a' := ?_) #[t_, t_, t_, t_, t_, t_, t_, t_, t_, f_, f_, t_, t_, t_, t_, t_, f_, f_, f_] rfl rfl (by kernel_rfl) (fun _ _ _ h => h) (Or.inl ⟨by rfl, ?_⟩) ?_ ?_
    rotate_left
    ·intro w'; go_simp
     with_reducible rfl
    rotate_left
    ·simp only [Act.put, List.setIfInBounds_toArray, List.set_cons_zero, List.set_cons_succ, i64_w, i32_w]
     rfl
    refine take_ (i := 9) (N := some 50) (v := ?_) (a' := ?_) #[t_, t_, t_, t_, t_, t_, t_, t_, t_, t_, f_, t_, t_, t_, t_, t_, f_, f_, f_] rfl rfl (by kernel_rfl) (fun _ _ _ h => h) (Or.inl ⟨by rfl, ?_⟩) hHeld ?_ ?_
    rotate_left
    ·rintro w' ⟨s0, s1⟩; go_simp
     with_reducible rfl
    rotate_left
    ·simp only [Act.put, List.setIfInBounds_toArray, List.set_cons_zero, List.set_cons_succ, i64_w, i32_w]
     rfl
    refine pure_ (i := 10) (N := some 51) (v := ?_) (a' := ?_) #[t_, t_, t_, t_, t_, t_, t_, t_, t_, t_, t_, t_, t_, t_, t_, t_, f_, f_, f_] rfl rfl (by kernel_rfl) (fun _ _ _ h => h) (Or.inl ⟨by rfl, ?_⟩) ?_ ?_
    rotate_left
    ·intro w'; go_simp
     with_reducible rfl
    rotate_left
    ·simp only [Act.put, List.setIfInBounds_toArray, List.set_cons_zero, List.set_cons_succ, i64_w, i32_w]
     rfl
    refine take_ (i := 16) (N := some 57) (v := ?_) (a' := ?_) #[t_, t_, t_, t_, t_, t_, t_, t_, t_, t_, t_, t_, t_, t_, t_, t_, t_, f_, f_] rfl rfl (by kernel_rfl) (fun _ _ _ h => h) (Or.inl ⟨by rfl, ?_⟩) hHeld ?_ ?_
    rotate_left
    ·rintro w' ⟨s0, s1⟩; go_simp
     with_reducible rfl
    rotate_left
    ·simp only [Act.put, List.setIfInBounds_toArray, List.set_cons_zero, List.set_cons_succ, i64_w, i32_w]
     rfl
    refine pure_ (i := 17) (N := some 58) (v := ?_) (a' := ?_) #[t_, t_, t_, t_, t_, t_, t_, t_, t_, t_, t_, t_, t_, t_, t_, t_, t_, t_, f_] rfl rfl (by kernel_rfl) (fun _ _ _ h => h) (Or.inl ⟨by rfl, ?_⟩) ?_ ?_
    rotate_left
    ·intro w'; go_simp
     with_reducible rfl
    rotate_left
    ·simp only [Act.put, List.setIfInBounds_toArray, List.set_cons_zero, List.set_cons_succ, i64_w, i32_w]
     rfl
    refine last_ (i := 18) (N := some 59) #[t_, t_, t_, t_, t_, t_, t_, t_, t_, t_, t_, t_, t_, t_, t_, t_, t_, t_, t_] rfl rfl (by kernel_rfl) (by decide) (fun K hK => ?_); refine goes_ Try.func80 (by kernel_rfl) rfl #[.pointer (some ⟨g, 0, none⟩), .slice (if c0 = i then some ad0 else some (ad0.add i)) (n - i) (c0 - i), .slice (if c1 = j then A1 else A1.map (·.add j)) (ja - j) (c1 - j), .slice (if c2 = k then A2 else A2.map (·.add k)) (jb - k) (c2 - k)] (by rfl) rfl rfl (by simp only [List.map_toArray, List.map_cons, List.map_nil]; rfl) ?_
    with_reducible refine (region_callsN w w1 g v ps (2000 * n) wl.heap.size (if c0 = i then some ad0 else some (ad0.add i)) (n - i) (c0 - i) (seg2 l0 i n) _ (ja - j) (c1 - j) (seg2 l1 j ja) _ (jb - k) (c2 - k) (seg2 l2 k jb) (by rw [seg2_len _ _ _ (by omega)]) (by rw [seg2_len _ _ _ HY.out.2.1]) (by rw [seg2_len _ _ _ HY.out.2.2.2]) HG2.out HS2.out HGL.out.1 (kept_size HK2.out) (C_seg2 HR2.out.1 (by omega) (by omega) HC.out.1) (by rw [seg2_len _ _ _ (by omega)]; have := HC.out; omega) (C_seg2 HR2.out.2.1 HY.out.2.1 HY.out.1 HC.out.2.1) (by rw [seg2_len _ _ _ HY.out.2.1]; have := HC.out; omega) (C_seg2 HR2.out.2.2 HY.out.2.2.2 HY.out.2.2.1 HC.out.2.2) (by rw [seg2_len _ _ _ HY.out.2.2.2]; have := HC.out; omega) HB2.out HGL.out.2 HP.out (by have := HL.out; omega) (by have := seg2_le l0 i n; have := HL.out; omega) (by have := seg2_le l1 j ja; have := HL.out; omega) (by have := seg2_le l2 k jb; have := HL.out; omega)).mono ?_
    rintro e w3 ⟨rfl, ⟨v3, hG3, hS3⟩, hB3, hK3⟩; refine ⟨_, rfl, ?_⟩; have HG3 := Aside0.mk hG3; have HS3 := Aside0.mk hS3; have HB3 := Aside0.mk hB3; have HK3 : Aside0 (Kept wl w3 (fun k => wl.heap.size ≤ k ∨ k = g)) := ⟨HK2.out.then_ hK3 (fun k hk => .inl hk)⟩; have HOA3 : Aside0 (Kd.R (Kd.int .i64) 3 w3 w.heap.size (fun k => k < g) (.slice (some adA) na ca) mA) := ⟨Kd.R_kept HOA2.out hK3 (fun k hk h => by have := HGL.out; rcases h with h | h <;> omega)⟩; have HOB3 : Aside0 (Kd.R (Kd.int .i64) 3 w3 w.heap.size (fun k => k < g) (.slice (some adB) nb cb) mB) := ⟨Kd.R_kept HOB2.out hK3 (fun k hk h => by have := HGL.out; rcases h with h | h <;> omega)⟩; clear hG3 hS3 hB3 hK3 HG2 HS2 HB2 HK2 HR2 HOA2 HOB2 hcA2 hcB2 hHeld; refine hK.out _ _ ?_; clear hK K; refine norm_ (a' := ?_) ?_ ?_
    rotate_left
    ·show Act.put _ (some 59) _ = _
     simp only [Act.put, List.setIfInBounds_toArray, List.set_cons_zero, List.set_cons_succ, i64_w, i32_w]
     rfl
    refine done_ (by kernel_rfl) ?_; generalize (if c0 = i then some ad0 else some (ad0.add i)) = P0; generalize (if c1 = j then A1 else Option.map (fun x => x.add j) A1) = P1; generalize (if c2 = k then A2 else Option.map (fun x => x.add k) A2) = P2; go_wp2_with (first | (go_at_call 81; refine (resolved_calls w _ g v3 _ (2000 * n + 1000) wl.heap.size (some ⟨w3.heap.size, 0, none⟩) 1 [rdOf ByteArray.empty l0 (n : Int)] (blk_alloc HG3.out _) (Kd.S_alloc HS3.out _) HGL.out.1 (Nat.le_trans (kept_size HK3.out) (below_size (below_alloc (Below.refl _ _) _))) (C_one _ _) (Nat.le_refl _) (below_alloc HB3.out _) HGL.out.2 (smP_reg HP.out (by have := seg2_le l1 j ja; have := HL.out; omega) (by have := seg2_le l2 k jb; have := HL.out; omega)) (by have := HL.out; omega) (by simp)).mono ?_; rintro e w5 ⟨rfl, ⟨v5, hG5, hS5⟩, hB5, hK5⟩)); have HK5 : Aside0 (Kept wl w5 (fun k => wl.heap.size ≤ k ∨ k = g)) := ⟨(HK3.out.alloc _).then_ hK5 (fun k hk => .inl hk)⟩; have hOA5 : Kd.R (Kd.int .i64) 3 w5 w.heap.size (fun k => k < g) (.slice (some adA) na ca) mA := Kd.R_kept (Kd.R_alloc HOA3.out _) hK5 (fun k hk h => by have := HGL.out; rcases h with h | h <;> omega); have hOB5 : Kd.R (Kd.int .i64) 3 w5 w.heap.size (fun k => k < g) (.slice (some adB) nb cb) mB := Kd.R_kept (Kd.R_alloc HOB3.out _) hK5 (fun k hk h => by have := HGL.out; rcases h with h | h <;> omega); have HG5 := Aside0.mk hG5; have HS5 := Aside0.mk hS5; have HB5 := Aside0.mk hB5; obtain ⟨adA', eaA, hcA⟩ := Kd.at_int (Kd.R_reads' hOA5).2.2 (n : Int) hz (by have := HNA.out; omega); cases eaA; obtain ⟨adB', eaB, hcB⟩ := Kd.at_int (Kd.R_reads' hOB5).2.2 (n : Int) hz (by have := HNB.out; omega); cases eaB; rw [show rd mA (n : Int) = (ja : Int) from HXA.out.symm] at hcA; rw [show rd mB (n : Int) = (jb : Int) from HXB.out.symm] at hcB; simp only [Int.toNat_natCast] at hcA hcB; (have hwa : wrap64 ((ja : Int) + 1) = ((ja + 1 : Nat) : Int) := by have := HL.out; have := HY.out; rw [w64 (by omega) (by omega)]; omega); (have hwb : wrap64 ((jb : Int) + 1) = ((jb + 1 : Nat) : Int) := by have := HL.out; have := HY.out; rw [w64 (by omega) (by omega)]; omega); clear hG5 hS5 hB5 hK5 hOA5 hOB5 HG3 HS3 HB3 HK3 HOA3 HOB3; go_quiet (fail); go_wp2; go_roundg (l0.length - (n + 1))
    case measure => omega
    case rel => exact ⟨n + 1, n + 1, ja + 1, jb + 1, v5, _, by go_num, by go_num, by go_num, by go_num, hlt, by omega, Nat.le_refl _, ⟨by have := HM3.out; simp only [Int.toNat_natCast] at this; exact this⟩, ⟨by rw [show 2000 * (n + 1) = 2000 * n + 1000 + 1000 by omega]; exact smP_res (smP_reg HP.out (by have := seg2_le l1 j ja; have := HL.out; omega) (by have := seg2_le l2 k jb; have := HL.out; omega)) (by simp)⟩, ⟨(by repeat (first | (with_reducible exact HG5.out) | (with_reducible refine blk_drewN ?_ _) | (with_reducible refine blk_drew ?_)))⟩, ⟨(by repeat (first | (with_reducible exact HS5.out) | (with_reducible refine Kd.S_drewN ?_ _) | (with_reducible refine Kd.S_drew ?_) | exact HS5.out))⟩, ⟨(by repeat (first | (with_reducible exact HB5.out) | (with_reducible refine pw_below_drewN ?_ _) | (with_reducible refine below_drew1 ?_)))⟩, ⟨Kept.drewN HK5.out _⟩⟩
  ·(obtain rfl : n = l0.length := by omega); (have hltz : ¬ (l0.length : Int) < (l0.length : Int) := by omega); obtain ⟨hje, hke, hre⟩ := mgO_end HM.out; (have z1 : (i : Int) ≤ (l0.length : Int) := by omega); (have z3 : (j : Int) ≤ (l1.length : Int) := by omega); (have z5 : (k : Int) ≤ (l2.length : Int) := by omega); go_wp2; have HG2 := Aside0.mk (blk_drew HG.out); have HS2 := Aside0.mk (Kd.S_drew HS.out); have HB2 := Aside0.mk (below_drew1 HBr.out); have HK2 : Aside0 (Kept wl wr.drew (fun k => wl.heap.size ≤ k ∨ k = g)) := ⟨HK.out.drew⟩; have HR2 : Aside0 (Kd.C Kd.string wr.drew A0 l0.length l0 ∧ Kd.C Kd.string wr.drew A1 l1.length l1 ∧ Kd.C Kd.string wr.drew A2 l2.length l2) := ⟨Kd.C_drew HRr.out.1, Kd.C_drew HRr.out.2.1, Kd.C_drew HRr.out.2.2⟩; clear HG HS HBr HK HRr HOAr HOBr; refine start_ (n := 10) (S := fun w' => True) (ds := [9]) #[f_, f_, f_, f_, f_, f_, f_, f_, f_, f_] (by kernel_rfl) rfl rfl trivial (fun hHeld => ?_); generalize wr.drew = w1 at HG2 HS2 HB2 HK2 HR2 hHeld ⊢; refine pure_ (i := 0) (N := some 76) (v := ?_) (a' := ?_) #[t_, f_, f_, f_, f_, f_, f_, f_, f_, f_] rfl rfl (by kernel_rfl) (fun _ _ _ h => h) (Or.inl ⟨by rfl, ?_⟩) ?_ ?_
   rotate_left
   ·intro w'; go_simp
    with_reducible rfl
   rotate_left
   ·simp only [Act.put, List.setIfInBounds_toArray, List.set_cons_zero, List.set_cons_succ, i64_w, i32_w]
    rfl
   refine pure_ (i := 1) (N := some 77) (v := ?_) (a' := ?_) #[t_, t_, f_, f_, f_, f_, f_, f_, f_, f_] rfl rfl (by kernel_rfl) (fun _ _ _ h => h) (Or.inl ⟨by rfl, ?_⟩) ?_ ?_
   rotate_left
   ·intro w'; go_simp
    with_reducible rfl
   rotate_left
   ·simp only [Act.put, List.setIfInBounds_toArray, List.set_cons_zero, List.set_cons_succ, i64_w, i32_w]
    rfl
   refine pure_ (i := 2) (N := some 78) (v := ?_) (a' := ?_) #[t_, t_, t_, f_, f_, f_, f_, f_, f_, f_] rfl rfl (by kernel_rfl) (fun _ _ _ h => h) (Or.inl ⟨by rfl, ?_⟩) ?_ ?_
   rotate_left
   ·intro w'; go_simp
    with_reducible rfl
   rotate_left
   ·simp only [Act.put, List.setIfInBounds_toArray, List.set_cons_zero, List.set_cons_succ, i64_w, i32_w]
    rfl
   refine pure_ (i := 3) (N := some 79) (v := ?_) (a' := ?_) #[t_, t_, t_, t_, f_, f_, f_, f_, f_, f_] rfl rfl (by kernel_rfl) (fun _ _ _ h => h) (Or.inl ⟨by rfl, ?_⟩) ?_ ?_
   rotate_left
   ·intro w'; go_simp
    with_reducible rfl
   rotate_left
   ·simp only [Act.put, List.setIfInBounds_toArray, List.set_cons_zero, List.set_cons_succ, i64_w, i32_w]
    rfl
   refine pure_ (i := 4) (N := some 80) (v := ?_) (a' := ?_) #[t_, t_, t_, t_, t_, f_, f_, f_, f_, f_] rfl rfl (by kernel_rfl) (fun _ _ _ h => h) (Or.inl ⟨by rfl, ?_⟩) ?_ ?_
   rotate_left
   ·intro w'; go_simp
    with_reducible rfl
   rotate_left
   ·simp only [Act.put, List.setIfInBounds_toArray, List.set_cons_zero, List.set_cons_succ, i64_w, i32_w]
    rfl
   refine pure_ (i := 5) (N := some 81) (v := ?_) (a' := ?_) #[t_, t_, t_, t_, t_, t_, f_, f_, f_, f_] rfl rfl (by kernel_rfl) (fun _ _ _ h => h) (Or.inl ⟨by rfl, ?_⟩) ?_ ?_
   rotate_left
   ·intro w'; go_simp
    with_reducible rfl
   rotate_left
   ·simp only [Act.put, List.setIfInBounds_toArray, List.set_cons_zero, List.set_cons_succ, i64_w, i32_w]
    rfl
   refine pure_ (i := 6) (N := some 82) (v := ?_) (a' := ?_) #[t_, t_, t_, t_, t_, t_, t_, f_, f_, f_] rfl rfl (by kernel_rfl) (fun _ _ _ h => h) (Or.inl ⟨by rfl, ?_⟩) ?_ ?_
   rotate_left
   ·intro w'; go_simp
    with_reducible rfl
   rotate_left
   ·simp only [Act.put, List.setIfInBounds_toArray, List.set_cons_zero, List.set_cons_succ, i64_w, i32_w]
    rfl
   refine pure_ (i := 7) (N := some 83) (v := ?_) (a' := ?_) #[t_, t_, t_, t_, t_, t_, t_, t_, f_, f_] rfl rfl (by kernel_rfl) (fun _ _ _ h => h) (Or.inl ⟨by rfl, ?_⟩) ?_ ?_
   rotate_left
   ·intro w'; go_simp
    with_reducible rfl
   rotate_left
   ·simp only [Act.put, List.setIfInBounds_toArray, List.set_cons_zero, List.set_cons_succ, i64_w, i32_w]
    rfl
   refine pure_ (i := 8) (N := some 84) (v := ?_) (a' := ?_) #[t_, t_, t_, t_, t_, t_, t_, t_, t_, f_] rfl rfl (by kernel_rfl) (fun _ _ _ h => h) (Or.inl ⟨by rfl, ?_⟩) ?_ ?_
   rotate_left
   ·intro w'; go_simp
    with_reducible rfl
   rotate_left
   ·simp only [Act.put, List.setIfInBounds_toArray, List.set_cons_zero, List.set_cons_succ, i64_w, i32_w]
    rfl
   refine last_ (i := 9) (N := some 85) #[t_, t_, t_, t_, t_, t_, t_, t_, t_, t_] rfl rfl (by kernel_rfl) (by decide) (fun K hK => ?_); refine goes_ Try.func80 (by kernel_rfl) rfl #[.pointer (some ⟨g, 0, none⟩), .slice (if c0 = i then A0 else A0.map (·.add i)) (l0.length - i) (c0 - i), .slice (if c1 = j then A1 else A1.map (·.add j)) (l1.length - j) (c1 - j), .slice (if c2 = k then A2 else A2.map (·.add k)) (l2.length - k) (c2 - k)] (by rfl) rfl rfl (by simp only [List.map_toArray, List.map_cons, List.map_nil]; rfl) ?_
   with_reducible refine (region_callsN w w1 g v ps (2000 * l0.length) wl.heap.size _ (l0.length - i) (c0 - i) (l0.drop i) _ (l1.length - j) (c1 - j) (l1.drop j) _ (l2.length - k) (c2 - k) (l2.drop k) (by rw [List.length_drop]) (by rw [List.length_drop]) (by rw [List.length_drop]) HG2.out HS2.out HGL.out.1 (kept_size HK2.out) (C_dropS HR2.out.1 hin HC.out.1) (by rw [List.length_drop]; have := HC.out; omega) (C_dropS HR2.out.2.1 hje HC.out.2.1) (by rw [List.length_drop]; have := HC.out; omega) (C_dropS HR2.out.2.2 hke HC.out.2.2) (by rw [List.length_drop]; have := HC.out; omega) HB2.out HGL.out.2 HP.out (by have := HL.out; omega) (by rw [List.length_drop]; have := HL.out; omega) (by rw [List.length_drop]; have := HL.out; omega) (by rw [List.length_drop]; have := HL.out; omega)).mono ?_
   rintro e w3 ⟨rfl, ⟨v3, hG3, hS3⟩, hB3, hK3⟩; refine ⟨_, rfl, ?_⟩; have HG3 := Aside0.mk hG3; have HS3 := Aside0.mk hS3; have HB3 := Aside0.mk hB3; have hc3 : w3.cell? ⟨g, 0, none⟩ = some v3 := (blk_cell hG3 0).trans rfl; clear hG3 hS3 hB3 hK3 HG2 HS2 HB2 HK2 HR2 hHeld; refine hK.out _ _ ?_; clear hK K; refine norm_ (a' := ?_) ?_ ?_
   rotate_left
   ·show Act.put _ (some 85) _ = _
    simp only [Act.put, List.setIfInBounds_toArray, List.set_cons_zero, List.set_cons_succ, i64_w, i32_w]
    rfl
   refine done_ (by kernel_rfl) ?_; generalize (if c0 = i then A0 else Option.map (fun x => x.add i) A0) = P0; generalize (if c1 = j then A1 else Option.map (fun x => x.add j) A1) = P1; generalize (if c2 = k then A2 else Option.map (fun x => x.add k) A2) = P2; go_wp2; go_ret; subst hre; exact ⟨_, rfl, S_Pt (Kd.S_mono HS3.out (fun _ _ => trivial)), HB3.out⟩
end Go.Proofs.Ytfpdkeolecmepaa.Q
end
section
namespace Go.Proofs.Ytfpdkeolecmepaa.Q
open Go.RowKit Go.Proofs.YtfpdkeolecmepaaW.PrintWords Go.Proofs.YtfpdkeolecmepaaW.PrintLast Go.Proofs.YtfpdkeolecmepaaW.PrintMore
attribute [local go_sem] max2_int min2_int max_two min_two max_three min_three max_four min_four   -- for this text's walks alone
set_option linter.unusedVariables false
set_option linter.unusedSimpArgs false
/-- The lines of parts, each clash resolved; none, if one isn't. -/
def stl (by_ : Pt → List ByteArray × Bool) : List Pt → List ByteArray → Option (List ByteArray)
 | [], out => some out
 | p :: ps, out => if p.f0 = true then (if (by_ p).2 = true then stl by_ ps (out ++ (by_ p).1) else none) else stl by_ ps (out ++ p.f1)
def settledF (k : Nat) (by_ : Pt → List ByteArray × Bool) (ps : List Pt) : Option (List ByteArray × Bool) :=
 if ps.length ≤ 1000000 ∧ ∀ p ∈ ps, p.f1.length ≤ 1000000 ∧ (by_ p).1.length ≤ 1000000 then
  (match stl by_ ps [] with
  | none => some ([], false)
  | some out => (impl_TextOk.f k out).bind fun t => some (if t = true then out else [], t))
 else none
theorem R_empty (w : World) (base : Nat) (ok : Nat → Prop) (hb : base ≤ w.heap.size) (hok : ok w.heap.size) : Kd.R Kd.string 9 (w.alloc (.cells #[] 9)) base ok (.slice (some ⟨w.heap.size, 0, none⟩) 0 0) [] :=
 ⟨fun k hk => by
  have : w.heap.size = k := by simpa [Value.ownBlock] using hk
  exact this ▸ hok, [], World.ownsRow_made w #[] 0 hb (by decide) (by simp), Reps.none _ _⟩
set_option maxHeartbeats 4000000 in
set_option maxRecDepth 100000 in
theorem settled_calls (g : Nat) (lb : Array Value) (eg : ∀ args w, (callFunc g args).run Try.prog w = .ok (.enter g args) w) (by_ : Pt → List ByteArray × Bool) (k : Nat) (A0 : Option Addr) (c0 : Nat) (l0 : List Pt) (r : List ByteArray × Bool) (w : World) (hr0 : Kd.C k31 w A0 l0.length l0) (hc0 : l0.length ≤ c0)
 (hp : ∀ (W : World) (p : Pt) (A1 : Option Addr) (c1 : Nat) (A2 : Option Addr) (c2 : Nat) (A3 : Option Addr) (c3 : Nat) (A4 : Option Addr) (c4 : Nat), p.f0 = true → Below w.heap.size w W → Kd.C Kd.string W A1 p.f1.length p.f1 → p.f1.length ≤ c1 → Kd.C Kd.string W A2 p.f2.length p.f2 → p.f2.length ≤ c2 → Kd.C Kd.string W A3 p.f3.length p.f3 → p.f3.length ≤ c3 → Kd.C Kd.string W A4 p.f4.length p.f4 → p.f4.length ≤ c4 →
  Calls Try.prog g (#[.agg #[.bool true, .slice A1 p.f1.length c1, .slice A2 p.f2.length c2, .slice A3 p.f3.length c3, .slice A4 p.f4.length c4]] ++ lb) W fun e w' => ∃ A c, e = .returned (.tuple #[.slice A (by_ p).1.length c, .bool (by_ p).2]) ∧ Kd.C Kd.string w' A (by_ p).1.length (by_ p).1 ∧ (by_ p).1.length ≤ c ∧ Below W.heap.size W w')
 (h : settledF k by_ l0 = some r) :
 Calls Try.prog 68 #[.slice A0 l0.length c0, .func (.func g) #[] lb] w fun e w' => ∃ v : Value, e = .returned (.tuple #[v, .bool r.2]) ∧ Kd.R Kd.string 9 w' w.heap.size (fun _ => True) v r.1 ∧ Below w.heap.size w w' := by
 unfold settledF at h
 by_cases hG : l0.length ≤ 1000000 ∧ ∀ p ∈ l0, p.f1.length ≤ 1000000 ∧ (by_ p).1.length ≤ 1000000
 case neg => rw [if_neg hG] at h; cases h
 rw [if_pos hG] at h; have HR := Aside0.mk hr0; have HC := Aside0.mk hc0; have HP := Aside0.mk hp; have HH := Aside0.mk h; have HG := Aside0.mk hG; have HO0 := Aside0.mk (R_empty w w.heap.size (fun _ => True) (Nat.le_refl _) trivial); have HB0 := Aside0.mk (below_alloc (Below.refl w.heap.size w) (.cells #[] 9)); clear hr0 hc0 hp h hG; go_enter Try.func68, Try.ntmps68; go_wp2; obtain ⟨wl, hwl⟩ : ∃ wl, wl = w.alloc (.cells #[] 9) := ⟨_, rfl⟩; rw [← hwl] at HO0 HB0; rw [← hwl]; clear hwl; go_loopg [6, 15] l0.length (fun gg s6 s15 wr => ∃ (n : Nat) (out : List ByteArray), s15 = .int .i64 n ∧ n ≤ l0.length ∧ l0.length - n ≤ gg ∧ Aside0 (stl by_ l0 [] = stl by_ (l0.drop n) out) ∧ Aside0 (out.length ≤ n * 1000000) ∧ Aside0 (Kd.R Kd.string 9 wr w.heap.size (fun _ => True) s6 out) ∧ Aside0 (Below w.heap.size w wr))
 case atStart => exact ⟨0, [], rfl, Nat.zero_le _, by omega, ⟨rfl⟩, ⟨by simp⟩, HO0, HB0⟩
 case round =>
  clear HO0 HB0; obtain ⟨n, out, rfl, hn, hgg, HS, HL, HO, HB⟩ := hrel; by_cases hlt : n < l0.length
  ·(have hltz : (n : Int) < (l0.length : Int) := by omega); (have hz : (0 : Int) ≤ (n : Int) := by omega); (have hwn : wrap64 ((n : Int) + 1) = ((n + 1 : Nat) : Int) := by have := HG.out.1; rw [w64 (by omega) (by omega)]; omega)
   have hmem : rd_T31 l0 (n : Int) ∈ l0 := by
    simp only [rd_T31, List.getD_eq_getElem?_getD, Int.toNat_natCast, List.getElem?_eq_getElem hlt, Option.getD_some]; exact List.getElem_mem hlt
   have hsz := HG.out.2 _ hmem
   have hd : l0.drop n = rd_T31 l0 (n : Int) :: l0.drop (n + 1) := by
    rw [List.drop_eq_getElem_cons hlt]
    simp [rd_T31, List.getD_eq_getElem?_getD, hlt]
   have hst := HS.out; rw [hd] at hst; obtain ⟨ad0, A1, a1, A2, a2, A3, a3, A4, a4, rfl, x0, x1, x2, x3, x4, xl1, xc1, xl2, xc2, xl3, xc3, xl4, xc4⟩ := at_T31 (Kd.C_below HR.out HB.out) (n : Int) hz hltz; simp only [Int.toNat_natCast] at x0 x1 x2 x3 x4; generalize rd_T31 l0 (n : Int) = p at hst hsz x0 x1 x2 x3 x4 xl1 xl2 xl3 xl4 xc1 xc2 xc3 xc4; clear hmem hd HS; have XC1 := Aside0.mk xc1; have XC2 := Aside0.mk xc2; have XC3 := Aside0.mk xc3; have XC4 := Aside0.mk xc4; have XL := Aside0.mk (And.intro xl1 (And.intro xl2 (And.intro xl3 xl4))); have XS := Aside0.mk hsz; have HST := Aside0.mk hst; clear xc1 xc2 xc3 xc4 xl1 xl2 xl3 xl4 hsz hst
   cases hf : p.f0 with
   | false =>
    have HS2 : Aside0 (stl by_ l0 [] = stl by_ (l0.drop (n + 1)) (out ++ p.f1)) := ⟨by have h := HST.out; rw [stl, if_neg (by rw [hf]; decide)] at h; exact h⟩; rw [hf] at x0; have HO2 := Aside0.mk (Kd.R_alloc HO.out (.cells #[.bool false, .slice A1 p.f1.length a1, .slice A2 p.f2.length a2, .slice A3 p.f3.length a3, .slice A4 p.f4.length a4] 31)); have HB2 := Aside0.mk (below_alloc HB.out (.cells #[.bool false, .slice A1 p.f1.length a1, .slice A2 p.f2.length a2, .slice A3 p.f3.length a3, .slice A4 p.f4.length a4] 31)); clear hf HST HO HB; go_wp2_with ((with_reducible refine gate_builtin (b := .append) (xs := #[.tmp 32, .tmp 33]) rfl ?_); at_builtin; refine Kd.R_append_rows Kd.string (w0 := w) w.heap.size rfl (.tmp 32) (.tmp 33) 23 9 (.string ⟨#[]⟩) 16 rfl Try.underlying23 info9 rfl (by decide) (by omega) u6 out p.f1 A1 p.f1.length a1 (fun _ => True) (fun _ => False) rfl rfl ?aO (Kd.C_alloc XC1.out _) (fun _ _ h => h) (fun _ h => h.elim) (fun _ _ => trivial) ?aB ?aS ?aL ?_; (case aO => exact HO2.out); (case aB => exact HB2.out); (case aS => exact HB2.out.size); (case aL => have h1 := HL.out; have h2 := XS.out; have h3 := HG.out.1; have h4 := Nat.mul_le_mul_right 1000000 hn; omega); intro v5 w5 ho hb hg hat); go_roundg (l0.length - (n + 1))
    case measure => omega
    case rel => exact ⟨n + 1, _, by go_num, hlt, by omega, HS2, ⟨by rw [List.length_append]; have h1 := HL.out; have h2 := XS.out; omega⟩, ⟨ho⟩, ⟨hb⟩⟩
   | true =>
    rw [hf] at x0; have hcall := HP.out (wr.alloc (.cells #[.bool true, .slice A1 p.f1.length a1, .slice A2 p.f2.length a2, .slice A3 p.f3.length a3, .slice A4 p.f4.length a4] 31)) p A1 a1 A2 a2 A3 a3 A4 a4 hf (below_alloc HB.out _) (Kd.C_alloc XC1.out _) XL.out.1 (Kd.C_alloc XC2.out _) XL.out.2.1 (Kd.C_alloc XC3.out _) XL.out.2.2.1 (Kd.C_alloc XC4.out _) XL.out.2.2.2; have hst := HST.out; rw [stl, if_pos hf] at hst; clear HST hf; generalize by_ p = q at hcall hst XS; obtain ⟨own, okb⟩ := q; have HCall := Aside0.mk hcall; clear hcall
    cases okb with
    | false =>
     simp only [Bool.false_eq_true, if_false] at hst; have hh := HH.out; rw [hst] at hh; cases hh; clear hst; go_wp2_with (go_at_fn g; refine HCall.out.mono ?_; rintro e w3 ⟨B, b, rfl, hC, hL, hb3⟩; have HO2 := Aside0.mk (Kd.R_below (Kd.R_alloc HO.out _) hb3); have HB2 := Aside0.mk (below_step (below_alloc HB.out _) hb3)); go_ret2
     exact ⟨_, rfl, Kd.R_nil _ _ _ _ _, HB2.out⟩
    | true =>
     simp only [if_true] at hst; have HS2 := Aside0.mk hst; clear hst; go_wp2_with (first | (go_at_fn g; refine HCall.out.mono ?_; rintro e w3 ⟨B, b, rfl, hC, hL, hb3⟩; have HO2 := Aside0.mk (Kd.R_below (Kd.R_alloc HO.out _) hb3); have HB2 := Aside0.mk (below_step (below_alloc HB.out _) hb3)) | ((with_reducible refine gate_builtin (b := .append) (xs := #[.tmp 32, .tmp 33]) rfl ?_); at_builtin; refine Kd.R_append_rows Kd.string (w0 := w) w.heap.size rfl (.tmp 32) (.tmp 33) 23 9 (.string ⟨#[]⟩) 16 rfl Try.underlying23 info9 rfl (by decide) (by omega) u6 out own B own.length b (fun _ => True) (fun _ => False) rfl rfl ?aO hC (fun _ _ h => h) (fun _ h => h.elim) (fun _ _ => trivial) ?aB ?aS ?aL ?_; (case aO => exact HO2.out); (case aB => exact HB2.out); (case aS => exact HB2.out.size); (case aL => have h1 := HL.out; have h2 := XS.out; have h3 := HG.out.1; have h4 := Nat.mul_le_mul_right 1000000 hn; omega); intro v5 w5 ho hb hg hat)); go_roundg (l0.length - (n + 1))
     case measure => omega
     case rel => exact ⟨n + 1, _, by go_num, hlt, by omega, HS2, ⟨by rw [List.length_append]; have h1 := HL.out; have h2 := XS.out; omega⟩, ⟨ho⟩, ⟨hb⟩⟩
  ·(obtain rfl : n = l0.length := by omega); (have hltz : ¬ (l0.length : Int) < (l0.length : Int) := by omega); have hst := HS.out; rw [List.drop_length, stl] at hst; have hh := HH.out; rw [hst] at hh; obtain ⟨t, ht, hr⟩ := Option.bind_eq_some_iff.mp hh; obtain ⟨Ao, co, rfl⟩ := Kd.R_slice HO.out; have HT := Aside0.mk ht; have HRR := Aside0.mk (Option.some.inj hr); clear hh hst ht hr HH
   cases t with
   | true =>
    go_wp2_with (go_at_call 16; with_reducible refine (impl_TextOk.calls k Ao co out true _ (Kd.R_reads' HO.out).2.2 (Kd.R_reads' HO.out).2.1 HT.out).mono ?_; rintro e w3 ⟨rfl, hd⟩); go_ret2; have e := HRR.out; simp only [if_true] at e; subst e
    exact ⟨_, rfl, Kd.R_below HO.out hd.below, below_step HB.out hd.below⟩
   | false =>
    go_wp2_with (go_at_call 16; with_reducible refine (impl_TextOk.calls k Ao co out false _ (Kd.R_reads' HO.out).2.2 (Kd.R_reads' HO.out).2.1 HT.out).mono ?_; rintro e w3 ⟨rfl, hd⟩); go_ret2; have e := HRR.out; simp only [Bool.false_eq_true, if_false] at e; subst e; exact ⟨_, rfl, Kd.R_nil _ _ _ _ _, below_step HB.out hd.below⟩
end Go.Proofs.Ytfpdkeolecmepaa.Q
end
section
namespace Go.Proofs.Ytfpdkeolecmepaa.Q
open Go.RowKit Go.Proofs.YtfpdkeolecmepaaW.PrintWords Go.Proofs.YtfpdkeolecmepaaW.PrintLast Go.Proofs.YtfpdkeolecmepaaW.PrintMore
attribute [local go_sem] max2_int min2_int max_two min_two max_three min_three max_four min_four   -- for this text's walks alone
set_option linter.unusedVariables false
set_option linter.unusedSimpArgs false
def noBy (p : Pt) : List ByteArray × Bool := ([], false)
def impl_MergeText.f (k : Nat) (l0 l1 l2 : List ByteArray) : Option (List ByteArray × Bool) := (impl_areTexts.f k l0 l1 l2).bind fun t => if t = true then (impl_merge.f k l0 l1 l2).bind fun ps => settledF k noBy ps else some ([], false)
set_option maxHeartbeats 4000000 in
set_option maxRecDepth 100000 in
theorem impl_MergeText.calls (k : Nat) (A0 : Option Addr) (c0 : Nat) (l0 : List ByteArray) (A1 : Option Addr) (c1 : Nat) (l1 : List ByteArray) (A2 : Option Addr) (c2 : Nat) (l2 : List ByteArray) (r1 : List ByteArray) (r2 : Bool) (w : World) (hr0 : Kd.C Kd.string w A0 l0.length l0) (hc0 : l0.length ≤ c0) (hr1 : Kd.C Kd.string w A1 l1.length l1) (hc1 : l1.length ≤ c1) (hr2 : Kd.C Kd.string w A2 l2.length l2) (hc2 : l2.length ≤ c2) (h : impl_MergeText.f k l0 l1 l2 = some (r1, r2)) :
 Calls Try.prog 25 #[.slice A0 l0.length c0, .slice A1 l1.length c1, .slice A2 l2.length c2] w fun e w' => ∃ v0_ : Value, e = .returned (.tuple #[v0_, .bool r2]) ∧ Kd.R Kd.string 9 w' w.heap.size (fun _ => True) v0_ r1 ∧ Below w.heap.size w w' := by
 obtain ⟨t, ht, h⟩ := Option.bind_eq_some_iff.mp h; have HT := Aside0.mk ht; have HR := Aside0.mk (And.intro hr0 (And.intro hr1 hr2)); have HC := Aside0.mk (And.intro hc0 (And.intro hc1 hc2))
 cases t with
 | false =>
  rw [if_neg (by decide)] at h; cases h; clear ht hr0 hc0 hr1 hc1 hr2 hc2; go_enter Try.func25, Try.ntmps25; go_wp2_with (go_at_call 48; with_reducible refine (impl_areTexts.calls k A0 c0 l0 A1 c1 l1 A2 c2 l2 false _ HR.out.1 HC.out.1 HR.out.2.1 HC.out.2.1 HR.out.2.2 HC.out.2.2 HT.out).mono ?_; rintro e w1 ⟨rfl, hd⟩); go_ret2
  exact ⟨_, rfl, Kd.R_nil _ _ _ _ _, hd.below⟩
 | true =>
  rw [if_pos rfl] at h; obtain ⟨ps, hps, h⟩ := Option.bind_eq_some_iff.mp h; have HM := Aside0.mk hps; have HS := Aside0.mk h; clear ht hr0 hc0 hr1 hc1 hr2 hc2 hps h; go_enter Try.func25, Try.ntmps25
  go_wp2_with (first
   | (go_at_call 48; with_reducible refine (impl_areTexts.calls k A0 c0 l0 A1 c1 l1 A2 c2 l2 true _ HR.out.1 HC.out.1 HR.out.2.1 HC.out.2.1 HR.out.2.2 HC.out.2.2 HT.out).mono ?_; rintro e w1 ⟨rfl, hd⟩; have hb1 := hd.below)
   | (go_at_call 49; with_reducible refine (impl_merge.calls k A0 c0 l0 A1 c1 l1 A2 c2 l2 ps _ (Kd.C_below HR.out.1 hb1) HC.out.1 (Kd.C_below HR.out.2.1 hb1) HC.out.2.1 (Kd.C_below HR.out.2.2 hb1) HC.out.2.2 HM.out).mono ?_; rintro e w2 ⟨v2, rfl, ho2, hb2⟩; obtain ⟨A3, c3, rfl⟩ := Kd.S_slice ho2)
   | (go_at_call 68; refine (settled_calls 69 #[] (enters_of Try.func69 (by kernel_rfl) rfl) noBy k A3 c3 ps (r1, r2) w2 (Kd.S_reads' ho2).2.2 (Kd.S_reads' ho2).2.1 ?hby HS.out).mono ?_; (case hby => (intro W p A1 c1 A2 c2 A3 c3 A4 c4 hf hb g1 g2 g3 g4 g5 g6 g7 g8; clear ho2; go_enter Try.func69, Try.ntmps69; go_wp2; go_ret2; exact ⟨none, 0, rfl, (Kd.R_reads' (Kd.R_nil Kd.string 9 _ 0 (fun _ => True))).2.2, Nat.le_refl _, below_alloc (Below.refl _ _) _⟩)); rintro e w3 ⟨v3, rfl, ho3, hb3⟩))
  go_ret2; exact ⟨_, rfl, Kd.R_lower ho3 (below_step hb1 hb2).size, below_step (below_step hb1 hb2) hb3⟩
end Go.Proofs.Ytfpdkeolecmepaa.Q
end
section
namespace Go.Proofs.Ytfpdkeolecmepaa.Q
open Go.RowKit Go.Proofs.YtfpdkeolecmepaaW.PrintWords Go.Proofs.YtfpdkeolecmepaaW.PrintLast Go.Proofs.YtfpdkeolecmepaaW.PrintMore
attribute [local go_sem] max2_int min2_int max_two min_two max_three min_three max_four min_four   -- for this text's walks alone
set_option linter.unusedVariables false
set_option linter.unusedSimpArgs false
def spec_l1Line.l0 : Nat → ByteArray → Int → Option (Bool)
 | 0, _, _ => none
 | k + 1, x0, x3 => if x3 < (x0.size : Int) then (if 0 ≤ x3 then (if (bt x0 x3) < 32 then (some false) else (if (bt x0 x3) > 126 then (some false) else (spec_l1Line.l0 k x0 (wrap64 (x3 + 1))))) else (none)) else (some (decide ((x0.size : Int) ≤ 12)))
def spec_l1Line.f (k : Nat) (a0 : ByteArray) : Option (Bool) := spec_l1Line.l0 k a0 0
set_option maxHeartbeats 8000000 in
set_option maxRecDepth 100000 in
theorem spec_l1Line.calls (k : Nat) (a0 : ByteArray) (r : Bool) (w : World) (h : spec_l1Line.f k a0 = some r) :
 Calls Try.prog 82 #[.string a0] w fun e w' => e = .returned (.bool r) ∧ Drawn0 w w' := by
 have H : (spec_l1Line.l0 k a0 0) = some r := h; clear h; have H' := Aside0.mk H; clear H; go_enter Try.func82, Try.ntmps82; go_wp2; go_loopg [3] k (fun kq v3 w' => ∃ (x3_1 : Int), v3 = .int .i64 x3_1 ∧ Aside0 (spec_l1Line.l0 kq a0 x3_1 = some r) ∧ Aside0 (kq ≤ k) ∧ Drawn0 w w')
 case atStart => exact ⟨(0), (by first | rfl | (simp; done) | (simp [*]; done)), H', ⟨Nat.le_refl _⟩, by repeat (first | exact Drawn0.refl _ | apply Drawn0.step)⟩
 case round =>
  clear H'; obtain ⟨x3_1, rfl, HA, HK1, ⟨m1, rfl⟩⟩ := hrel
  cases gk with
  | zero => exact absurd HA.out (by simp [spec_l1Line.l0])
  | succ k1 =>
   have H := HA.out; clear HA; simp only [spec_l1Line.l0] at H; by_cases c2 : x3_1 < (a0.size : Int)
   ·rw [if_pos c2] at H; have c2b0 : decide (x3_1 < (a0.size : Int)) = true := decide_eq_true c2; clear c2; by_cases c3 : 0 ≤ x3_1
    ·rw [if_pos c3] at H; have c3b0 : decide (0 ≤ x3_1) = true := decide_eq_true c3; clear c3; by_cases c5 : (bt a0 x3_1) < 32
     ·rw [if_pos c5] at H; have c5b0 : decide ((bt a0 x3_1) < 32) = true := decide_eq_true c5; clear c5; obtain rfl := Option.some.inj H; have p4 : 0 ≤ (x3_1 : Int) := of_decide_eq_true (by assumption); have q4 : x3_1 < (a0.size : Int) := of_decide_eq_true (by assumption); have hx4 := bt_at a0 x3_1; replace p4 := eq_true p4; replace q4 := eq_true q4; go_wp2; go_ret; exact ⟨by first | rfl | (simp; done) | (simp [*]; done), by repeat (first | exact Drawn0.refl _ | apply Drawn0.step)⟩
     ·rw [if_neg c5] at H; have c5b0 : decide ((bt a0 x3_1) < 32) = false := decide_eq_false c5; clear c5; by_cases c7 : (bt a0 x3_1) > 126
      ·rw [if_pos c7] at H; have c7b0 : decide (126 < (bt a0 x3_1)) = true := decide_eq_true c7; clear c7; obtain rfl := Option.some.inj H; have p4 : 0 ≤ (x3_1 : Int) := of_decide_eq_true (by assumption); have q4 : x3_1 < (a0.size : Int) := of_decide_eq_true (by assumption); have hx4 := bt_at a0 x3_1; replace p4 := eq_true p4; replace q4 := eq_true q4; have p6 : 0 ≤ (x3_1 : Int) := of_decide_eq_true (by assumption); have q6 : x3_1 < (a0.size : Int) := of_decide_eq_true (by assumption); have hx6 := bt_at a0 x3_1; replace p6 := eq_true p6; replace q6 := eq_true q6; go_wp2; go_ret; exact ⟨by first | rfl | (simp; done) | (simp [*]; done), by repeat (first | exact Drawn0.refl _ | apply Drawn0.step)⟩
      ·rw [if_neg c7] at H; have c7b0 : decide (126 < (bt a0 x3_1)) = false := decide_eq_false c7; clear c7; have H' := Aside0.mk H; clear H; have p4 : 0 ≤ (x3_1 : Int) := of_decide_eq_true (by assumption); have q4 : x3_1 < (a0.size : Int) := of_decide_eq_true (by assumption); have hx4 := bt_at a0 x3_1; replace p4 := eq_true p4; replace q4 := eq_true q4; have p6 : 0 ≤ (x3_1 : Int) := of_decide_eq_true (by assumption); have q6 : x3_1 < (a0.size : Int) := of_decide_eq_true (by assumption); have hx6 := bt_at a0 x3_1; replace p6 := eq_true p6; replace q6 := eq_true q6; go_wp2; go_roundg k1
       case measure => have := HK1.out; omega
       case rel => exact ⟨(wrap64 (x3_1 + 1)), (by first | rfl | (simp; done) | (simp [*]; done)), H', ⟨by have := HK1.out; omega⟩, by repeat (first | exact Drawn0.refl _ | apply Drawn0.step)⟩
    ·rw [if_neg c3] at H; exact absurd H (by simp)
   ·rw [if_neg c2] at H; have c2b0 : decide (x3_1 < (a0.size : Int)) = false := decide_eq_false c2; clear c2; obtain rfl := Option.some.inj H; go_wp2; go_ret; exact ⟨by first | rfl | (simp; done) | (simp [*]; done), by repeat (first | exact Drawn0.refl _ | apply Drawn0.step)⟩
end Go.Proofs.Ytfpdkeolecmepaa.Q
end
section
namespace Go.Proofs.Ytfpdkeolecmepaa.Q
open Go.RowKit Go.Proofs.YtfpdkeolecmepaaW.PrintWords Go.Proofs.YtfpdkeolecmepaaW.PrintLast Go.Proofs.YtfpdkeolecmepaaW.PrintMore
attribute [local go_sem] max2_int min2_int max_two min_two max_three min_three max_four min_four   -- for this text's walks alone
set_option linter.unusedVariables false
set_option linter.unusedSimpArgs false
def spec_l1Ok.l0 : Nat → List ByteArray → Int → Option (Bool)
 | 0, _, _ => none
 | k + 1, x0, x3 => if x3 < (x0.length : Int) then (if 0 ≤ x3 then ((spec_l1Line.f k (rdOf ByteArray.empty x0 x3)).bind fun t275 => (if t275 = true then (spec_l1Ok.l0 k x0 (wrap64 (x3 + 1))) else (some false))) else (none)) else (some (decide ((x0.length : Int) ≤ 10)))
def spec_l1Ok.f (k : Nat) (l0 : List ByteArray) : Option (Bool) := spec_l1Ok.l0 k l0 0
set_option maxHeartbeats 8000000 in
set_option maxRecDepth 100000 in
theorem spec_l1Ok.calls (k : Nat) (A0 : Option Addr) (c0 : Nat) (l0 : List ByteArray) (r : Bool) (w : World) (hr0 : Kd.C Kd.string w A0 l0.length l0) (hc0 : l0.length ≤ c0) (h : spec_l1Ok.f k l0 = some r) :
 Calls Try.prog 50 #[.slice A0 l0.length c0] w fun e w' => e = .returned (.bool r) ∧ Drawn0 w w' := by
 have HR0 := Aside0.mk hr0; have HC0 := Aside0.mk hc0; clear hr0 hc0; have H : (spec_l1Ok.l0 k l0 0) = some r := h; clear h; have H' := Aside0.mk H; clear H; go_enter Try.func50, Try.ntmps50; go_wp2; go_loopg [3] k (fun kq v3 w' => ∃ (x3_1 : Int), v3 = .int .i64 x3_1 ∧ Aside0 (spec_l1Ok.l0 kq l0 x3_1 = some r) ∧ Aside0 (kq ≤ k) ∧ Drawn0 w w')
 case atStart => exact ⟨(0), (by first | rfl | (simp; done) | (simp [*]; done)), H', ⟨Nat.le_refl _⟩, by repeat (first | exact Drawn0.refl _ | apply Drawn0.step)⟩
 case round =>
  clear H'; obtain ⟨x3_1, rfl, HA, HK1, ⟨m1, rfl⟩⟩ := hrel
  cases gk with
  | zero => exact absurd HA.out (by simp [spec_l1Ok.l0])
  | succ k1 =>
   have H := HA.out; clear HA; simp only [spec_l1Ok.l0] at H; by_cases c2 : x3_1 < (l0.length : Int)
   ·rw [if_pos c2] at H; have c2b0 : decide (x3_1 < (l0.length : Int)) = true := decide_eq_true c2; clear c2; by_cases c3 : 0 ≤ x3_1
    ·rw [if_pos c3] at H; have c3b0 : decide (0 ≤ x3_1) = true := decide_eq_true c3; clear c3; replace H := Option.bind_eq_some_iff.mp H; obtain ⟨t275, A40, H⟩ := H; replace H : (if t275 = true then (spec_l1Ok.l0 k1 l0 (wrap64 (x3_1 + 1))) else (some false)) = some r := H; have A4 := Aside0.mk A40; clear A40; by_cases c5 : t275 = true
     ·subst c5; (have H1 : (spec_l1Ok.l0 k1 l0 (wrap64 (x3_1 + 1))) = some r := by rw [if_pos rfl] at H; exact H); clear H; have H := H1; clear H1; have H' := Aside0.mk H; clear H; have p274 : 0 ≤ (x3_1 : Int) := of_decide_eq_true (by assumption); have q274 : x3_1 < (l0.length : Int) := of_decide_eq_true (by assumption); obtain ⟨ad274, e274, hx274_0⟩ := Kd.at_string HR0.out x3_1 p274 q274; cases e274; replace p274 := eq_true p274; replace q274 := eq_true q274; go_wp2_with (first | ((with_reducible refine gate_callee (f := 82) rfl ?_); refine goesL_ (some 14) rfl rfl Try.func82 (by kernel_rfl) rfl #[.string (rdOf ByteArray.empty l0 x3_1)] rfl (by (try simp only [List.map_toArray, List.map_cons, List.map_nil]); first | done | rfl | (simp only [List.length_drop, List.length_take]; rfl)) ?_; (with_reducible refine (spec_l1Line.calls k1 (rdOf ByteArray.empty l0 x3_1) true _ A4.out).mono ?_); rintro e w' ⟨rfl, ⟨nd, rfl⟩⟩; refine ⟨_, rfl, ?_⟩)); go_roundg k1
      case measure => have := HK1.out; omega
      case rel => exact ⟨(wrap64 (x3_1 + 1)), (by first | rfl | (simp; done) | (simp [*]; done)), H', ⟨by have := HK1.out; omega⟩, by repeat (first | exact Drawn0.refl _ | apply Drawn0.step)⟩
     ·replace c5 := Bool.eq_false_iff.mpr c5; subst c5; (have H1 : (some false) = some r := by rw [if_neg (show ¬ (false = true) by decide)] at H; exact H); clear H; have H := H1; clear H1; obtain rfl := Option.some.inj H; have p274 : 0 ≤ (x3_1 : Int) := of_decide_eq_true (by assumption); have q274 : x3_1 < (l0.length : Int) := of_decide_eq_true (by assumption); obtain ⟨ad274, e274, hx274_0⟩ := Kd.at_string HR0.out x3_1 p274 q274; cases e274; replace p274 := eq_true p274; replace q274 := eq_true q274; go_wp2_with (first | ((with_reducible refine gate_callee (f := 82) rfl ?_); refine goesL_ (some 14) rfl rfl Try.func82 (by kernel_rfl) rfl #[.string (rdOf ByteArray.empty l0 x3_1)] rfl (by (try simp only [List.map_toArray, List.map_cons, List.map_nil]); first | done | rfl | (simp only [List.length_drop, List.length_take]; rfl)) ?_; (with_reducible refine (spec_l1Line.calls k1 (rdOf ByteArray.empty l0 x3_1) false _ A4.out).mono ?_); rintro e w' ⟨rfl, ⟨nd, rfl⟩⟩; refine ⟨_, rfl, ?_⟩)); go_ret; exact ⟨by first | rfl | (simp; done) | (simp [*]; done), by repeat (first | exact Drawn0.refl _ | apply Drawn0.step)⟩
    ·rw [if_neg c3] at H; exact absurd H (by simp)
   ·rw [if_neg c2] at H; have c2b0 : decide (x3_1 < (l0.length : Int)) = false := decide_eq_false c2; clear c2; obtain rfl := Option.some.inj H; go_wp2; go_ret; exact ⟨by first | rfl | (simp; done) | (simp [*]; done), by repeat (first | exact Drawn0.refl _ | apply Drawn0.step)⟩
end Go.Proofs.Ytfpdkeolecmepaa.Q
end
