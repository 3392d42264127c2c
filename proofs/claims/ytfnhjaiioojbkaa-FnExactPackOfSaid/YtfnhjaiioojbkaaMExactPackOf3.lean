/- A part of the proof of FnExactPackOf: functions of the program, the reference and the law, each with what its call comes to. Conditions: those that each theorem names. -/
import Derived.Shelf.Abstract
import Derived.Test.YtfnhjaiioojbkaaMExactPackOf0
import Derived.Test.YtfnhjaiioojbkaaMExactPackOf1
import Derived.Test.YtfnhjaiioojbkaaMExactPackOf2
set_option linter.unusedVariables false
set_option linter.unusedSimpArgs false
section
namespace Go.Proofs.Ytfnhjaiioojbkaa.Q
open Go.RowKit Go.Proofs.YtfnhjaiioojbkaaW.PrintWords Go.Proofs.YtfnhjaiioojbkaaW.PrintLast Go.Proofs.YtfnhjaiioojbkaaW.PrintMore
attribute [local go_sem] max2_int min2_int max_two min_two max_three min_three max_four min_four   -- for this text's walks alone
set_option linter.unusedVariables false
set_option linter.unusedSimpArgs false
mutual
def spec_PackOf.l0 : Nat → List (List ByteArray) → List (S53) → Int → Option ((List (S53)))
 | 0, _, _, _ => none
 | k + 1, x0, x3, x4 => if x4 < (x0.length : Int) then (if 0 ≤ x4 then ((spec_l1Ok.f k (rd_L2 x0 x4)).bind fun t686 => (if t686 = true then ((spec_l13Of.f k ([] : List ByteArray) (rd_L2 x0 x4)).bind fun t688 => (spec_PackOf.l1 k x0 x3 x4 0 (-1) t688)) else (some ([] : List (S53))))) else (none)) else (some x3)
def spec_PackOf.l1 : Nat → List (List ByteArray) → List (S53) → Int → Int → Int → List (S39) → Option ((List (S53)))
 | 0, _, _, _, _, _, _ => none
 | k + 1, x0, x3, x4, x6, x692000, x692001 => if x6 < x4 then (if 0 ≤ x6 then (if x6 < (x0.length : Int) then (if 0 ≤ x4 then (if x4 < (x0.length : Int) then ((spec_l13Of.f k (rd_L2 x0 x6) (rd_L2 x0 x4)).bind fun t697 => ((spec_l13Deep.f k x3 x6).bind fun t700 => (if t700 < 3 then ((spec_l13Size.f k t697).bind fun t701 => ((spec_l13Size.f k x692001).bind fun t702 => (if t701 < t702 then (spec_PackOf.l1 k x0 x3 x4 (wrap64 (x6 + 1)) x6 t697) else (spec_PackOf.l1 k x0 x3 x4 (wrap64 (x6 + 1)) x692000 x692001)))) else (spec_PackOf.l1 k x0 x3 x4 (wrap64 (x6 + 1)) x692000 x692001)))) else (none)) else (none)) else (none)) else (none)) else (if x3.length < 4398046511104 then (spec_PackOf.l0 k x0 (x3 ++ [(⟨x692000, x692001⟩ : S53)]) (wrap64 (x4 + 1))) else (none))
end
def spec_PackOf.f (k : Nat) (l0 : List (List ByteArray)) : Option ((List (S53))) := if (l0.length : Int) > 12 then (some ([] : List (S53))) else (spec_PackOf.l0 k l0 (([] : List (S53))) 0)
def spec_PackOf.T13 : Bool × List (List Nat × List Nat) := (true, [([], []), ([], []), ([0, 1], [0, 1]), ([2], [2]), ([], []), ([], []), ([4, 5], [4, 5]), ([6], [6]), ([3, 7], [3, 7]), ([8, 8, 0, 1, 2, 3, 4, 5, 6, 7, 8], [8])])
def spec_PackOf.B13 : List Nat := [0, 0, 3, 7, 0, 0, 48, 112, 255, 511]
theorem spec_PackOf.tab13 : rtab .any (opsOf Try.f49 13) = spec_PackOf.T13 := by kernel_rfl
theorem spec_PackOf.bits13 : waitsOk spec_PackOf.T13.2 spec_PackOf.B13 = true := by kernel_rfl
def spec_PackOf.T14 : Bool × List (List Nat × List Nat) := (true, [([], []), ([], []), ([0, 1], [0, 1]), ([2], [2]), ([3, 2], [3]), ([4], [4]), ([5, 4, 4], [4, 5]), ([4], [4]), ([7, 4], [4, 7]), ([8, 6, 4], [4, 8]), ([6, 9, 4], [4, 6, 9]), ([4, 10], [4, 10])])
def spec_PackOf.B14 : List Nat := [0, 0, 3, 7, 15, 31, 63, 31, 159, 511, 1023, 2047]
theorem spec_PackOf.tab14 : rtab .any (opsOf Try.f49 14) = spec_PackOf.T14 := by kernel_rfl
theorem spec_PackOf.bits14 : waitsOk spec_PackOf.T14.2 spec_PackOf.B14 = true := by kernel_rfl
theorem spec_PackOf.split {α β : Type} {d : Kd α} {d' : Kd β} {e e' : Nat} {W w1 : World} {base : Nat} {ok : Nat → Prop} {u v : Value} {xs : List α} {ys : List β} (h : Kd.S d e W base ok u xs) (h2 : Kd.S d' e' w1 W.heap.size (fun k => W.heap.size ≤ k) v ys) (hb : Below W.heap.size W w1) :
 ∃ N : Nat, N ≤ w1.heap.size ∧ Kd.S d e w1 base (fun k => (k < N ∧ ok k) ∧ some k ≠ v.ownBlock) u xs ∧ Kd.S d' e' w1 W.heap.size (fun k => N ≤ k) v ys :=
 ⟨W.heap.size, below_size hb, Kd.S_elder' (Kd.S_mono (Kd.S_bound h) (fun _ hk => ⟨hk.2.2.1, hk.1⟩)) (Kd.S_base h2) hb, h2⟩
set_option maxHeartbeats 8000000 in
set_option maxRecDepth 100000 in
theorem spec_PackOf.calls (k : Nat) (A0 : Option Addr) (c0 : Nat) (l0 : List (List ByteArray)) (r : List (S53)) (w : World) (hr0 : Kd.C (Kd.slice 9 Kd.string) w A0 l0.length l0) (hc0 : l0.length ≤ c0) (h : spec_PackOf.f k l0 = some r) :
 Calls Try.prog 49 #[.slice A0 l0.length c0] w fun e w' => ∃ v0_ : Value, e = .returned (v0_) ∧ Kd.S k53 53 w' w.heap.size (fun _ => True) v0_ r ∧ Below w.heap.size w w' := by
 have hu53 := Try.underlying53; have HR0 := Aside0.mk hr0; have HC0 := Aside0.mk hc0; clear hr0 hc0; have HB := Aside0.mk (Below.refl w.heap.size w); have H : (if (l0.length : Int) > 12 then (some ([] : List (S53))) else (spec_PackOf.l0 k l0 (([] : List (S53))) 0)) = some r := h; clear h; obtain ⟨y682, hy682⟩ : ∃ y_ : List (S53), y_ = (([] : List (S53))) := ⟨_, rfl⟩; (replace H : (if (l0.length : Int) > 12 then (some ([] : List (S53))) else (spec_PackOf.l0 k l0 y682 0)) = some r := by first | (rw [hy682]; with_reducible exact H) | (have H2_ := (Option.bind_some _ _).symm.trans H; rw [hy682]; with_reducible exact H2_) | (have H2_ := (Option.bind_some _ _).symm.trans H; with_reducible exact H2_) | with_reducible exact H | (rw [hy682]; exact H) | exact H); have Ny682 := Aside0.mk hy682; clear hy682; by_cases c2 : (l0.length : Int) > 12
 ·rw [if_pos c2] at H; have c2b0 : decide (12 < (l0.length : Int)) = true := decide_eq_true c2; have c2b1 : decide (12 < l0.length) = true := decide_eq_true (by omega); clear c2; obtain rfl := Option.some.inj H; go_enter Try.func49, Try.ntmps49; go_wp2_with (first | ((with_reducible refine gate_dst (N := 8) rfl ?_); refine Kd.S_lit k53 _ 53 ?hg (N := 8) ?hd (xs := ([] : List (S53))) (inner := []) (ok := fun _ => True) (okp := fun _ => True) ?hr ?hp (fun _ hk => hk) trivial (Below.refl _ _) (Nat.le_refl _) (by simp) ?_; (case hd => rfl); (case hg => rfl); (case hr => first | (go_simp; done) | (go_simp; rfl)); (case hp => exact (Reps.none _ _)); intro v683 w3 ho4 hb hg_ hnew_; clear hg_ hnew_; (first | rw [← Ny682.out] at ho4 | (simp only [Int.reduceToNat] at ho4; rw [← Ny682.out] at ho4)); have n0_ := Aside0.mk (Kd.S_lower ho4 (below_size (by repeat (first | (with_reducible first | exact HB.out | apply below_alloc | apply pw_below_drewN | apply below_drew1) | exact HB.out)))); have n1_ := Aside0.mk (below_step (by repeat (first | (with_reducible first | exact HB.out | apply below_alloc | apply pw_below_drewN | apply below_drew1) | exact HB.out)) hb); clear HB; have HO684 := n0_; have HB := n1_; clear n0_ n1_; clear hb ho4)); go_ret; exact ⟨_, by first | rfl | (simp <;> rfl) | (simp [*] <;> rfl), by first | exact Kd.S_nil _ _ _ _ _ | exact Kd.N_nil _ _ _ _ _ | exact Kd.V_nil _ _ _ _ _ | exact Kd.Q_nil _ _ _ _ _ | exact Kd.R_nil _ _ _ _ _, by repeat (first | (with_reducible first | exact HB.out | apply below_alloc | apply pw_below_drewN | apply below_drew1) | exact HB.out)⟩
 ·rw [if_neg c2] at H; have c2b0 : decide (12 < (l0.length : Int)) = false := decide_eq_false c2; have c2b1 : decide (12 < l0.length) = false := decide_eq_false (by omega); clear c2; have H' := Aside0.mk H; clear H; go_enter Try.func49, Try.ntmps49; go_wp2_with (first | ((with_reducible refine gate_dst (N := 8) rfl ?_); refine Kd.S_lit k53 _ 53 ?hg (N := 8) ?hd (xs := ([] : List (S53))) (inner := []) (ok := fun _ => True) (okp := fun _ => True) ?hr ?hp (fun _ hk => hk) trivial (Below.refl _ _) (Nat.le_refl _) (by simp) ?_; (case hd => rfl); (case hg => rfl); (case hr => first | (go_simp; done) | (go_simp; rfl)); (case hp => exact (Reps.none _ _)); intro v683 w5 ho6 hb hg_ hnew_; clear hg_ hnew_; (first | rw [← Ny682.out] at ho6 | (simp only [Int.reduceToNat] at ho6; rw [← Ny682.out] at ho6)); have n0_ := Aside0.mk (Kd.S_lower ho6 (below_size (by repeat (first | (with_reducible first | exact HB.out | apply below_alloc | apply pw_below_drewN | apply below_drew1) | exact HB.out)))); have n1_ := Aside0.mk (below_step (by repeat (first | (with_reducible first | exact HB.out | apply below_alloc | apply pw_below_drewN | apply below_drew1) | exact HB.out)) hb); clear HB; have HO684 := n0_; have HB := n1_; clear n0_ n1_; clear hb ho6)); go_loopg [3, 4] k (fun kq v3 v4 w' => ∃ (x3_1 : List (S53)) (x4_1 : Int), v4 = .int .i64 x4_1 ∧ Aside0 (spec_PackOf.l0 kq l0 x3_1 x4_1 = some r) ∧ Aside0 (kq ≤ k) ∧ Aside0 (Kd.S k53 53 w' w.heap.size (fun _ => True) v3 x3_1) ∧ Aside0 (Below w.heap.size w w'))
  case atStart => exact ⟨(y682), (0), (by first | rfl | (simp; done) | (simp [*]; done)), H', ⟨Nat.le_refl _⟩, ⟨by (with_reducible repeat (first | apply Kd.S_alloc | apply Kd.S_drewN | apply Kd.S_drew)); exact HO684.out⟩, ⟨by repeat (first | (with_reducible first | exact HB.out | apply below_alloc | apply pw_below_drewN | apply below_drew1) | exact HB.out)⟩⟩
  case round =>
   clear H'; (try clear c2); (try clear c2b0); (try clear c2b1); (try clear p2); (try clear c4); obtain ⟨x3_1, x4_1, rfl, HA, HK1, HO_3, HB⟩ := hrel
   cases gk with
   | zero => exact absurd HA.out (by simp [spec_PackOf.l0])
   | succ k1 =>
    have H := HA.out; clear HA; simp only [spec_PackOf.l0] at H; by_cases c7 : x4_1 < (l0.length : Int)
    ·rw [if_pos c7] at H; have c7b0 : decide (x4_1 < (l0.length : Int)) = true := decide_eq_true c7; clear c7; by_cases c8 : 0 ≤ x4_1
     ·rw [if_pos c8] at H; have c8b0 : decide (0 ≤ x4_1) = true := decide_eq_true c8; clear c8; replace H := Option.bind_eq_some_iff.mp H; obtain ⟨t686, A90, H⟩ := H; replace H : (if t686 = true then ((spec_l13Of.f k1 ([] : List ByteArray) (rd_L2 l0 x4_1)).bind fun t688 => (spec_PackOf.l1 k1 l0 x3_1 x4_1 0 (-1) t688)) else (some ([] : List (S53)))) = some r := H; have A9 := Aside0.mk A90; clear A90; by_cases c10 : t686 = true
      ·subst c10; (have H1 : ((spec_l13Of.f k1 ([] : List ByteArray) (rd_L2 l0 x4_1)).bind fun t688 => (spec_PackOf.l1 k1 l0 x3_1 x4_1 0 (-1) t688)) = some r := by rw [if_pos rfl] at H; exact H); clear H; have H := H1; clear H1; replace H := Option.bind_eq_some_iff.mp H; obtain ⟨t688, A110, H⟩ := H; replace H : (spec_PackOf.l1 k1 l0 x3_1 x4_1 0 (-1) t688) = some r := H; have A11 := Aside0.mk A110; clear A110; have H' := Aside0.mk H; clear H; have p685 : 0 ≤ (x4_1 : Int) := of_decide_eq_true (by assumption); have q685 : x4_1 < (l0.length : Int) := of_decide_eq_true (by assumption); obtain ⟨ad685, A685_0, c685_0, e685, hx685_0, hl685_0, hi685_0⟩ := at_L2 HR0.out x4_1 p685 q685; cases e685; have hw685_0 := hx685_0; replace hx685_0 := (HB.out.cell (World.block_lt_of_cell? w _ hx685_0)).trans hx685_0; have HR685_0 := Aside0.mk hi685_0; have HC685_0 := Aside0.mk hl685_0; clear hi685_0 hl685_0; replace p685 := eq_true p685; replace q685 := eq_true q685; go_wp2_with (first | ((first | ((with_reducible refine gate_callee (f := 71) rfl ?_); refine goesL_ (some 22) rfl rfl Try.func71 (by kernel_rfl) rfl #[.slice A685_0 (rd_L2 l0 x4_1).length c685_0] rfl (by (try simp only [List.map_toArray, List.map_cons, List.map_nil]); first | done | rfl | (simp only [List.length_drop, List.length_take]; rfl)) ?_) | go_at_call 71); (with_reducible refine (spec_l1Ok.calls k1 _ _ (rd_L2 l0 x4_1) true _ ?side1 ?side2 A9.out).mono ?_); (case side1 => repeat (first | exact (Kd.C_below HR685_0.out HB.out) | (with_reducible refine Kd.C_alloc ?_ _) | (with_reducible refine Kd.C_drewN ?_ _) | (with_reducible refine Kd.C_drew ?_))); (case side2 => exact HC685_0.out); rintro e w' ⟨rfl, ⟨nd, rfl⟩⟩; (try refine ⟨_, rfl, ?_⟩); (try (rw [drewN_self wr]; generalize hq_ : World.drewN wr _ = wr; have n0_ : Aside0 (Kd.S k53 53 wr w.heap.size (fun _ => True) u3 x3_1) := ⟨by rw [← hq_]; exact (by (with_reducible repeat (first | apply Kd.S_alloc | apply Kd.S_drewN | apply Kd.S_drew)); exact HO_3.out)⟩; have n1_ : Aside0 (Below w.heap.size w wr) := ⟨by rw [← hq_]; exact (by repeat (first | (with_reducible first | exact HB.out | apply below_alloc | apply pw_below_drewN | apply below_drew1) | exact HB.out))⟩; clear HO_3 HB hq_; have HO_3 := n0_; have HB := n1_; clear n0_ n1_)); have p687 : 0 ≤ (x4_1 : Int) := of_decide_eq_true (by assumption); have q687 : x4_1 < (l0.length : Int) := of_decide_eq_true (by assumption); obtain ⟨ad687, A687_0, c687_0, e687, hx687_0, hl687_0, hi687_0⟩ := at_L2 HR0.out x4_1 p687 q687; obtain rfl : ad685 = ad687 := (by injection e687); have hw687_0 := hx687_0; replace hx687_0 := (HB.out.cell (World.block_lt_of_cell? w _ hx687_0)).trans hx687_0; have HR687_0 := Aside0.mk hi687_0; have HC687_0 := Aside0.mk hl687_0; clear hi687_0 hl687_0; replace p687 := eq_true p687; replace q687 := eq_true q687; have ea_ := Option.some.inj (hw685_0.symm.trans hw687_0); injection ea_ with ea_ en_ ec_; subst ea_; subst ec_; clear en_) | ((first | ((with_reducible refine gate_callee (f := 72) rfl ?_); refine goesL_ (some 28) rfl rfl Try.func72 (by kernel_rfl) rfl #[.slice none 0 0, .slice A685_0 (rd_L2 l0 x4_1).length c685_0] rfl (by (try simp only [List.map_toArray, List.map_cons, List.map_nil]); first | done | rfl | (simp only [List.length_drop, List.length_take]; rfl)) ?_) | go_at_call 72); (refine (spec_l13Of.calls k1 _ _ ([] : List ByteArray) (fun k_ => k_ < w.heap.size) _ _ (rd_L2 l0 x4_1) t688 _ ?side1 ?side2 ?side3 A11.out).mono ?_); (case side1 => exact Kd.C_nil _ _); (case side2 => exact Nat.le_refl _); (case side3 => exact Kd.V_mk HC687_0.out (Kd.F_below (Kd.C_F Kd.heap_string HR687_0.out) (by repeat (first | (with_reducible first | exact HB.out | apply below_alloc | apply pw_below_drewN | apply below_drew1) | exact HB.out)))); rintro e w12 ⟨v689, rfl, ho0, hb⟩; (try refine ⟨_, rfl, ?_⟩); obtain ⟨N_, hN_, hO_, hV_⟩ := spec_PackOf.split (by (with_reducible repeat (first | apply Kd.S_alloc | apply Kd.S_drewN | apply Kd.S_drew)); exact HO_3.out) ho0 hb; have HZN := Aside0.mk hN_; clear hN_; have n0_ := Aside0.mk hO_; have n1_ := Aside0.mk (Kd.S_lower hV_ (below_size (by repeat (first | (with_reducible first | exact HB.out | apply below_alloc | apply pw_below_drewN | apply below_drew1) | exact HB.out)))); have n2_ := Aside0.mk (below_step (by repeat (first | (with_reducible first | exact HB.out | apply below_alloc | apply pw_below_drewN | apply below_drew1) | exact HB.out)) hb); clear HO_3; clear HB; have HO_3 := n0_; have HO690 := n1_; have HB := n2_; clear n0_ n1_ n2_; (try clear hb); (try clear hb2); (try clear hk); (try clear hi); (try clear ho0); obtain ⟨Ao13, co13, eo13⟩ := Kd.S_slice HO690.out; subst eo13) | ((with_reducible refine gate_dst (N := 5) rfl ?_); refine box_event ?hg (N := 5) ?hd (cs := #[.int .i64 0, .slice none 0 0]) (t := 53) ?hr ?_; (case hd => rfl); (case hg => rfl); (case hr => first | (go_simp; done) | (go_simp; rfl)); intro gb691 hg w14 hbox hb; have HGN := Aside0.mk (show N_ ≤ gb691 by rw [hg]; exact HZN.out); clear HZN; have n0_ := Aside0.mk (Kd.S_below (Kd.S_elderB (by (with_reducible repeat (first | apply Kd.S_alloc | apply Kd.S_drewN | apply Kd.S_drew)); exact HO_3.out) gb691 (Nat.le_of_eq hg.symm)) hb); have n1_ := Aside0.mk (Kd.S_below (by (with_reducible repeat (first | apply Kd.S_alloc | apply Kd.S_drewN | apply Kd.S_drew)); exact HO690.out) hb); have n2_ := Aside0.mk (below_step (by repeat (first | (with_reducible first | exact HB.out | apply below_alloc | apply pw_below_drewN | apply below_drew1) | exact HB.out)) hb); have n3_ := Aside0.mk (hbox); have n4_ := Aside0.mk ((by rw [hg]; exact (below_size (by repeat (first | (with_reducible first | exact HB.out | apply below_alloc | apply pw_below_drewN | apply below_drew1) | exact HB.out))) : w.heap.size ≤ gb691)); have n5_ := Aside0.mk ((by rw [hg]; exact (below_size (by repeat (first | (with_reducible first | exact HB.out | apply below_alloc | apply pw_below_drewN | apply below_drew1) | exact HB.out))) : w.heap.size ≤ gb691)); clear HO_3; clear HO690; clear HB; have HO_3 := n0_; have HO690 := n1_; have HB := n2_; have BK691 := n3_; have GW691 := n4_; have GE691 := n5_; clear n0_ n1_ n2_ n3_ n4_ n5_; clear hb hbox hg; have hcz15_0 : w14.cell? ⟨gb691, 0, none⟩ = some (.int .i64 0) := (blk_cell BK691.out 0).trans rfl; have hcz15_1 : w14.cell? ⟨gb691, 1, none⟩ = some (.slice none 0 0) := (blk_cell BK691.out 1).trans rfl; have hfz15_0 := blk_frozen BK691.out 0; have hfz15_1 := blk_frozen BK691.out 1))
       go_loopg [6] k1 (fun kq v6 w' => ∃ (x6_2 : Int) (x692000_2 : Int) (x692001_2 : List (S39)) (u692001 : Value), v6 = .int .i64 x6_2 ∧ Aside0 (spec_PackOf.l1 kq l0 x3_1 x4_1 x6_2 x692000_2 x692001_2 = some r) ∧ Aside0 (kq ≤ k1) ∧ Aside0 (Kd.S k53 53 w' w.heap.size (fun k_ => (some k_ ≠ (u692001 : Value).ownBlock ∧ k_ < N_) ∧ k_ ≠ gb691) u3 x3_1) ∧ Aside0 (Kd.S k39 39 w' w.heap.size (fun k_ => N_ ≤ k_) u692001 x692001_2) ∧ Aside0 (w'.heap[gb691]? = some (.cells #[.int .i64 x692000_2, u692001] 53 (0, 0))) ∧ Aside0 (Below w.heap.size w w'))
       case atStart => exact ⟨(0), ((-1)), (t688), (.slice Ao13 t688.length co13), (by first | rfl | (simp; done) | (simp [*]; done)), H', ⟨Nat.le_refl _⟩, ⟨by (with_reducible repeat (first | apply Kd.S_alloc | apply Kd.S_drewN | apply Kd.S_drew)); exact Kd.S_mono (Kd.S_far (p := ⟨gb691, 1, none⟩) (Kd.S_far (p := ⟨gb691, 0, none⟩) (Kd.S_mono HO_3.out (fun k_ hk => (⟨hk, hk.2⟩ : _ ∧ k_ ≠ gb691))) (fun _ hk => hk.2) (.int .i64 (-1))) (fun _ hk => hk.2) (.slice Ao13 t688.length co13)) (fun _ hk => ⟨⟨hk.1.1.2, hk.1.1.1.1⟩, hk.1.2⟩)⟩, ⟨by (with_reducible repeat (first | apply Kd.S_alloc | apply Kd.S_drewN | apply Kd.S_drew)); exact Kd.S_mono (Kd.S_far (p := ⟨gb691, 1, none⟩) (Kd.S_far (p := ⟨gb691, 0, none⟩) (Kd.S_types HO690.out BK691.out (by decide)) (fun _ hk => hk.2) (.int .i64 (-1))) (fun _ hk => hk.2) (.slice Ao13 t688.length co13)) (fun _ hk => hk.1)⟩, ⟨by (with_reducible repeat (first | refine blk_drewN ?_ _ | refine blk_drew ?_ | refine blk_alloc ?_ _)); refine blk_put (cs := #[.int .i64 (-1), .slice none 0 0]) ?_ 1 _ rfl; (with_reducible repeat (first | refine blk_drewN ?_ _ | refine blk_drew ?_ | refine blk_alloc ?_ _)); refine blk_put (cs := #[.int .i64 0, .slice none 0 0]) ?_ 0 _ rfl; (with_reducible repeat (first | refine blk_drewN ?_ _ | refine blk_drew ?_ | refine blk_alloc ?_ _)); exact BK691.out⟩, ⟨by repeat (first | (with_reducible first | exact HB.out | apply below_alloc | apply pw_below_drewN | apply below_drew1 | refine below_set ?_ GE691.out) | exact HB.out)⟩⟩
       case round =>
        clear H'; (try clear c1); (try clear c2); (try clear c2b0); (try clear c2b1); (try clear p2); (try clear c4); (try clear c6); (try clear p6); (try clear q6); (try clear hx6); (try clear c7); (try clear c7b0); (try clear c8); (try clear c8b0); (try clear c10); (try clear hcz15_0); (try clear hcz15_1); (try clear hfz15_0); (try clear hfz15_1); (try clear hx685_0); (try clear hx687_0); (try clear p2); (try clear p685); (try clear p687); (try clear q685); (try clear q687); obtain ⟨x6_2, x692000_2, x692001_2, u692001, rfl, HA, HK2, HO_3, HO_692001, BK691, HB⟩ := hrel
        cases gk with
        | zero => exact absurd HA.out (by simp [spec_PackOf.l1])
        | succ k2 =>
         have H := HA.out; clear HA; simp only [spec_PackOf.l1] at H; by_cases c16 : x6_2 < x4_1
         ·rw [if_pos c16] at H; have c16b0 : decide (x6_2 < x4_1) = true := decide_eq_true c16; clear c16; by_cases c17 : 0 ≤ x6_2
          ·rw [if_pos c17] at H; have c17b0 : decide (0 ≤ x6_2) = true := decide_eq_true c17; clear c17; by_cases c18 : x6_2 < (l0.length : Int)
           ·rw [if_pos c18] at H; have c18b0 : decide (x6_2 < (l0.length : Int)) = true := decide_eq_true c18; clear c18; by_cases c19 : 0 ≤ x4_1
            ·rw [if_pos c19] at H; have c19b0 : decide (0 ≤ x4_1) = true := decide_eq_true c19; clear c19; by_cases c20 : x4_1 < (l0.length : Int)
             ·rw [if_pos c20] at H; have c20b0 : decide (x4_1 < (l0.length : Int)) = true := decide_eq_true c20; clear c20; replace H := Option.bind_eq_some_iff.mp H; obtain ⟨t697, A210, H⟩ := H; replace H : ((spec_l13Deep.f k2 x3_1 x6_2).bind fun t700 => (if t700 < 3 then ((spec_l13Size.f k2 t697).bind fun t701 => ((spec_l13Size.f k2 x692001_2).bind fun t702 => (if t701 < t702 then (spec_PackOf.l1 k2 l0 x3_1 x4_1 (wrap64 (x6_2 + 1)) x6_2 t697) else (spec_PackOf.l1 k2 l0 x3_1 x4_1 (wrap64 (x6_2 + 1)) x692000_2 x692001_2)))) else (spec_PackOf.l1 k2 l0 x3_1 x4_1 (wrap64 (x6_2 + 1)) x692000_2 x692001_2))) = some r := H; have A21 := Aside0.mk A210; clear A210; replace H := Option.bind_eq_some_iff.mp H; obtain ⟨t700, A220, H⟩ := H; replace H : (if t700 < 3 then ((spec_l13Size.f k2 t697).bind fun t701 => ((spec_l13Size.f k2 x692001_2).bind fun t702 => (if t701 < t702 then (spec_PackOf.l1 k2 l0 x3_1 x4_1 (wrap64 (x6_2 + 1)) x6_2 t697) else (spec_PackOf.l1 k2 l0 x3_1 x4_1 (wrap64 (x6_2 + 1)) x692000_2 x692001_2)))) else (spec_PackOf.l1 k2 l0 x3_1 x4_1 (wrap64 (x6_2 + 1)) x692000_2 x692001_2)) = some r := H; have A22 := Aside0.mk A220; clear A220; by_cases c23 : t700 < 3
              ·rw [if_pos c23] at H; have c23b0 : decide (t700 < 3) = true := decide_eq_true c23; clear c23; replace H := Option.bind_eq_some_iff.mp H; obtain ⟨t701, A240, H⟩ := H; replace H : ((spec_l13Size.f k2 x692001_2).bind fun t702 => (if t701 < t702 then (spec_PackOf.l1 k2 l0 x3_1 x4_1 (wrap64 (x6_2 + 1)) x6_2 t697) else (spec_PackOf.l1 k2 l0 x3_1 x4_1 (wrap64 (x6_2 + 1)) x692000_2 x692001_2))) = some r := H; have A24 := Aside0.mk A240; clear A240; replace H := Option.bind_eq_some_iff.mp H; obtain ⟨t702, A250, H⟩ := H; replace H : (if t701 < t702 then (spec_PackOf.l1 k2 l0 x3_1 x4_1 (wrap64 (x6_2 + 1)) x6_2 t697) else (spec_PackOf.l1 k2 l0 x3_1 x4_1 (wrap64 (x6_2 + 1)) x692000_2 x692001_2)) = some r := H; have A25 := Aside0.mk A250; clear A250; by_cases c26 : t701 < t702
               ·rw [if_pos c26] at H; have c26b0 : decide (t701 < t702) = true := decide_eq_true c26; clear c26; have H' := Aside0.mk H; clear H; (try go_wp2); have n0_ := Aside0.mk (Kd.S_drew HO_3.out); have n1_ := Aside0.mk (Kd.S_drew HO_692001.out); have n2_ := Aside0.mk (blk_drew BK691.out); have n3_ := Aside0.mk (below_drew1 HB.out); clear HO_3; clear HO_692001; clear BK691; clear HB; have HO_3 := n0_; have HO_692001 := n1_; have BK691 := n2_; have HB := n3_; clear n0_ n1_ n2_ n3_; have p695 : 0 ≤ (x6_2 : Int) := of_decide_eq_true (by assumption); have q695 : x6_2 < (l0.length : Int) := of_decide_eq_true (by assumption); obtain ⟨ad695, A695_0, c695_0, e695, hx695_0, hl695_0, hi695_0⟩ := at_L2 HR0.out x6_2 p695 q695; have hw695_0 := hx695_0; obtain rfl : ad685 = ad695 := (by injection e695); have hw695_0 := hx695_0; replace hx695_0 := (HB.out.cell (World.block_lt_of_cell? w _ hx695_0)).trans hx695_0; have HR695_0 := Aside0.mk hi695_0; have HC695_0 := Aside0.mk hl695_0; clear hi695_0 hl695_0; replace p695 := eq_true p695; replace q695 := eq_true q695; have p696 : 0 ≤ (x4_1 : Int) := of_decide_eq_true (by assumption); have q696 : x4_1 < (l0.length : Int) := of_decide_eq_true (by assumption); obtain ⟨ad696, A696_0, c696_0, e696, hx696_0, hl696_0, hi696_0⟩ := at_L2 HR0.out x4_1 p696 q696; have hw696_0 := hx696_0; obtain rfl : ad685 = ad696 := (by injection e696); have hw696_0 := hx696_0; replace hx696_0 := (HB.out.cell (World.block_lt_of_cell? w _ hx696_0)).trans hx696_0; have HR696_0 := Aside0.mk hi696_0; have HC696_0 := Aside0.mk hl696_0; clear hi696_0 hl696_0; replace p696 := eq_true p696; replace q696 := eq_true q696; refine start_ (n := 10) (S := fun w' => w'.cell? (ad685.add (x6_2).toNat) = some (.slice A695_0 (rd_L2 l0 x6_2).length c695_0) ∧ w'.cell? (ad685.add (x4_1).toNat) = some (.slice A696_0 (rd_L2 l0 x4_1).length c696_0)) (ds := []) #[f_, f_, f_, f_, f_, f_, f_, f_, f_, f_] (by kernel_rfl) rfl rfl ⟨((HB.out.cell (World.block_lt_of_cell? w _ hw695_0)).trans hw695_0), ((HB.out.cell (World.block_lt_of_cell? w _ hw696_0)).trans hw696_0)⟩ (fun hHeld => ?_); refine with_tabW spec_PackOf.tab13 spec_PackOf.bits13 (fun HT_ HW_ => ?_); generalize wr.drew = w27 at HO_3 HO_692001 BK691 HB HR695_0 HR696_0 hx695_0 hx696_0 hHeld ⊢; refine pure_ (i := 0) (N := some 35) (v := ?_) (a' := ?_) #[t_, f_, f_, f_, f_, f_, f_, f_, f_, f_] rfl rfl (any_of HT_.out (by kernel_rfl)) (fun _ _ _ h => h) (Or.inl ⟨by rfl, ?_⟩) ?_ ?_
                rotate_left
                ·intro w'; go_simp
                 with_reducible rfl
                rotate_left
                ·simp only [Act.put, List.setIfInBounds_toArray, List.set_cons_zero, List.set_cons_succ, i64_w, i32_w]
                 rfl
                refine pure_ (i := 1) (N := some 36) (v := ?_) (a' := ?_) #[t_, t_, f_, f_, f_, f_, f_, f_, f_, f_] rfl rfl (any_of HT_.out (by kernel_rfl)) (fun _ _ _ h => h) (Or.inl ⟨by rfl, ?_⟩) ?_ ?_
                rotate_left
                ·intro w'; go_simp
                 with_reducible rfl
                rotate_left
                ·simp only [Act.put, List.setIfInBounds_toArray, List.set_cons_zero, List.set_cons_succ, i64_w, i32_w]
                 rfl
                refine pure_ (i := 2) (N := some 37) (v := ?_) (a' := ?_) #[t_, t_, t_, f_, f_, f_, f_, f_, f_, f_] rfl rfl (any_of HT_.out (by kernel_rfl)) (fun _ _ _ h => h) (Or.inl ⟨by rfl, ?_⟩) ?_ ?_
                rotate_left
                ·intro w'; go_simp
                 with_reducible rfl
                rotate_left
                ·simp only [Act.put, List.setIfInBounds_toArray, List.set_cons_zero, List.set_cons_succ, i64_w, i32_w]
                 rfl
                refine pure_ (i := 4) (N := some 39) (v := ?_) (a' := ?_) #[t_, t_, t_, f_, t_, f_, f_, f_, f_, f_] rfl rfl (any_of HT_.out (by kernel_rfl)) (fun _ _ _ h => h) (Or.inl ⟨by rfl, ?_⟩) ?_ ?_
                rotate_left
                ·intro w'; go_simp
                 with_reducible rfl
                rotate_left
                ·simp only [Act.put, List.setIfInBounds_toArray, List.set_cons_zero, List.set_cons_succ, i64_w, i32_w]
                 rfl
                refine pure_ (i := 5) (N := some 40) (v := ?_) (a' := ?_) #[t_, t_, t_, f_, t_, t_, f_, f_, f_, f_] rfl rfl (any_of HT_.out (by kernel_rfl)) (fun _ _ _ h => h) (Or.inl ⟨by rfl, ?_⟩) ?_ ?_
                rotate_left
                ·intro w'; go_simp
                 with_reducible rfl
                rotate_left
                ·simp only [Act.put, List.setIfInBounds_toArray, List.set_cons_zero, List.set_cons_succ, i64_w, i32_w]
                 rfl
                refine pure_ (i := 6) (N := some 41) (v := ?_) (a' := ?_) #[t_, t_, t_, f_, t_, t_, t_, f_, f_, f_] rfl rfl (any_of HT_.out (by kernel_rfl)) (fun _ _ _ h => h) (Or.inl ⟨by rfl, ?_⟩) ?_ ?_
                rotate_left
                ·intro w'; go_simp
                 with_reducible rfl
                rotate_left
                ·simp only [Act.put, List.setIfInBounds_toArray, List.set_cons_zero, List.set_cons_succ, i64_w, i32_w]
                 rfl
                refine take_ (i := 3) (N := some 38) (v := ?_) (a' := ?_) #[t_, t_, t_, t_, t_, t_, t_, f_, f_, f_] rfl rfl (take_ofW HT_.out HW_.out (by kernel_rfl)) (fun _ _ _ h => h) (Or.inl ⟨by rfl, ?_⟩) hHeld ?_ ?_
                rotate_left
                ·rintro w' ⟨s0, s1⟩; go_simp
                 with_reducible rfl
                rotate_left
                ·simp only [Act.put, List.setIfInBounds_toArray, List.set_cons_zero, List.set_cons_succ, i64_w, i32_w]
                 rfl
                refine take_ (i := 7) (N := some 42) (v := ?_) (a' := ?_) #[t_, t_, t_, t_, t_, t_, t_, t_, f_, f_] rfl rfl (take_ofW HT_.out HW_.out (by kernel_rfl)) (fun _ _ _ h => h) (Or.inl ⟨by rfl, ?_⟩) hHeld ?_ ?_
                rotate_left
                ·rintro w' ⟨s0, s1⟩; go_simp
                 with_reducible rfl
                rotate_left
                ·simp only [Act.put, List.setIfInBounds_toArray, List.set_cons_zero, List.set_cons_succ, i64_w, i32_w]
                 rfl
                refine one_ (i := 8) (N := some 43) #[t_, t_, t_, t_, t_, t_, t_, t_, t_, f_] rfl rfl (one_of HT_.out (by kernel_rfl)) (by decide) (fun K hK => ?_); refine goes_ Try.func72 (by kernel_rfl) rfl #[.slice A695_0 (rd_L2 l0 x6_2).length c695_0, .slice A696_0 (rd_L2 l0 x4_1).length c696_0] (by rfl) rfl rfl (by (try simp only [List.map_toArray, List.map_cons, List.map_nil]); first | done | rfl | (simp only [List.length_drop, List.length_take]; rfl)) ?_
                with_reducible refine (spec_l13Of.calls k2 _ _ (rd_L2 l0 x6_2) (fun k_ => k_ < w.heap.size) _ _ (rd_L2 l0 x4_1) t697 _ ?side1 ?side2 ?side3 A21.out).mono ?_
                (case side1 => repeat (first | exact (Kd.C_below HR695_0.out HB.out) | (with_reducible refine Kd.C_alloc ?_ _) | (with_reducible refine Kd.C_drewN ?_ _) | (with_reducible refine Kd.C_drew ?_)))
                (case side2 => exact HC695_0.out)
                (case side3 => exact Kd.V_mk HC696_0.out (Kd.F_below (Kd.C_F Kd.heap_string HR696_0.out) (by repeat (first | (with_reducible first | exact HB.out | apply below_alloc | apply pw_below_drewN | apply below_drew1 | refine below_set ?_ GE691.out) | exact HB.out))))
                rintro e w28 ⟨v698, rfl, ho0, hb⟩; refine ⟨_, rfl, ?_⟩; have n0_ := Aside0.mk (Kd.S_elder' (by (with_reducible repeat (first | apply Kd.S_alloc | apply Kd.S_drewN | apply Kd.S_drew)); exact HO_3.out) (Kd.S_base ho0) hb); have n1_ := Aside0.mk (Kd.S_elder' (by (with_reducible repeat (first | apply Kd.S_alloc | apply Kd.S_drewN | apply Kd.S_drew)); exact HO_692001.out) (Kd.S_base ho0) hb); have n2_ := Aside0.mk (Kd.S_lower (Kd.S_new' (Kd.S_mono (ok' := fun k_ => N_ ≤ k_) ho0 (fun _ hk_ => Nat.le_trans HGN.out (Nat.le_trans (Nat.le_of_lt (blk_lt (by (with_reducible repeat (first | refine blk_drewN ?_ _ | refine blk_drew ?_ | refine blk_alloc ?_ _)); exact BK691.out))) hk_))) (Kd.S_lt (by (with_reducible repeat (first | apply Kd.S_alloc | apply Kd.S_drewN | apply Kd.S_drew)); exact HO_692001.out))) (below_size (by repeat (first | (with_reducible first | exact HB.out | apply below_alloc | apply pw_below_drewN | apply below_drew1 | refine below_set ?_ GE691.out) | exact HB.out)))); have n3_ := Aside0.mk (blk_below (g := gb691) (o := .cells #[.int .i64 x692000_2, u692001] 53 (0, 0)) (by (with_reducible repeat (first | refine blk_drewN ?_ _ | refine blk_drew ?_ | refine blk_alloc ?_ _)); exact BK691.out) hb); have n4_ := Aside0.mk (below_step (by repeat (first | (with_reducible first | exact HB.out | apply below_alloc | apply pw_below_drewN | apply below_drew1 | refine below_set ?_ GE691.out) | exact HB.out)) hb); clear HO_3; clear HO_692001; clear BK691; clear HB; have HO_3 := n0_; have HO_692001 := n1_; have HO699 := n2_; have BK691 := n3_; have HB := n4_; clear n0_ n1_ n2_ n3_ n4_
                (try clear hb)
                (try clear hb2)
                (try clear hk)
                (try clear hi)
                (try clear ho0)
                refine hK.out _ _ ⟨((HB.out.cell (World.block_lt_of_cell? w _ hw695_0)).trans hw695_0), ((HB.out.cell (World.block_lt_of_cell? w _ hw696_0)).trans hw696_0)⟩ (fun hHeld => ?_); clear hK K; refine norm_ (a' := ?_) ?_ ?_
                rotate_left
                ·show Act.put _ (some 43) _ = _
                 simp only [Act.put, List.setIfInBounds_toArray, List.set_cons_zero, List.set_cons_succ, i64_w, i32_w]
                 rfl
                refine pure_ (i := 9) (N := some 7) (v := ?_) (a' := ?_) #[t_, t_, t_, t_, t_, t_, t_, t_, t_, t_] rfl rfl (any_of HT_.out (by kernel_rfl)) (fun _ _ _ h => h) (Or.inl ⟨by rfl, ?_⟩) ?_ ?_
                rotate_left
                ·intro w'; go_simp
                 with_reducible rfl
                rotate_left
                ·simp only [Act.put, List.setIfInBounds_toArray, List.set_cons_zero, List.set_cons_succ, i64_w, i32_w]
                 rfl
                refine done_ (done_of HT_.out (by kernel_rfl)) ?_; (try go_wp2); have n0_ := Aside0.mk (Kd.S_drew HO_3.out); have n1_ := Aside0.mk (Kd.S_drew HO_692001.out); have n2_ := Aside0.mk (Kd.S_drew HO699.out); have n3_ := Aside0.mk (blk_drew BK691.out); have n4_ := Aside0.mk (below_drew1 HB.out); clear HO_3; clear HO_692001; clear HO699; clear BK691; clear HB; have HO_3 := n0_; have HO_692001 := n1_; have HO699 := n2_; have BK691 := n3_; have HB := n4_; clear n0_ n1_ n2_ n3_ n4_; obtain ⟨Ao30, co30, eo30⟩ := Kd.S_slice HO_3.out
                (first | subst eo30 | (injection eo30 with f1_ f2_ f3_; have f4_ := f1_.symm; have f5_ := f3_.symm; clear f1_ f2_ f3_; subst f4_; subst f5_))
                refine start_ (n := 12) (S := fun w' => w'.cell? ⟨gb691, 0, none⟩ = some (.int .i64 x692000_2) ∧ w'.cell? ⟨gb691, 1, none⟩ = some (u692001)) (ds := []) #[f_, f_, f_, f_, f_, f_, f_, f_, f_, f_, f_, f_] (by kernel_rfl) rfl rfl ⟨(blk_cell BK691.out 0).trans rfl, (blk_cell BK691.out 1).trans rfl⟩ (fun hHeld => ?_); refine with_tabW spec_PackOf.tab14 spec_PackOf.bits14 (fun HT_ HW_ => ?_); generalize w28.drew = w29 at HO_3 HO_692001 HO699 BK691 HB hHeld ⊢; refine pure_ (i := 0) (N := some 44) (v := ?_) (a' := ?_) #[t_, f_, f_, f_, f_, f_, f_, f_, f_, f_, f_, f_] rfl rfl (any_of HT_.out (by kernel_rfl)) (fun _ _ _ h => h) (Or.inl ⟨by rfl, ?_⟩) ?_ ?_
                rotate_left
                ·intro w'; go_simp
                 with_reducible rfl
                rotate_left
                ·simp only [Act.put, List.setIfInBounds_toArray, List.set_cons_zero, List.set_cons_succ, i64_w, i32_w]
                 rfl
                refine pure_ (i := 1) (N := some 45) (v := ?_) (a' := ?_) #[t_, t_, f_, f_, f_, f_, f_, f_, f_, f_, f_, f_] rfl rfl (any_of HT_.out (by kernel_rfl)) (fun _ _ _ h => h) (Or.inl ⟨by rfl, ?_⟩) ?_ ?_
                rotate_left
                ·intro w'; go_simp
                 with_reducible rfl
                rotate_left
                ·simp only [Act.put, List.setIfInBounds_toArray, List.set_cons_zero, List.set_cons_succ, i64_w, i32_w]
                 rfl
                refine one_ (i := 2) (N := some 46) #[t_, t_, t_, f_, f_, f_, f_, f_, f_, f_, f_, f_] rfl rfl (one_of HT_.out (by kernel_rfl)) (by decide) (fun K hK => ?_); refine goes_ Try.func94 (by kernel_rfl) rfl #[.slice Ao30 x3_1.length co30, .int .i64 x6_2] (by rfl) rfl rfl (by (try simp only [List.map_toArray, List.map_cons, List.map_nil]); first | done | rfl | (simp only [List.length_drop, List.length_take]; rfl)) ?_
                with_reducible refine (spec_l13Deep.calls k2 _ _ x3_1 x6_2 t700 _ ?side1 ?side2 A22.out).mono ?_
                (case side1 => repeat (first | exact (Kd.S_reads' HO_3.out).2.2 | (with_reducible refine Kd.C_alloc ?_ _) | (with_reducible refine Kd.C_drewN ?_ _) | (with_reducible refine Kd.C_drew ?_)))
                (case side2 => exact (Kd.S_reads' HO_3.out).2.1)
                rintro e w' ⟨rfl, ⟨nd, rfl⟩⟩; refine ⟨_, rfl, ?_⟩; obtain ⟨Ao31, co31, eo31⟩ := Kd.S_slice HO699.out
                (first | subst eo31 | (injection eo31 with f1_ f2_ f3_; have f4_ := f1_.symm; have f5_ := f3_.symm; clear f1_ f2_ f3_; subst f4_; subst f5_))
                refine hK.out _ _ ⟨(blk_cell BK691.out 0).trans rfl, (blk_cell BK691.out 1).trans rfl⟩ (fun hHeld => ?_); clear hK K; refine norm_ (a' := ?_) ?_ ?_
                rotate_left
                ·show Act.put _ (some 46) _ = _
                 simp only [Act.put, List.setIfInBounds_toArray, List.set_cons_zero, List.set_cons_succ, i64_w, i32_w]
                 rfl
                refine pure_ (i := 3) (N := some 47) (v := ?_) (a' := ?_) #[t_, t_, t_, t_, f_, f_, f_, f_, f_, f_, f_, f_] rfl rfl (any_of HT_.out (by kernel_rfl)) (fun _ _ _ h => h) (Or.inl ⟨by rfl, ?_⟩) ?_ ?_
                rotate_left
                ·intro w'; go_simp
                 with_reducible rfl
                rotate_left
                ·simp only [Act.put, List.setIfInBounds_toArray, List.set_cons_zero, List.set_cons_succ, i64_w, i32_w]
                 rfl
                refine pure_ (i := 4) (N := some 48) (v := ?_) (a' := ?_) #[t_, t_, t_, t_, t_, f_, f_, f_, f_, f_, f_, f_] rfl rfl (any_of HT_.out (by kernel_rfl)) (fun _ _ _ h => h) (Or.inl ⟨by rfl, ?_⟩) ?_ ?_
                rotate_left
                ·intro w'; go_simp
                 with_reducible rfl
                rotate_left
                ·simp only [Act.put, List.setIfInBounds_toArray, List.set_cons_zero, List.set_cons_succ, i64_w, i32_w]
                 rfl
                refine pure_ (i := 5) (N := some 49) (v := ?_) (a' := ?_) #[t_, t_, t_, t_, t_, t_, f_, f_, f_, f_, f_, f_] rfl rfl (any_of HT_.out (by kernel_rfl)) (fun _ _ _ h => h) (Or.inl ⟨by rfl, ?_⟩) ?_ ?_
                rotate_left
                ·intro w'; go_simp
                 with_reducible rfl
                rotate_left
                ·simp only [Act.put, List.setIfInBounds_toArray, List.set_cons_zero, List.set_cons_succ, i64_w, i32_w]
                 rfl
                refine pure_ (i := 7) (N := some 51) (v := ?_) (a' := ?_) #[t_, t_, t_, t_, t_, t_, f_, t_, f_, f_, f_, f_] rfl rfl (any_of HT_.out (by kernel_rfl)) (fun _ _ _ h => h) (Or.inl ⟨by rfl, ?_⟩) ?_ ?_
                rotate_left
                ·intro w'; go_simp
                 with_reducible rfl
                rotate_left
                ·simp only [Act.put, List.setIfInBounds_toArray, List.set_cons_zero, List.set_cons_succ, i64_w, i32_w]
                 rfl
                refine take_ (i := 8) (N := some 52) (v := ?_) (a' := ?_) #[t_, t_, t_, t_, t_, t_, f_, t_, t_, f_, f_, f_] rfl rfl (take_ofW HT_.out HW_.out (by kernel_rfl)) (fun _ _ _ h => h) (Or.inl ⟨by rfl, ?_⟩) hHeld ?_ ?_
                rotate_left
                ·rintro w' ⟨s0, s1⟩; go_simp
                 with_reducible rfl
                rotate_left
                ·simp only [Act.put, List.setIfInBounds_toArray, List.set_cons_zero, List.set_cons_succ, i64_w, i32_w]
                 rfl
                refine one_ (i := 6) (N := some 50) #[t_, t_, t_, t_, t_, t_, t_, t_, t_, f_, f_, f_] rfl rfl (one_of HT_.out (by kernel_rfl)) (by decide) (fun K hK => ?_); refine goes_ Try.func90 (by kernel_rfl) rfl #[.slice Ao31 t697.length co31] (by rfl) rfl rfl (by (try simp only [List.map_toArray, List.map_cons, List.map_nil]); first | done | rfl | (simp only [List.length_drop, List.length_take]; rfl)) ?_
                with_reducible refine (spec_l13Size.calls k2 _ _ t697 t701 _ ?side1 ?side2 A24.out).mono ?_
                (case side1 => repeat (first | exact (Kd.S_reads' HO699.out).2.2 | (with_reducible refine Kd.C_alloc ?_ _) | (with_reducible refine Kd.C_drewN ?_ _) | (with_reducible refine Kd.C_drew ?_)))
                (case side2 => exact (Kd.S_reads' HO699.out).2.1)
                rintro e w' ⟨rfl, ⟨nd, rfl⟩⟩; refine ⟨_, rfl, ?_⟩; obtain ⟨Ao32, co32, eo32⟩ := Kd.S_slice HO_692001.out
                (first | subst eo32 | (injection eo32 with f1_ f2_ f3_; have f4_ := f1_.symm; have f5_ := f3_.symm; clear f1_ f2_ f3_; subst f4_; subst f5_))
                refine hK.out _ _ ⟨(blk_cell BK691.out 0).trans rfl, (blk_cell BK691.out 1).trans rfl⟩ (fun hHeld => ?_); clear hK K; refine norm_ (a' := ?_) ?_ ?_
                rotate_left
                ·show Act.put _ (some 50) _ = _
                 simp only [Act.put, List.setIfInBounds_toArray, List.set_cons_zero, List.set_cons_succ, i64_w, i32_w]
                 rfl
                refine one_ (i := 9) (N := some 53) #[t_, t_, t_, t_, t_, t_, t_, t_, t_, t_, f_, f_] rfl rfl (one_of HT_.out (by kernel_rfl)) (by decide) (fun K hK => ?_); refine goes_ Try.func90 (by kernel_rfl) rfl #[.slice Ao32 x692001_2.length co32] (by rfl) rfl rfl (by (try simp only [List.map_toArray, List.map_cons, List.map_nil]); first | done | rfl | (simp only [List.length_drop, List.length_take]; rfl)) ?_
                with_reducible refine (spec_l13Size.calls k2 _ _ x692001_2 t702 _ ?side1 ?side2 A25.out).mono ?_
                (case side1 => repeat (first | exact (Kd.S_reads' HO_692001.out).2.2 | (with_reducible refine Kd.C_alloc ?_ _) | (with_reducible refine Kd.C_drewN ?_ _) | (with_reducible refine Kd.C_drew ?_)))
                (case side2 => exact (Kd.S_reads' HO_692001.out).2.1)
                rintro e w' ⟨rfl, ⟨nd, rfl⟩⟩; refine ⟨_, rfl, ?_⟩; refine hK.out _ _ ⟨(blk_cell BK691.out 0).trans rfl, (blk_cell BK691.out 1).trans rfl⟩ (fun hHeld => ?_); clear hK K; refine norm_ (a' := ?_) ?_ ?_
                rotate_left
                ·show Act.put _ (some 53) _ = _
                 simp only [Act.put, List.setIfInBounds_toArray, List.set_cons_zero, List.set_cons_succ, i64_w, i32_w]
                 rfl
                refine pure_ (i := 10) (N := some 54) (v := ?_) (a' := ?_) #[t_, t_, t_, t_, t_, t_, t_, t_, t_, t_, t_, f_] rfl rfl (any_of HT_.out (by kernel_rfl)) (fun _ _ _ h => h) (Or.inl ⟨by rfl, ?_⟩) ?_ ?_
                rotate_left
                ·intro w'; go_simp
                 with_reducible rfl
                rotate_left
                ·simp only [Act.put, List.setIfInBounds_toArray, List.set_cons_zero, List.set_cons_succ, i64_w, i32_w]
                 rfl
                refine pure_ (i := 11) (N := some 55) (v := ?_) (a' := ?_) #[t_, t_, t_, t_, t_, t_, t_, t_, t_, t_, t_, t_] rfl rfl (any_of HT_.out (by kernel_rfl)) (fun _ _ _ h => h) (Or.inl ⟨by rfl, ?_⟩) ?_ ?_
                rotate_left
                ·intro w'; go_simp
                 with_reducible rfl
                rotate_left
                ·simp only [Act.put, List.setIfInBounds_toArray, List.set_cons_zero, List.set_cons_succ, i64_w, i32_w]
                 rfl
                refine done_ (done_of HT_.out (by kernel_rfl)) ?_; have hcz33_0 : w29.cell? ⟨gb691, 0, none⟩ = some (.int .i64 x692000_2) := (blk_cell BK691.out 0).trans rfl; have hcz33_1 : w29.cell? ⟨gb691, 1, none⟩ = some (.slice Ao32 x692001_2.length co32) := (blk_cell BK691.out 1).trans rfl; have hfz33_0 := blk_frozen BK691.out 0; have hfz33_1 := blk_frozen BK691.out 1; (try go_wp2); go_roundg k2
                case measure => have := HK1.out; have := HK2.out; omega
                case rel => exact ⟨(wrap64 (x6_2 + 1)), (x6_2), (t697), (.slice Ao31 t697.length co31), (by first | rfl | (simp; done) | (simp [*]; done)), H', ⟨by have := HK1.out; have := HK2.out; omega⟩, ⟨by (with_reducible repeat (first | apply Kd.S_alloc | apply Kd.S_drewN | apply Kd.S_drew)); exact Kd.S_mono (Kd.S_far (p := ⟨gb691, 1, none⟩) (Kd.S_far (p := ⟨gb691, 0, none⟩) (Kd.S_mono HO_3.out (fun k_ hk => (⟨hk, hk.1.2⟩ : _ ∧ k_ ≠ gb691))) (fun _ hk => hk.2) (.int .i64 x6_2)) (fun _ hk => hk.2) (.slice Ao31 t697.length co31)) (fun _ hk => ⟨⟨hk.1.2, hk.1.1.1.2⟩, hk.1.1.2⟩)⟩, ⟨by (with_reducible repeat (first | apply Kd.S_alloc | apply Kd.S_drewN | apply Kd.S_drew)); exact Kd.S_mono (Kd.S_far (p := ⟨gb691, 1, none⟩) (Kd.S_far (p := ⟨gb691, 0, none⟩) (Kd.S_types HO699.out BK691.out (by decide)) (fun _ hk => hk.2) (.int .i64 x6_2)) (fun _ hk => hk.2) (.slice Ao31 t697.length co31)) (fun _ hk => hk.1.1)⟩, ⟨by (with_reducible repeat (first | refine blk_drewN ?_ _ | refine blk_drew ?_ | refine blk_alloc ?_ _)); refine blk_put (cs := #[.int .i64 x6_2, .slice Ao32 x692001_2.length co32]) ?_ 1 _ rfl; (with_reducible repeat (first | refine blk_drewN ?_ _ | refine blk_drew ?_ | refine blk_alloc ?_ _)); refine blk_put (cs := #[.int .i64 x692000_2, .slice Ao32 x692001_2.length co32]) ?_ 0 _ rfl; (with_reducible repeat (first | refine blk_drewN ?_ _ | refine blk_drew ?_ | refine blk_alloc ?_ _)); exact BK691.out⟩, ⟨by repeat (first | (with_reducible first | exact HB.out | apply below_alloc | apply pw_below_drewN | apply below_drew1 | refine below_set ?_ GE691.out) | exact HB.out)⟩⟩
               ·rw [if_neg c26] at H; have c26b0 : decide (t701 < t702) = false := decide_eq_false c26; clear c26; have H' := Aside0.mk H; clear H; (try go_wp2); have n0_ := Aside0.mk (Kd.S_drew HO_3.out); have n1_ := Aside0.mk (Kd.S_drew HO_692001.out); have n2_ := Aside0.mk (blk_drew BK691.out); have n3_ := Aside0.mk (below_drew1 HB.out); clear HO_3; clear HO_692001; clear BK691; clear HB; have HO_3 := n0_; have HO_692001 := n1_; have BK691 := n2_; have HB := n3_; clear n0_ n1_ n2_ n3_; have p695 : 0 ≤ (x6_2 : Int) := of_decide_eq_true (by assumption); have q695 : x6_2 < (l0.length : Int) := of_decide_eq_true (by assumption); obtain ⟨ad695, A695_0, c695_0, e695, hx695_0, hl695_0, hi695_0⟩ := at_L2 HR0.out x6_2 p695 q695; have hw695_0 := hx695_0; obtain rfl : ad685 = ad695 := (by injection e695); have hw695_0 := hx695_0; replace hx695_0 := (HB.out.cell (World.block_lt_of_cell? w _ hx695_0)).trans hx695_0; have HR695_0 := Aside0.mk hi695_0; have HC695_0 := Aside0.mk hl695_0; clear hi695_0 hl695_0; replace p695 := eq_true p695; replace q695 := eq_true q695; have p696 : 0 ≤ (x4_1 : Int) := of_decide_eq_true (by assumption); have q696 : x4_1 < (l0.length : Int) := of_decide_eq_true (by assumption); obtain ⟨ad696, A696_0, c696_0, e696, hx696_0, hl696_0, hi696_0⟩ := at_L2 HR0.out x4_1 p696 q696; have hw696_0 := hx696_0; obtain rfl : ad685 = ad696 := (by injection e696); have hw696_0 := hx696_0; replace hx696_0 := (HB.out.cell (World.block_lt_of_cell? w _ hx696_0)).trans hx696_0; have HR696_0 := Aside0.mk hi696_0; have HC696_0 := Aside0.mk hl696_0; clear hi696_0 hl696_0; replace p696 := eq_true p696; replace q696 := eq_true q696; refine start_ (n := 10) (S := fun w' => w'.cell? (ad685.add (x6_2).toNat) = some (.slice A695_0 (rd_L2 l0 x6_2).length c695_0) ∧ w'.cell? (ad685.add (x4_1).toNat) = some (.slice A696_0 (rd_L2 l0 x4_1).length c696_0)) (ds := []) #[f_, f_, f_, f_, f_, f_, f_, f_, f_, f_] (by kernel_rfl) rfl rfl ⟨((HB.out.cell (World.block_lt_of_cell? w _ hw695_0)).trans hw695_0), ((HB.out.cell (World.block_lt_of_cell? w _ hw696_0)).trans hw696_0)⟩ (fun hHeld => ?_); refine with_tabW spec_PackOf.tab13 spec_PackOf.bits13 (fun HT_ HW_ => ?_); generalize wr.drew = w34 at HO_3 HO_692001 BK691 HB HR695_0 HR696_0 hx695_0 hx696_0 hHeld ⊢; refine pure_ (i := 0) (N := some 35) (v := ?_) (a' := ?_) #[t_, f_, f_, f_, f_, f_, f_, f_, f_, f_] rfl rfl (any_of HT_.out (by kernel_rfl)) (fun _ _ _ h => h) (Or.inl ⟨by rfl, ?_⟩) ?_ ?_
                rotate_left
                ·intro w'; go_simp
                 with_reducible rfl
                rotate_left
                ·simp only [Act.put, List.setIfInBounds_toArray, List.set_cons_zero, List.set_cons_succ, i64_w, i32_w]
                 rfl
                refine pure_ (i := 1) (N := some 36) (v := ?_) (a' := ?_) #[t_, t_, f_, f_, f_, f_, f_, f_, f_, f_] rfl rfl (any_of HT_.out (by kernel_rfl)) (fun _ _ _ h => h) (Or.inl ⟨by rfl, ?_⟩) ?_ ?_
                rotate_left
                ·intro w'; go_simp
                 with_reducible rfl
                rotate_left
                ·simp only [Act.put, List.setIfInBounds_toArray, List.set_cons_zero, List.set_cons_succ, i64_w, i32_w]
                 rfl
                refine pure_ (i := 2) (N := some 37) (v := ?_) (a' := ?_) #[t_, t_, t_, f_, f_, f_, f_, f_, f_, f_] rfl rfl (any_of HT_.out (by kernel_rfl)) (fun _ _ _ h => h) (Or.inl ⟨by rfl, ?_⟩) ?_ ?_
                rotate_left
                ·intro w'; go_simp
                 with_reducible rfl
                rotate_left
                ·simp only [Act.put, List.setIfInBounds_toArray, List.set_cons_zero, List.set_cons_succ, i64_w, i32_w]
                 rfl
                refine pure_ (i := 4) (N := some 39) (v := ?_) (a' := ?_) #[t_, t_, t_, f_, t_, f_, f_, f_, f_, f_] rfl rfl (any_of HT_.out (by kernel_rfl)) (fun _ _ _ h => h) (Or.inl ⟨by rfl, ?_⟩) ?_ ?_
                rotate_left
                ·intro w'; go_simp
                 with_reducible rfl
                rotate_left
                ·simp only [Act.put, List.setIfInBounds_toArray, List.set_cons_zero, List.set_cons_succ, i64_w, i32_w]
                 rfl
                refine pure_ (i := 5) (N := some 40) (v := ?_) (a' := ?_) #[t_, t_, t_, f_, t_, t_, f_, f_, f_, f_] rfl rfl (any_of HT_.out (by kernel_rfl)) (fun _ _ _ h => h) (Or.inl ⟨by rfl, ?_⟩) ?_ ?_
                rotate_left
                ·intro w'; go_simp
                 with_reducible rfl
                rotate_left
                ·simp only [Act.put, List.setIfInBounds_toArray, List.set_cons_zero, List.set_cons_succ, i64_w, i32_w]
                 rfl
                refine pure_ (i := 6) (N := some 41) (v := ?_) (a' := ?_) #[t_, t_, t_, f_, t_, t_, t_, f_, f_, f_] rfl rfl (any_of HT_.out (by kernel_rfl)) (fun _ _ _ h => h) (Or.inl ⟨by rfl, ?_⟩) ?_ ?_
                rotate_left
                ·intro w'; go_simp
                 with_reducible rfl
                rotate_left
                ·simp only [Act.put, List.setIfInBounds_toArray, List.set_cons_zero, List.set_cons_succ, i64_w, i32_w]
                 rfl
                refine take_ (i := 3) (N := some 38) (v := ?_) (a' := ?_) #[t_, t_, t_, t_, t_, t_, t_, f_, f_, f_] rfl rfl (take_ofW HT_.out HW_.out (by kernel_rfl)) (fun _ _ _ h => h) (Or.inl ⟨by rfl, ?_⟩) hHeld ?_ ?_
                rotate_left
                ·rintro w' ⟨s0, s1⟩; go_simp
                 with_reducible rfl
                rotate_left
                ·simp only [Act.put, List.setIfInBounds_toArray, List.set_cons_zero, List.set_cons_succ, i64_w, i32_w]
                 rfl
                refine take_ (i := 7) (N := some 42) (v := ?_) (a' := ?_) #[t_, t_, t_, t_, t_, t_, t_, t_, f_, f_] rfl rfl (take_ofW HT_.out HW_.out (by kernel_rfl)) (fun _ _ _ h => h) (Or.inl ⟨by rfl, ?_⟩) hHeld ?_ ?_
                rotate_left
                ·rintro w' ⟨s0, s1⟩; go_simp
                 with_reducible rfl
                rotate_left
                ·simp only [Act.put, List.setIfInBounds_toArray, List.set_cons_zero, List.set_cons_succ, i64_w, i32_w]
                 rfl
                refine one_ (i := 8) (N := some 43) #[t_, t_, t_, t_, t_, t_, t_, t_, t_, f_] rfl rfl (one_of HT_.out (by kernel_rfl)) (by decide) (fun K hK => ?_); refine goes_ Try.func72 (by kernel_rfl) rfl #[.slice A695_0 (rd_L2 l0 x6_2).length c695_0, .slice A696_0 (rd_L2 l0 x4_1).length c696_0] (by rfl) rfl rfl (by (try simp only [List.map_toArray, List.map_cons, List.map_nil]); first | done | rfl | (simp only [List.length_drop, List.length_take]; rfl)) ?_
                with_reducible refine (spec_l13Of.calls k2 _ _ (rd_L2 l0 x6_2) (fun k_ => k_ < w.heap.size) _ _ (rd_L2 l0 x4_1) t697 _ ?side1 ?side2 ?side3 A21.out).mono ?_
                (case side1 => repeat (first | exact (Kd.C_below HR695_0.out HB.out) | (with_reducible refine Kd.C_alloc ?_ _) | (with_reducible refine Kd.C_drewN ?_ _) | (with_reducible refine Kd.C_drew ?_)))
                (case side2 => exact HC695_0.out)
                (case side3 => exact Kd.V_mk HC696_0.out (Kd.F_below (Kd.C_F Kd.heap_string HR696_0.out) (by repeat (first | (with_reducible first | exact HB.out | apply below_alloc | apply pw_below_drewN | apply below_drew1 | refine below_set ?_ GE691.out) | exact HB.out))))
                rintro e w35 ⟨v698, rfl, ho0, hb⟩; refine ⟨_, rfl, ?_⟩; have n0_ := Aside0.mk (Kd.S_elder' (by (with_reducible repeat (first | apply Kd.S_alloc | apply Kd.S_drewN | apply Kd.S_drew)); exact HO_3.out) (Kd.S_base ho0) hb); have n1_ := Aside0.mk (Kd.S_elder' (by (with_reducible repeat (first | apply Kd.S_alloc | apply Kd.S_drewN | apply Kd.S_drew)); exact HO_692001.out) (Kd.S_base ho0) hb); have n2_ := Aside0.mk (Kd.S_lower (Kd.S_new' (Kd.S_mono (ok' := fun k_ => N_ ≤ k_) ho0 (fun _ hk_ => Nat.le_trans HGN.out (Nat.le_trans (Nat.le_of_lt (blk_lt (by (with_reducible repeat (first | refine blk_drewN ?_ _ | refine blk_drew ?_ | refine blk_alloc ?_ _)); exact BK691.out))) hk_))) (Kd.S_lt (by (with_reducible repeat (first | apply Kd.S_alloc | apply Kd.S_drewN | apply Kd.S_drew)); exact HO_692001.out))) (below_size (by repeat (first | (with_reducible first | exact HB.out | apply below_alloc | apply pw_below_drewN | apply below_drew1 | refine below_set ?_ GE691.out) | exact HB.out)))); have n3_ := Aside0.mk (blk_below (g := gb691) (o := .cells #[.int .i64 x692000_2, u692001] 53 (0, 0)) (by (with_reducible repeat (first | refine blk_drewN ?_ _ | refine blk_drew ?_ | refine blk_alloc ?_ _)); exact BK691.out) hb); have n4_ := Aside0.mk (below_step (by repeat (first | (with_reducible first | exact HB.out | apply below_alloc | apply pw_below_drewN | apply below_drew1 | refine below_set ?_ GE691.out) | exact HB.out)) hb); clear HO_3; clear HO_692001; clear BK691; clear HB; have HO_3 := n0_; have HO_692001 := n1_; have HO699 := n2_; have BK691 := n3_; have HB := n4_; clear n0_ n1_ n2_ n3_ n4_
                (try clear hb)
                (try clear hb2)
                (try clear hk)
                (try clear hi)
                (try clear ho0)
                refine hK.out _ _ ⟨((HB.out.cell (World.block_lt_of_cell? w _ hw695_0)).trans hw695_0), ((HB.out.cell (World.block_lt_of_cell? w _ hw696_0)).trans hw696_0)⟩ (fun hHeld => ?_); clear hK K; refine norm_ (a' := ?_) ?_ ?_
                rotate_left
                ·show Act.put _ (some 43) _ = _
                 simp only [Act.put, List.setIfInBounds_toArray, List.set_cons_zero, List.set_cons_succ, i64_w, i32_w]
                 rfl
                refine pure_ (i := 9) (N := some 7) (v := ?_) (a' := ?_) #[t_, t_, t_, t_, t_, t_, t_, t_, t_, t_] rfl rfl (any_of HT_.out (by kernel_rfl)) (fun _ _ _ h => h) (Or.inl ⟨by rfl, ?_⟩) ?_ ?_
                rotate_left
                ·intro w'; go_simp
                 with_reducible rfl
                rotate_left
                ·simp only [Act.put, List.setIfInBounds_toArray, List.set_cons_zero, List.set_cons_succ, i64_w, i32_w]
                 rfl
                refine done_ (done_of HT_.out (by kernel_rfl)) ?_; (try go_wp2); have n0_ := Aside0.mk (Kd.S_drew HO_3.out); have n1_ := Aside0.mk (Kd.S_drew HO_692001.out); have n2_ := Aside0.mk (Kd.S_drew HO699.out); have n3_ := Aside0.mk (blk_drew BK691.out); have n4_ := Aside0.mk (below_drew1 HB.out); clear HO_3; clear HO_692001; clear HO699; clear BK691; clear HB; have HO_3 := n0_; have HO_692001 := n1_; have HO699 := n2_; have BK691 := n3_; have HB := n4_; clear n0_ n1_ n2_ n3_ n4_; obtain ⟨Ao37, co37, eo37⟩ := Kd.S_slice HO_3.out
                (first | subst eo37 | (injection eo37 with f1_ f2_ f3_; have f4_ := f1_.symm; have f5_ := f3_.symm; clear f1_ f2_ f3_; subst f4_; subst f5_))
                refine start_ (n := 12) (S := fun w' => w'.cell? ⟨gb691, 0, none⟩ = some (.int .i64 x692000_2) ∧ w'.cell? ⟨gb691, 1, none⟩ = some (u692001)) (ds := []) #[f_, f_, f_, f_, f_, f_, f_, f_, f_, f_, f_, f_] (by kernel_rfl) rfl rfl ⟨(blk_cell BK691.out 0).trans rfl, (blk_cell BK691.out 1).trans rfl⟩ (fun hHeld => ?_); refine with_tabW spec_PackOf.tab14 spec_PackOf.bits14 (fun HT_ HW_ => ?_); generalize w35.drew = w36 at HO_3 HO_692001 HO699 BK691 HB hHeld ⊢; refine pure_ (i := 0) (N := some 44) (v := ?_) (a' := ?_) #[t_, f_, f_, f_, f_, f_, f_, f_, f_, f_, f_, f_] rfl rfl (any_of HT_.out (by kernel_rfl)) (fun _ _ _ h => h) (Or.inl ⟨by rfl, ?_⟩) ?_ ?_
                rotate_left
                ·intro w'; go_simp
                 with_reducible rfl
                rotate_left
                ·simp only [Act.put, List.setIfInBounds_toArray, List.set_cons_zero, List.set_cons_succ, i64_w, i32_w]
                 rfl
                refine pure_ (i := 1) (N := some 45) (v := ?_) (a' := ?_) #[t_, t_, f_, f_, f_, f_, f_, f_, f_, f_, f_, f_] rfl rfl (any_of HT_.out (by kernel_rfl)) (fun _ _ _ h => h) (Or.inl ⟨by rfl, ?_⟩) ?_ ?_
                rotate_left
                ·intro w'; go_simp
                 with_reducible rfl
                rotate_left
                ·simp only [Act.put, List.setIfInBounds_toArray, List.set_cons_zero, List.set_cons_succ, i64_w, i32_w]
                 rfl
                refine one_ (i := 2) (N := some 46) #[t_, t_, t_, f_, f_, f_, f_, f_, f_, f_, f_, f_] rfl rfl (one_of HT_.out (by kernel_rfl)) (by decide) (fun K hK => ?_); refine goes_ Try.func94 (by kernel_rfl) rfl #[.slice Ao37 x3_1.length co37, .int .i64 x6_2] (by rfl) rfl rfl (by (try simp only [List.map_toArray, List.map_cons, List.map_nil]); first | done | rfl | (simp only [List.length_drop, List.length_take]; rfl)) ?_
                with_reducible refine (spec_l13Deep.calls k2 _ _ x3_1 x6_2 t700 _ ?side1 ?side2 A22.out).mono ?_
                (case side1 => repeat (first | exact (Kd.S_reads' HO_3.out).2.2 | (with_reducible refine Kd.C_alloc ?_ _) | (with_reducible refine Kd.C_drewN ?_ _) | (with_reducible refine Kd.C_drew ?_)))
                (case side2 => exact (Kd.S_reads' HO_3.out).2.1)
                rintro e w' ⟨rfl, ⟨nd, rfl⟩⟩; refine ⟨_, rfl, ?_⟩; obtain ⟨Ao38, co38, eo38⟩ := Kd.S_slice HO699.out
                (first | subst eo38 | (injection eo38 with f1_ f2_ f3_; have f4_ := f1_.symm; have f5_ := f3_.symm; clear f1_ f2_ f3_; subst f4_; subst f5_))
                refine hK.out _ _ ⟨(blk_cell BK691.out 0).trans rfl, (blk_cell BK691.out 1).trans rfl⟩ (fun hHeld => ?_); clear hK K; refine norm_ (a' := ?_) ?_ ?_
                rotate_left
                ·show Act.put _ (some 46) _ = _
                 simp only [Act.put, List.setIfInBounds_toArray, List.set_cons_zero, List.set_cons_succ, i64_w, i32_w]
                 rfl
                refine pure_ (i := 3) (N := some 47) (v := ?_) (a' := ?_) #[t_, t_, t_, t_, f_, f_, f_, f_, f_, f_, f_, f_] rfl rfl (any_of HT_.out (by kernel_rfl)) (fun _ _ _ h => h) (Or.inl ⟨by rfl, ?_⟩) ?_ ?_
                rotate_left
                ·intro w'; go_simp
                 with_reducible rfl
                rotate_left
                ·simp only [Act.put, List.setIfInBounds_toArray, List.set_cons_zero, List.set_cons_succ, i64_w, i32_w]
                 rfl
                refine pure_ (i := 4) (N := some 48) (v := ?_) (a' := ?_) #[t_, t_, t_, t_, t_, f_, f_, f_, f_, f_, f_, f_] rfl rfl (any_of HT_.out (by kernel_rfl)) (fun _ _ _ h => h) (Or.inl ⟨by rfl, ?_⟩) ?_ ?_
                rotate_left
                ·intro w'; go_simp
                 with_reducible rfl
                rotate_left
                ·simp only [Act.put, List.setIfInBounds_toArray, List.set_cons_zero, List.set_cons_succ, i64_w, i32_w]
                 rfl
                refine pure_ (i := 5) (N := some 49) (v := ?_) (a' := ?_) #[t_, t_, t_, t_, t_, t_, f_, f_, f_, f_, f_, f_] rfl rfl (any_of HT_.out (by kernel_rfl)) (fun _ _ _ h => h) (Or.inl ⟨by rfl, ?_⟩) ?_ ?_
                rotate_left
                ·intro w'; go_simp
                 with_reducible rfl
                rotate_left
                ·simp only [Act.put, List.setIfInBounds_toArray, List.set_cons_zero, List.set_cons_succ, i64_w, i32_w]
                 rfl
                refine pure_ (i := 7) (N := some 51) (v := ?_) (a' := ?_) #[t_, t_, t_, t_, t_, t_, f_, t_, f_, f_, f_, f_] rfl rfl (any_of HT_.out (by kernel_rfl)) (fun _ _ _ h => h) (Or.inl ⟨by rfl, ?_⟩) ?_ ?_
                rotate_left
                ·intro w'; go_simp
                 with_reducible rfl
                rotate_left
                ·simp only [Act.put, List.setIfInBounds_toArray, List.set_cons_zero, List.set_cons_succ, i64_w, i32_w]
                 rfl
                refine take_ (i := 8) (N := some 52) (v := ?_) (a' := ?_) #[t_, t_, t_, t_, t_, t_, f_, t_, t_, f_, f_, f_] rfl rfl (take_ofW HT_.out HW_.out (by kernel_rfl)) (fun _ _ _ h => h) (Or.inl ⟨by rfl, ?_⟩) hHeld ?_ ?_
                rotate_left
                ·rintro w' ⟨s0, s1⟩; go_simp
                 with_reducible rfl
                rotate_left
                ·simp only [Act.put, List.setIfInBounds_toArray, List.set_cons_zero, List.set_cons_succ, i64_w, i32_w]
                 rfl
                refine one_ (i := 6) (N := some 50) #[t_, t_, t_, t_, t_, t_, t_, t_, t_, f_, f_, f_] rfl rfl (one_of HT_.out (by kernel_rfl)) (by decide) (fun K hK => ?_); refine goes_ Try.func90 (by kernel_rfl) rfl #[.slice Ao38 t697.length co38] (by rfl) rfl rfl (by (try simp only [List.map_toArray, List.map_cons, List.map_nil]); first | done | rfl | (simp only [List.length_drop, List.length_take]; rfl)) ?_
                with_reducible refine (spec_l13Size.calls k2 _ _ t697 t701 _ ?side1 ?side2 A24.out).mono ?_
                (case side1 => repeat (first | exact (Kd.S_reads' HO699.out).2.2 | (with_reducible refine Kd.C_alloc ?_ _) | (with_reducible refine Kd.C_drewN ?_ _) | (with_reducible refine Kd.C_drew ?_)))
                (case side2 => exact (Kd.S_reads' HO699.out).2.1)
                rintro e w' ⟨rfl, ⟨nd, rfl⟩⟩; refine ⟨_, rfl, ?_⟩; obtain ⟨Ao39, co39, eo39⟩ := Kd.S_slice HO_692001.out
                (first | subst eo39 | (injection eo39 with f1_ f2_ f3_; have f4_ := f1_.symm; have f5_ := f3_.symm; clear f1_ f2_ f3_; subst f4_; subst f5_))
                refine hK.out _ _ ⟨(blk_cell BK691.out 0).trans rfl, (blk_cell BK691.out 1).trans rfl⟩ (fun hHeld => ?_); clear hK K; refine norm_ (a' := ?_) ?_ ?_
                rotate_left
                ·show Act.put _ (some 50) _ = _
                 simp only [Act.put, List.setIfInBounds_toArray, List.set_cons_zero, List.set_cons_succ, i64_w, i32_w]
                 rfl
                refine one_ (i := 9) (N := some 53) #[t_, t_, t_, t_, t_, t_, t_, t_, t_, t_, f_, f_] rfl rfl (one_of HT_.out (by kernel_rfl)) (by decide) (fun K hK => ?_); refine goes_ Try.func90 (by kernel_rfl) rfl #[.slice Ao39 x692001_2.length co39] (by rfl) rfl rfl (by (try simp only [List.map_toArray, List.map_cons, List.map_nil]); first | done | rfl | (simp only [List.length_drop, List.length_take]; rfl)) ?_
                with_reducible refine (spec_l13Size.calls k2 _ _ x692001_2 t702 _ ?side1 ?side2 A25.out).mono ?_
                (case side1 => repeat (first | exact (Kd.S_reads' HO_692001.out).2.2 | (with_reducible refine Kd.C_alloc ?_ _) | (with_reducible refine Kd.C_drewN ?_ _) | (with_reducible refine Kd.C_drew ?_)))
                (case side2 => exact (Kd.S_reads' HO_692001.out).2.1)
                rintro e w' ⟨rfl, ⟨nd, rfl⟩⟩; refine ⟨_, rfl, ?_⟩; refine hK.out _ _ ⟨(blk_cell BK691.out 0).trans rfl, (blk_cell BK691.out 1).trans rfl⟩ (fun hHeld => ?_); clear hK K; refine norm_ (a' := ?_) ?_ ?_
                rotate_left
                ·show Act.put _ (some 53) _ = _
                 simp only [Act.put, List.setIfInBounds_toArray, List.set_cons_zero, List.set_cons_succ, i64_w, i32_w]
                 rfl
                refine pure_ (i := 10) (N := some 54) (v := ?_) (a' := ?_) #[t_, t_, t_, t_, t_, t_, t_, t_, t_, t_, t_, f_] rfl rfl (any_of HT_.out (by kernel_rfl)) (fun _ _ _ h => h) (Or.inl ⟨by rfl, ?_⟩) ?_ ?_
                rotate_left
                ·intro w'; go_simp
                 with_reducible rfl
                rotate_left
                ·simp only [Act.put, List.setIfInBounds_toArray, List.set_cons_zero, List.set_cons_succ, i64_w, i32_w]
                 rfl
                refine pure_ (i := 11) (N := some 55) (v := ?_) (a' := ?_) #[t_, t_, t_, t_, t_, t_, t_, t_, t_, t_, t_, t_] rfl rfl (any_of HT_.out (by kernel_rfl)) (fun _ _ _ h => h) (Or.inl ⟨by rfl, ?_⟩) ?_ ?_
                rotate_left
                ·intro w'; go_simp
                 with_reducible rfl
                rotate_left
                ·simp only [Act.put, List.setIfInBounds_toArray, List.set_cons_zero, List.set_cons_succ, i64_w, i32_w]
                 rfl
                refine done_ (done_of HT_.out (by kernel_rfl)) ?_; (try go_wp2); go_roundg k2
                case measure => have := HK1.out; have := HK2.out; omega
                case rel => exact ⟨(wrap64 (x6_2 + 1)), (x692000_2), (x692001_2), (.slice Ao39 x692001_2.length co39), (by first | rfl | (simp; done) | (simp [*]; done)), H', ⟨by have := HK1.out; have := HK2.out; omega⟩, ⟨by (with_reducible repeat (first | apply Kd.S_alloc | apply Kd.S_drewN | apply Kd.S_drew)); exact Kd.S_mono HO_3.out (fun _ hk => ⟨hk.1.1, hk.1.2⟩)⟩, ⟨by (with_reducible repeat (first | apply Kd.S_alloc | apply Kd.S_drewN | apply Kd.S_drew)); exact Kd.S_mono HO_692001.out (fun _ hk => hk.1)⟩, ⟨by (with_reducible repeat (first | refine blk_drewN ?_ _ | refine blk_drew ?_ | refine blk_alloc ?_ _)); exact BK691.out⟩, ⟨by repeat (first | (with_reducible first | exact HB.out | apply below_alloc | apply pw_below_drewN | apply below_drew1 | refine below_set ?_ GE691.out) | exact HB.out)⟩⟩
              ·rw [if_neg c23] at H; have c23b0 : decide (t700 < 3) = false := decide_eq_false c23; clear c23; have H' := Aside0.mk H; clear H; (try go_wp2); have n0_ := Aside0.mk (Kd.S_drew HO_3.out); have n1_ := Aside0.mk (Kd.S_drew HO_692001.out); have n2_ := Aside0.mk (blk_drew BK691.out); have n3_ := Aside0.mk (below_drew1 HB.out); clear HO_3; clear HO_692001; clear BK691; clear HB; have HO_3 := n0_; have HO_692001 := n1_; have BK691 := n2_; have HB := n3_; clear n0_ n1_ n2_ n3_; have p695 : 0 ≤ (x6_2 : Int) := of_decide_eq_true (by assumption); have q695 : x6_2 < (l0.length : Int) := of_decide_eq_true (by assumption); obtain ⟨ad695, A695_0, c695_0, e695, hx695_0, hl695_0, hi695_0⟩ := at_L2 HR0.out x6_2 p695 q695; have hw695_0 := hx695_0; obtain rfl : ad685 = ad695 := (by injection e695); have hw695_0 := hx695_0; replace hx695_0 := (HB.out.cell (World.block_lt_of_cell? w _ hx695_0)).trans hx695_0; have HR695_0 := Aside0.mk hi695_0; have HC695_0 := Aside0.mk hl695_0; clear hi695_0 hl695_0; replace p695 := eq_true p695; replace q695 := eq_true q695; have p696 : 0 ≤ (x4_1 : Int) := of_decide_eq_true (by assumption); have q696 : x4_1 < (l0.length : Int) := of_decide_eq_true (by assumption); obtain ⟨ad696, A696_0, c696_0, e696, hx696_0, hl696_0, hi696_0⟩ := at_L2 HR0.out x4_1 p696 q696; have hw696_0 := hx696_0; obtain rfl : ad685 = ad696 := (by injection e696); have hw696_0 := hx696_0; replace hx696_0 := (HB.out.cell (World.block_lt_of_cell? w _ hx696_0)).trans hx696_0; have HR696_0 := Aside0.mk hi696_0; have HC696_0 := Aside0.mk hl696_0; clear hi696_0 hl696_0; replace p696 := eq_true p696; replace q696 := eq_true q696; refine start_ (n := 10) (S := fun w' => w'.cell? (ad685.add (x6_2).toNat) = some (.slice A695_0 (rd_L2 l0 x6_2).length c695_0) ∧ w'.cell? (ad685.add (x4_1).toNat) = some (.slice A696_0 (rd_L2 l0 x4_1).length c696_0)) (ds := []) #[f_, f_, f_, f_, f_, f_, f_, f_, f_, f_] (by kernel_rfl) rfl rfl ⟨((HB.out.cell (World.block_lt_of_cell? w _ hw695_0)).trans hw695_0), ((HB.out.cell (World.block_lt_of_cell? w _ hw696_0)).trans hw696_0)⟩ (fun hHeld => ?_); refine with_tabW spec_PackOf.tab13 spec_PackOf.bits13 (fun HT_ HW_ => ?_); generalize wr.drew = w40 at HO_3 HO_692001 BK691 HB HR695_0 HR696_0 hx695_0 hx696_0 hHeld ⊢; refine pure_ (i := 0) (N := some 35) (v := ?_) (a' := ?_) #[t_, f_, f_, f_, f_, f_, f_, f_, f_, f_] rfl rfl (any_of HT_.out (by kernel_rfl)) (fun _ _ _ h => h) (Or.inl ⟨by rfl, ?_⟩) ?_ ?_
               rotate_left
               ·intro w'; go_simp
                with_reducible rfl
               rotate_left
               ·simp only [Act.put, List.setIfInBounds_toArray, List.set_cons_zero, List.set_cons_succ, i64_w, i32_w]
                rfl
               refine pure_ (i := 1) (N := some 36) (v := ?_) (a' := ?_) #[t_, t_, f_, f_, f_, f_, f_, f_, f_, f_] rfl rfl (any_of HT_.out (by kernel_rfl)) (fun _ _ _ h => h) (Or.inl ⟨by rfl, ?_⟩) ?_ ?_
               rotate_left
               ·intro w'; go_simp
                with_reducible rfl
               rotate_left
               ·simp only [Act.put, List.setIfInBounds_toArray, List.set_cons_zero, List.set_cons_succ, i64_w, i32_w]
                rfl
               refine pure_ (i := 2) (N := some 37) (v := ?_) (a' := ?_) #[t_, t_, t_, f_, f_, f_, f_, f_, f_, f_] rfl rfl (any_of HT_.out (by kernel_rfl)) (fun _ _ _ h => h) (Or.inl ⟨by rfl, ?_⟩) ?_ ?_
               rotate_left
               ·intro w'; go_simp
                with_reducible rfl
               rotate_left
               ·simp only [Act.put, List.setIfInBounds_toArray, List.set_cons_zero, List.set_cons_succ, i64_w, i32_w]
                rfl
               refine pure_ (i := 4) (N := some 39) (v := ?_) (a' := ?_) #[t_, t_, t_, f_, t_, f_, f_, f_, f_, f_] rfl rfl (any_of HT_.out (by kernel_rfl)) (fun _ _ _ h => h) (Or.inl ⟨by rfl, ?_⟩) ?_ ?_
               rotate_left
               ·intro w'; go_simp
                with_reducible rfl
               rotate_left
               ·simp only [Act.put, List.setIfInBounds_toArray, List.set_cons_zero, List.set_cons_succ, i64_w, i32_w]
                rfl
               refine pure_ (i := 5) (N := some 40) (v := ?_) (a' := ?_) #[t_, t_, t_, f_, t_, t_, f_, f_, f_, f_] rfl rfl (any_of HT_.out (by kernel_rfl)) (fun _ _ _ h => h) (Or.inl ⟨by rfl, ?_⟩) ?_ ?_
               rotate_left
               ·intro w'; go_simp
                with_reducible rfl
               rotate_left
               ·simp only [Act.put, List.setIfInBounds_toArray, List.set_cons_zero, List.set_cons_succ, i64_w, i32_w]
                rfl
               refine pure_ (i := 6) (N := some 41) (v := ?_) (a' := ?_) #[t_, t_, t_, f_, t_, t_, t_, f_, f_, f_] rfl rfl (any_of HT_.out (by kernel_rfl)) (fun _ _ _ h => h) (Or.inl ⟨by rfl, ?_⟩) ?_ ?_
               rotate_left
               ·intro w'; go_simp
                with_reducible rfl
               rotate_left
               ·simp only [Act.put, List.setIfInBounds_toArray, List.set_cons_zero, List.set_cons_succ, i64_w, i32_w]
                rfl
               refine take_ (i := 3) (N := some 38) (v := ?_) (a' := ?_) #[t_, t_, t_, t_, t_, t_, t_, f_, f_, f_] rfl rfl (take_ofW HT_.out HW_.out (by kernel_rfl)) (fun _ _ _ h => h) (Or.inl ⟨by rfl, ?_⟩) hHeld ?_ ?_
               rotate_left
               ·rintro w' ⟨s0, s1⟩; go_simp
                with_reducible rfl
               rotate_left
               ·simp only [Act.put, List.setIfInBounds_toArray, List.set_cons_zero, List.set_cons_succ, i64_w, i32_w]
                rfl
               refine take_ (i := 7) (N := some 42) (v := ?_) (a' := ?_) #[t_, t_, t_, t_, t_, t_, t_, t_, f_, f_] rfl rfl (take_ofW HT_.out HW_.out (by kernel_rfl)) (fun _ _ _ h => h) (Or.inl ⟨by rfl, ?_⟩) hHeld ?_ ?_
               rotate_left
               ·rintro w' ⟨s0, s1⟩; go_simp
                with_reducible rfl
               rotate_left
               ·simp only [Act.put, List.setIfInBounds_toArray, List.set_cons_zero, List.set_cons_succ, i64_w, i32_w]
                rfl
               refine one_ (i := 8) (N := some 43) #[t_, t_, t_, t_, t_, t_, t_, t_, t_, f_] rfl rfl (one_of HT_.out (by kernel_rfl)) (by decide) (fun K hK => ?_); refine goes_ Try.func72 (by kernel_rfl) rfl #[.slice A695_0 (rd_L2 l0 x6_2).length c695_0, .slice A696_0 (rd_L2 l0 x4_1).length c696_0] (by rfl) rfl rfl (by (try simp only [List.map_toArray, List.map_cons, List.map_nil]); first | done | rfl | (simp only [List.length_drop, List.length_take]; rfl)) ?_
               with_reducible refine (spec_l13Of.calls k2 _ _ (rd_L2 l0 x6_2) (fun k_ => k_ < w.heap.size) _ _ (rd_L2 l0 x4_1) t697 _ ?side1 ?side2 ?side3 A21.out).mono ?_
               (case side1 => repeat (first | exact (Kd.C_below HR695_0.out HB.out) | (with_reducible refine Kd.C_alloc ?_ _) | (with_reducible refine Kd.C_drewN ?_ _) | (with_reducible refine Kd.C_drew ?_)))
               (case side2 => exact HC695_0.out)
               (case side3 => exact Kd.V_mk HC696_0.out (Kd.F_below (Kd.C_F Kd.heap_string HR696_0.out) (by repeat (first | (with_reducible first | exact HB.out | apply below_alloc | apply pw_below_drewN | apply below_drew1 | refine below_set ?_ GE691.out) | exact HB.out))))
               rintro e w41 ⟨v698, rfl, ho0, hb⟩; refine ⟨_, rfl, ?_⟩; have n0_ := Aside0.mk (Kd.S_elder' (by (with_reducible repeat (first | apply Kd.S_alloc | apply Kd.S_drewN | apply Kd.S_drew)); exact HO_3.out) (Kd.S_base ho0) hb); have n1_ := Aside0.mk (Kd.S_elder' (by (with_reducible repeat (first | apply Kd.S_alloc | apply Kd.S_drewN | apply Kd.S_drew)); exact HO_692001.out) (Kd.S_base ho0) hb); have n2_ := Aside0.mk (Kd.S_lower (Kd.S_new' (Kd.S_mono (ok' := fun k_ => N_ ≤ k_) ho0 (fun _ hk_ => Nat.le_trans HGN.out (Nat.le_trans (Nat.le_of_lt (blk_lt (by (with_reducible repeat (first | refine blk_drewN ?_ _ | refine blk_drew ?_ | refine blk_alloc ?_ _)); exact BK691.out))) hk_))) (Kd.S_lt (by (with_reducible repeat (first | apply Kd.S_alloc | apply Kd.S_drewN | apply Kd.S_drew)); exact HO_692001.out))) (below_size (by repeat (first | (with_reducible first | exact HB.out | apply below_alloc | apply pw_below_drewN | apply below_drew1 | refine below_set ?_ GE691.out) | exact HB.out)))); have n3_ := Aside0.mk (blk_below (g := gb691) (o := .cells #[.int .i64 x692000_2, u692001] 53 (0, 0)) (by (with_reducible repeat (first | refine blk_drewN ?_ _ | refine blk_drew ?_ | refine blk_alloc ?_ _)); exact BK691.out) hb); have n4_ := Aside0.mk (below_step (by repeat (first | (with_reducible first | exact HB.out | apply below_alloc | apply pw_below_drewN | apply below_drew1 | refine below_set ?_ GE691.out) | exact HB.out)) hb); clear HO_3; clear HO_692001; clear BK691; clear HB; have HO_3 := n0_; have HO_692001 := n1_; have HO699 := n2_; have BK691 := n3_; have HB := n4_; clear n0_ n1_ n2_ n3_ n4_
               (try clear hb)
               (try clear hb2)
               (try clear hk)
               (try clear hi)
               (try clear ho0)
               refine hK.out _ _ ⟨((HB.out.cell (World.block_lt_of_cell? w _ hw695_0)).trans hw695_0), ((HB.out.cell (World.block_lt_of_cell? w _ hw696_0)).trans hw696_0)⟩ (fun hHeld => ?_); clear hK K; refine norm_ (a' := ?_) ?_ ?_
               rotate_left
               ·show Act.put _ (some 43) _ = _
                simp only [Act.put, List.setIfInBounds_toArray, List.set_cons_zero, List.set_cons_succ, i64_w, i32_w]
                rfl
               refine pure_ (i := 9) (N := some 7) (v := ?_) (a' := ?_) #[t_, t_, t_, t_, t_, t_, t_, t_, t_, t_] rfl rfl (any_of HT_.out (by kernel_rfl)) (fun _ _ _ h => h) (Or.inl ⟨by rfl, ?_⟩) ?_ ?_
               rotate_left
               ·intro w'; go_simp
                with_reducible rfl
               rotate_left
               ·simp only [Act.put, List.setIfInBounds_toArray, List.set_cons_zero, List.set_cons_succ, i64_w, i32_w]
                rfl
               refine done_ (done_of HT_.out (by kernel_rfl)) ?_; (try go_wp2); have n0_ := Aside0.mk (Kd.S_drew HO_3.out); have n1_ := Aside0.mk (Kd.S_drew HO_692001.out); have n2_ := Aside0.mk (Kd.S_drew HO699.out); have n3_ := Aside0.mk (blk_drew BK691.out); have n4_ := Aside0.mk (below_drew1 HB.out); clear HO_3; clear HO_692001; clear HO699; clear BK691; clear HB; have HO_3 := n0_; have HO_692001 := n1_; have HO699 := n2_; have BK691 := n3_; have HB := n4_; clear n0_ n1_ n2_ n3_ n4_; obtain ⟨Ao43, co43, eo43⟩ := Kd.S_slice HO_3.out
               (first | subst eo43 | (injection eo43 with f1_ f2_ f3_; have f4_ := f1_.symm; have f5_ := f3_.symm; clear f1_ f2_ f3_; subst f4_; subst f5_))
               refine start_ (n := 12) (S := fun w' => True) (ds := []) #[f_, f_, f_, f_, f_, f_, f_, f_, f_, f_, f_, f_] (by kernel_rfl) rfl rfl trivial (fun hHeld => ?_); refine with_tabW spec_PackOf.tab14 spec_PackOf.bits14 (fun HT_ HW_ => ?_); generalize w41.drew = w42 at HO_3 HO_692001 HO699 BK691 HB hHeld ⊢; refine pure_ (i := 0) (N := some 44) (v := ?_) (a' := ?_) #[t_, f_, f_, f_, f_, f_, f_, f_, f_, f_, f_, f_] rfl rfl (any_of HT_.out (by kernel_rfl)) (fun _ _ _ h => h) (Or.inl ⟨by rfl, ?_⟩) ?_ ?_
               rotate_left
               ·intro w'; go_simp
                with_reducible rfl
               rotate_left
               ·simp only [Act.put, List.setIfInBounds_toArray, List.set_cons_zero, List.set_cons_succ, i64_w, i32_w]
                rfl
               refine pure_ (i := 1) (N := some 45) (v := ?_) (a' := ?_) #[t_, t_, f_, f_, f_, f_, f_, f_, f_, f_, f_, f_] rfl rfl (any_of HT_.out (by kernel_rfl)) (fun _ _ _ h => h) (Or.inl ⟨by rfl, ?_⟩) ?_ ?_
               rotate_left
               ·intro w'; go_simp
                with_reducible rfl
               rotate_left
               ·simp only [Act.put, List.setIfInBounds_toArray, List.set_cons_zero, List.set_cons_succ, i64_w, i32_w]
                rfl
               refine one_ (i := 2) (N := some 46) #[t_, t_, t_, f_, f_, f_, f_, f_, f_, f_, f_, f_] rfl rfl (one_of HT_.out (by kernel_rfl)) (by decide) (fun K hK => ?_); refine goes_ Try.func94 (by kernel_rfl) rfl #[.slice Ao43 x3_1.length co43, .int .i64 x6_2] (by rfl) rfl rfl (by (try simp only [List.map_toArray, List.map_cons, List.map_nil]); first | done | rfl | (simp only [List.length_drop, List.length_take]; rfl)) ?_
               with_reducible refine (spec_l13Deep.calls k2 _ _ x3_1 x6_2 t700 _ ?side1 ?side2 A22.out).mono ?_
               (case side1 => repeat (first | exact (Kd.S_reads' HO_3.out).2.2 | (with_reducible refine Kd.C_alloc ?_ _) | (with_reducible refine Kd.C_drewN ?_ _) | (with_reducible refine Kd.C_drew ?_)))
               (case side2 => exact (Kd.S_reads' HO_3.out).2.1)
               rintro e w' ⟨rfl, ⟨nd, rfl⟩⟩; refine ⟨_, rfl, ?_⟩; refine hK.out _ _ trivial (fun hHeld => ?_); clear hK K; refine norm_ (a' := ?_) ?_ ?_
               rotate_left
               ·show Act.put _ (some 46) _ = _
                simp only [Act.put, List.setIfInBounds_toArray, List.set_cons_zero, List.set_cons_succ, i64_w, i32_w]
                rfl
               refine pure_ (i := 3) (N := some 47) (v := ?_) (a' := ?_) #[t_, t_, t_, t_, f_, f_, f_, f_, f_, f_, f_, f_] rfl rfl (any_of HT_.out (by kernel_rfl)) (fun _ _ _ h => h) (Or.inl ⟨by rfl, ?_⟩) ?_ ?_
               rotate_left
               ·intro w'; go_simp
                with_reducible rfl
               rotate_left
               ·simp only [Act.put, List.setIfInBounds_toArray, List.set_cons_zero, List.set_cons_succ, i64_w, i32_w]
                rfl
               refine pure_ (i := 4) (N := some 48) (v := ?_) (a' := ?_) #[t_, t_, t_, t_, t_, f_, f_, f_, f_, f_, f_, f_] rfl rfl (any_of HT_.out (by kernel_rfl)) (fun _ _ _ h => h) (Or.inl ⟨by rfl, ?_⟩) ?_ ?_
               rotate_left
               ·intro w'; go_simp
                with_reducible rfl
               rotate_left
               ·simp only [Act.put, List.setIfInBounds_toArray, List.set_cons_zero, List.set_cons_succ, i64_w, i32_w]
                rfl
               refine pure_ (i := 5) (N := some 49) (v := undef) (a' := ?_) #[t_, t_, t_, t_, t_, t_, f_, f_, f_, f_, f_, f_] rfl rfl (any_of HT_.out (by kernel_rfl)) (fun _ _ _ h => h) (Or.inr ⟨by rfl, rfl⟩) ?_ ?_
               rotate_left
               ·simp only [Act.put, List.setIfInBounds_toArray, List.set_cons_zero, List.set_cons_succ, i64_w, i32_w]
                rfl
               refine pure_ (i := 6) (N := some 50) (v := undef) (a' := ?_) #[t_, t_, t_, t_, t_, t_, t_, f_, f_, f_, f_, f_] rfl rfl (any_of HT_.out (by kernel_rfl)) (fun _ _ _ h => h) (Or.inr ⟨by rfl, rfl⟩) ?_ ?_
               rotate_left
               ·simp only [Act.put, List.setIfInBounds_toArray, List.set_cons_zero, List.set_cons_succ, i64_w, i32_w]
                rfl
               refine pure_ (i := 7) (N := some 51) (v := undef) (a' := ?_) #[t_, t_, t_, t_, t_, t_, t_, t_, f_, f_, f_, f_] rfl rfl (any_of HT_.out (by kernel_rfl)) (fun _ _ _ h => h) (Or.inr ⟨by rfl, rfl⟩) ?_ ?_
               rotate_left
               ·simp only [Act.put, List.setIfInBounds_toArray, List.set_cons_zero, List.set_cons_succ, i64_w, i32_w]
                rfl
               refine pure_ (i := 8) (N := some 52) (v := undef) (a' := ?_) #[t_, t_, t_, t_, t_, t_, t_, t_, t_, f_, f_, f_] rfl rfl (any_of HT_.out (by kernel_rfl)) (fun _ _ _ h => h) (Or.inr ⟨by rfl, rfl⟩) ?_ ?_
               rotate_left
               ·simp only [Act.put, List.setIfInBounds_toArray, List.set_cons_zero, List.set_cons_succ, i64_w, i32_w]
                rfl
               refine pure_ (i := 9) (N := some 53) (v := undef) (a' := ?_) #[t_, t_, t_, t_, t_, t_, t_, t_, t_, t_, f_, f_] rfl rfl (any_of HT_.out (by kernel_rfl)) (fun _ _ _ h => h) (Or.inr ⟨by rfl, rfl⟩) ?_ ?_
               rotate_left
               ·simp only [Act.put, List.setIfInBounds_toArray, List.set_cons_zero, List.set_cons_succ, i64_w, i32_w]
                rfl
               refine pure_ (i := 10) (N := some 54) (v := undef) (a' := ?_) #[t_, t_, t_, t_, t_, t_, t_, t_, t_, t_, t_, f_] rfl rfl (any_of HT_.out (by kernel_rfl)) (fun _ _ _ h => h) (Or.inr ⟨by rfl, rfl⟩) ?_ ?_
               rotate_left
               ·simp only [Act.put, List.setIfInBounds_toArray, List.set_cons_zero, List.set_cons_succ, i64_w, i32_w]
                rfl
               refine pure_ (i := 11) (N := some 55) (v := ?_) (a' := ?_) #[t_, t_, t_, t_, t_, t_, t_, t_, t_, t_, t_, t_] rfl rfl (any_of HT_.out (by kernel_rfl)) (fun _ _ _ h => h) (Or.inl ⟨by rfl, ?_⟩) ?_ ?_
               rotate_left
               ·intro w'; go_simp
                with_reducible rfl
               rotate_left
               ·simp only [Act.put, List.setIfInBounds_toArray, List.set_cons_zero, List.set_cons_succ, i64_w, i32_w]
                rfl
               refine done_ (done_of HT_.out (by kernel_rfl)) ?_; (try go_wp2); go_roundg k2
               case measure => have := HK1.out; have := HK2.out; omega
               case rel => exact ⟨(wrap64 (x6_2 + 1)), (x692000_2), (x692001_2), (u692001), (by first | rfl | (simp; done) | (simp [*]; done)), H', ⟨by have := HK1.out; have := HK2.out; omega⟩, ⟨by (with_reducible repeat (first | apply Kd.S_alloc | apply Kd.S_drewN | apply Kd.S_drew)); exact Kd.S_mono HO_3.out (fun _ hk => ⟨hk.1.1, hk.1.2⟩)⟩, ⟨by (with_reducible repeat (first | apply Kd.S_alloc | apply Kd.S_drewN | apply Kd.S_drew)); exact Kd.S_mono HO_692001.out (fun _ hk => hk.1)⟩, ⟨by (with_reducible repeat (first | refine blk_drewN ?_ _ | refine blk_drew ?_ | refine blk_alloc ?_ _)); exact BK691.out⟩, ⟨by repeat (first | (with_reducible first | exact HB.out | apply below_alloc | apply pw_below_drewN | apply below_drew1 | refine below_set ?_ GE691.out) | exact HB.out)⟩⟩
             ·rw [if_neg c20] at H; exact absurd H (by simp)
            ·rw [if_neg c19] at H; exact absurd H (by simp)
           ·rw [if_neg c18] at H; exact absurd H (by simp)
          ·rw [if_neg c17] at H; exact absurd H (by simp)
         ·rw [if_neg c16] at H; have c16b0 : decide (x6_2 < x4_1) = false := decide_eq_false c16; clear c16; by_cases c44 : x3_1.length < 4398046511104
          ·rw [if_pos c44] at H; have LMc44 := Aside0.mk c44; clear c44; obtain ⟨y692, hy692⟩ : ∃ y_ : List (S53), y_ = (x3_1 ++ [(⟨x692000_2, x692001_2⟩ : S53)]) := ⟨_, rfl⟩; (replace H : (spec_PackOf.l0 k2 l0 y692 (wrap64 (x4_1 + 1))) = some r := by first | (rw [hy692]; with_reducible exact H) | (have H2_ := (Option.bind_some _ _).symm.trans H; rw [hy692]; with_reducible exact H2_) | (have H2_ := (Option.bind_some _ _).symm.trans H; with_reducible exact H2_) | with_reducible exact H | (rw [hy692]; exact H) | exact H); have Ny692 := Aside0.mk hy692; clear hy692; have H' := Aside0.mk H; clear H; have hcz45_0 : wr.cell? ⟨gb691, 0, none⟩ = some (.int .i64 x692000_2) := (blk_cell BK691.out 0).trans rfl; have hcz45_1 : wr.cell? ⟨gb691, 1, none⟩ = some (u692001) := (blk_cell BK691.out 1).trans rfl; have hfz45_0 := blk_frozen BK691.out 0; have hfz45_1 := blk_frozen BK691.out 1; obtain ⟨Ao47, co47, eo47⟩ := Kd.S_slice HO_692001.out; subst eo47; go_wp2_with (first | ((with_reducible refine gate_builtin (b := .append) (xs := #[.tmp 59, .tmp 61]) rfl ?_); at_builtin; refine Kd.S_append k53 (w0 := w) w.heap.size rfl (.tmp 59) (.tmp 61) 47 53 (.agg #[(.int .i64 0), (.slice none 0 0)]) 32 rfl Try.underlying47 info53 rfl (by decide) (by omega) u3 x3_1 (⟨x692000_2, x692001_2⟩ : S53) [.int .i64 x692000_2, .slice Ao47 x692001_2.length co47] (fun k_ => k_ ≠ gb691) (fun k_ => N_ ≤ k_ ∧ (k_ ≠ gb691 ∧ some k_ ≠ (u3 : Value).ownBlock)) rfl rfl ?aP (fun k_ hk_ => hk_.2) ?aF ?aO ?aB ?aS ?aL ?_; (case aP => exact k53_mkM _ _ _ (⟨x692000_2, x692001_2⟩ : S53) (Kd.R_mono (ok' := fun k_ => N_ ≤ k_ ∧ (k_ ≠ gb691 ∧ some k_ ≠ (u3 : Value).ownBlock)) (Kd.R_types (Kd.R_apart' ((Kd.S_R HO_692001.out)) (Kd.S_typed HO_3.out) (by decide)) BK691.out (by decide)) (fun k_ hk => ⟨hk.1.1, hk.2, hk.1.2⟩))); (case aB => exact (by repeat (first | (with_reducible first | exact HB.out | apply below_alloc | apply pw_below_drewN | apply below_drew1 | refine below_set ?_ GE691.out) | exact HB.out))); (case aF => exact (fun k_ hk => Kd.freshB (g := gb691) (o := .cells #[.int .i64 x692000_2, .slice Ao47 x692001_2.length co47] 53 (0, 0)) (by (with_reducible repeat (first | refine blk_drewN ?_ _ | refine blk_drew ?_ | refine blk_alloc ?_ _)); exact BK691.out) k_ hk)); (case aO => exact (by (with_reducible repeat (first | apply Kd.S_alloc | apply Kd.S_drewN | apply Kd.S_drew)); exact Kd.S_mono HO_3.out (fun k_ hk => ⟨hk.2, fun e_ => absurd hk.1.2 (Nat.not_lt.mpr e_.1)⟩))); (case aS => exact (below_size (by repeat (first | (with_reducible first | exact HB.out | apply below_alloc | apply pw_below_drewN | apply below_drew1 | refine below_set ?_ GE691.out) | exact HB.out)))); (case aL => have := LMc44.out; omega); intro v693 w46 ho hb hg hat; rw [← Ny692.out] at ho; have n0_ := Aside0.mk (blk_grown (g := gb691) (o := .cells #[.int .i64 x692000_2, .slice Ao47 x692001_2.length co47] 53 (0, 0)) (by (with_reducible repeat (first | refine blk_drewN ?_ _ | refine blk_drew ?_ | refine blk_alloc ?_ _)); exact BK691.out) hg (Kd.S_away HO_3.out (fun _ hk => hk.2))); have n1_ := Aside0.mk (hb); have n2_ := Aside0.mk (ho); clear BK691; clear HB; clear HO_3; clear HO_692001; have BK691 := n0_; have HB := n1_; have HO694 := n2_; clear n0_ n1_ n2_; clear ho hb hg hat))
           go_roundg k2
           case measure => have := HK1.out; have := HK2.out; omega
           case rel => exact ⟨(y692), (wrap64 (x4_1 + 1)), (by first | rfl | (simp; done) | (simp [*]; done)), H', ⟨by have := HK1.out; have := HK2.out; omega⟩, ⟨by (with_reducible repeat (first | apply Kd.S_alloc | apply Kd.S_drewN | apply Kd.S_drew)); exact Kd.S_mono HO694.out (fun _ hk => trivial)⟩, ⟨by repeat (first | (with_reducible first | exact HB.out | apply below_alloc | apply pw_below_drewN | apply below_drew1 | refine below_set ?_ GE691.out) | exact HB.out)⟩⟩
          ·rw [if_neg c44] at H; exact absurd H (by simp)
      ·replace c10 := Bool.eq_false_iff.mpr c10; subst c10; (have H1 : (some ([] : List (S53))) = some r := by rw [if_neg (show ¬ (false = true) by decide)] at H; exact H); clear H; have H := H1; clear H1; obtain rfl := Option.some.inj H; have p685 : 0 ≤ (x4_1 : Int) := of_decide_eq_true (by assumption); have q685 : x4_1 < (l0.length : Int) := of_decide_eq_true (by assumption); obtain ⟨ad685, A685_0, c685_0, e685, hx685_0, hl685_0, hi685_0⟩ := at_L2 HR0.out x4_1 p685 q685; cases e685; have hw685_0 := hx685_0; replace hx685_0 := (HB.out.cell (World.block_lt_of_cell? w _ hx685_0)).trans hx685_0; have HR685_0 := Aside0.mk hi685_0; have HC685_0 := Aside0.mk hl685_0; clear hi685_0 hl685_0; replace p685 := eq_true p685; replace q685 := eq_true q685; go_wp2_with (first | ((first | ((with_reducible refine gate_callee (f := 71) rfl ?_); refine goesL_ (some 22) rfl rfl Try.func71 (by kernel_rfl) rfl #[.slice A685_0 (rd_L2 l0 x4_1).length c685_0] rfl (by (try simp only [List.map_toArray, List.map_cons, List.map_nil]); first | done | rfl | (simp only [List.length_drop, List.length_take]; rfl)) ?_) | go_at_call 71); (with_reducible refine (spec_l1Ok.calls k1 _ _ (rd_L2 l0 x4_1) false _ ?side1 ?side2 A9.out).mono ?_); (case side1 => repeat (first | exact (Kd.C_below HR685_0.out HB.out) | (with_reducible refine Kd.C_alloc ?_ _) | (with_reducible refine Kd.C_drewN ?_ _) | (with_reducible refine Kd.C_drew ?_))); (case side2 => exact HC685_0.out); rintro e w' ⟨rfl, ⟨nd, rfl⟩⟩; refine ⟨_, rfl, ?_⟩)); go_ret; exact ⟨_, by first | rfl | (simp <;> rfl) | (simp [*] <;> rfl), by first | exact Kd.S_nil _ _ _ _ _ | exact Kd.N_nil _ _ _ _ _ | exact Kd.V_nil _ _ _ _ _ | exact Kd.Q_nil _ _ _ _ _ | exact Kd.R_nil _ _ _ _ _, by repeat (first | (with_reducible first | exact HB.out | apply below_alloc | apply pw_below_drewN | apply below_drew1) | exact HB.out)⟩
     ·rw [if_neg c8] at H; exact absurd H (by simp)
    ·rw [if_neg c7] at H; have c7b0 : decide (x4_1 < (l0.length : Int)) = false := decide_eq_false c7; clear c7; obtain rfl := Option.some.inj H; go_wp2; go_ret; exact ⟨_, by first | rfl | (simp <;> rfl) | (simp [*] <;> rfl), by (with_reducible repeat (first | apply Kd.S_alloc | apply Kd.S_drewN | apply Kd.S_drew)); exact HO_3.out, by repeat (first | (with_reducible first | exact HB.out | apply below_alloc | apply pw_below_drewN | apply below_drew1) | exact HB.out)⟩
end Go.Proofs.Ytfnhjaiioojbkaa.Q
end
section
namespace Go.Proofs.Ytfnhjaiioojbkaa.Q
open Go.RowKit Go.Proofs.YtfnhjaiioojbkaaW.PrintWords
set_option linter.unusedVariables false
set_option linter.unusedSimpArgs false
abbrev Pk := S53
def sz (d : List Dl) : Nat := d.length + (d.map (fun x => x.f2.length)).sum
def txAt (l : List Tx) (j : Nat) : Tx := l.getD j []
def pkAt (P : List Pk) (j : Nat) : Pk := P.getD j z53
def dpAt (D : List Int) (j : Nat) : Int := D.getD j 0
/-- The best base among the first texts. -/
def bst (l : List Tx) (D : List Int) (t : Tx) : Nat → Int × List Dl
  | 0 => (-1, dOf [] t)
  | j + 1 => if dpAt D j < 3 ∧ sz (dOf (txAt l j) t) < sz (bst l D t j).2 then ((j : Int), dOf (txAt l j) t) else bst l D t j
def dep (D : List Int) (b : Int) : Int := if 0 ≤ b then dpAt D b.toNat + 1 else 1
def pkn (l : List Tx) (q : List Pk × List Int) (b : Int × List Dl) : List Pk × List Int := (q.1 ++ [⟨b.1, b.2⟩], q.2 ++ [dep q.2 b.1])
def pk (l : List Tx) : Nat → List Pk × List Int
  | 0 => ([], [])
  | n + 1 => pkn l (pk l n) (bst l (pk l n).2 (txAt l n) n)
theorem rd_tx (l : List Tx) (j : Nat) : rd_L2 l (j : Int) = txAt l j := by simp [rd_L2, txAt]
theorem rd_pk (P : List Pk) (j : Nat) : rd_T53 P (j : Int) = pkAt P j := by simp [rd_T53, pkAt]
theorem rd_dp (D : List Int) (j : Nat) : rd D (j : Int) = dpAt D j := by show D.getD (j : Int).toNat 0 = _; simp [dpAt]
theorem dpAt_old {D : List Int} {j : Nat} (x : Int) (h : j < D.length) : dpAt (D ++ [x]) j = dpAt D j := by
  simp [dpAt, List.getD_eq_getElem?_getD, List.getElem?_append, h]
theorem dpAt_new (D : List Int) (x : Int) : dpAt (D ++ [x]) D.length = x := by
  simp [dpAt, List.getD_eq_getElem?_getD, List.getElem?_append]
theorem pkAt_old {P : List Pk} {j : Nat} (x : Pk) (h : j < P.length) : pkAt (P ++ [x]) j = pkAt P j := by
  simp [pkAt, List.getD_eq_getElem?_getD, List.getElem?_append, h]
theorem pkAt_new (P : List Pk) (x : Pk) : pkAt (P ++ [x]) P.length = x := by
  simp [pkAt, List.getD_eq_getElem?_getD, List.getElem?_append]
/-- A pack's one, beside the texts. -/
def OkAt (l : List Tx) (D : List Int) (j : Nat) (p : Pk) : Prop :=
  (sz p.f1 ≤ sz (dOf [] (txAt l j)) ∧ 1 ≤ dpAt D j ∧ dpAt D j ≤ 3) ∧
  ((p.f0 = -1 ∧ p.f1 = dOf [] (txAt l j) ∧ dpAt D j = 1) ∨ ∃ b : Nat, b < j ∧ p.f0 = (b : Int) ∧ p.f1 = dOf (txAt l b) (txAt l j) ∧ dpAt D j = dpAt D b + 1)
def Gd (l : List Tx) (P : List Pk) (D : List Int) (n : Nat) : Prop := P.length = n ∧ D.length = n ∧ ∀ j, j < n → OkAt l D j (pkAt P j)
theorem bst_ok (l : List Tx) (D : List Int) (t : Tx) : ∀ m, sz (bst l D t m).2 ≤ sz (dOf [] t) ∧ ((bst l D t m).1 = -1 ∧ (bst l D t m).2 = dOf [] t ∨ ∃ b : Nat, b < m ∧ (bst l D t m).1 = (b : Int) ∧ (bst l D t m).2 = dOf (txAt l b) t ∧ dpAt D b < 3)
  | 0 => ⟨Nat.le_refl _, .inl ⟨rfl, rfl⟩⟩
  | m + 1 => by
    obtain ⟨h1, h2⟩ := bst_ok l D t m
    by_cases c : dpAt D m < 3 ∧ sz (dOf (txAt l m) t) < sz (bst l D t m).2
    · rw [bst, if_pos c]
      exact ⟨by show sz (dOf (txAt l m) t) ≤ _; omega, .inr ⟨m, by omega, rfl, rfl, c.1⟩⟩
    · rw [bst, if_neg c]
      refine ⟨h1, ?_⟩
      rcases h2 with h2 | ⟨b, h3, h4⟩
      · exact .inl h2
      · exact .inr ⟨b, by omega, h4⟩
theorem pk_ok (l : List Tx) : ∀ n, Gd l (pk l n).1 (pk l n).2 n
  | 0 => ⟨rfl, rfl, fun j h => by omega⟩
  | n + 1 => by
    obtain ⟨h1, h2, h3⟩ := pk_ok l n
    obtain ⟨b1, b2⟩ := bst_ok l (pk l n).2 (txAt l n) n
    rw [pk, pkn]
    generalize bst l (pk l n).2 (txAt l n) n = B at b1 b2
    generalize (pk l n).1 = P at h1 h3
    generalize (pk l n).2 = D at h2 h3 b2
    subst h1
    refine ⟨by simp, by simp [h2], fun j hj => ?_⟩
    by_cases hjn : j = P.length
    · subst hjn
      have e : dpAt (D ++ [dep D B.1]) P.length = dep D B.1 := by rw [← h2]; exact dpAt_new _ _
      rw [pkAt_new]
      unfold OkAt
      rw [e]
      rcases b2 with ⟨c1, c2⟩ | ⟨b, c0, c1, c2, c3⟩
      · have ed : dep D B.1 = 1 := by rw [c1]; rfl
        rw [ed]
        exact ⟨⟨b1, by omega, by omega⟩, .inl ⟨c1, c2, rfl⟩⟩
      · have hb := (h3 b c0).1.2
        have ed : dep D B.1 = dpAt D b + 1 := by rw [c1]; simp [dep]
        rw [ed]
        exact ⟨⟨b1, by omega, by omega⟩, .inr ⟨b, c0, c1, c2, by rw [dpAt_old _ (by omega)]⟩⟩
    · have hj' : j < P.length := by omega
      obtain ⟨g1, g2⟩ := h3 j hj'
      rw [pkAt_old _ hj']
      unfold OkAt
      rw [dpAt_old _ (by omega)]
      refine ⟨g1, ?_⟩
      rcases g2 with g2 | ⟨b, c0, c1, c2, c3⟩
      · exact .inl g2
      · exact .inr ⟨b, c0, c1, c2, by rw [dpAt_old _ (by omega)]; exact c3⟩
theorem implSize0_ev (d : List Dl) (hd : ∀ x ∈ d, x.f2.length ≤ 10) (hl : d.length ≤ 1000) : ∀ (n i : Nat) (acc : Nat), i ≤ d.length → d.length - i = n → acc ≤ 1000 + 10 * i →
    Ev (fun k => impl_deltaSize.l0 k (acc : Int) d d.length i) ((acc + ((d.drop i).map (fun x => x.f2.length)).sum : Nat) : Int)
  | 0, i, acc, hi, hn, ha => by
    rw [List.drop_eq_nil_of_le (by omega)]
    refine Ev.step' ?_
    simp only [impl_deltaSize.l0]
    exact Ev.negf (by omega) (EvT (Ev.now _) (by simp))
  | n + 1, i, acc, hi, hn, ha => by
    have h : i < d.length := by omega
    have hh := hd _ (List.getElem_mem h)
    rw [List.drop_eq_getElem_cons h]
    have ih := implSize0_ev d hd hl n (i + 1) (acc + d[i].f2.length) (by omega) (by omega) (by omega)
    refine Ev.step' ?_
    simp only [impl_deltaSize.l0, rdD h, w64_add acc _ (show acc + d[i].f2.length ≤ 1000000000000 by omega), w64_succ i (by omega)]
    refine Ev.posf (by omega) (Ev.posf (by omega) (Ev.posf (by omega) (EvT ih ?_)))
    simp only [List.map_cons, List.sum_cons]
    omega
theorem implSize_ev {d : List Dl} (h : deltaB d = true) : Ev (fun k => impl_deltaSize.f k d) (sz d : Int) := by
  obtain ⟨h1, h2⟩ := deltaB_len h
  unfold impl_deltaSize.f
  exact implSize0_ev d (fun x hx => (piece_ok (h2 x hx)).2.2.2.1) (by omega) _ 0 d.length (by omega) rfl (by omega)
theorem specSize0_ev (d : List Dl) (hd : ∀ x ∈ d, x.f2.length ≤ 10) (hl : d.length ≤ 1000) : ∀ (n i : Nat) (acc : Nat), i ≤ d.length → d.length - i = n → acc ≤ 1000 + 10 * i →
    Ev (fun k => spec_l13Size.l0 k d (acc : Int) i) ((acc + ((d.drop i).map (fun x => x.f2.length)).sum : Nat) : Int)
  | 0, i, acc, hi, hn, ha => by
    rw [List.drop_eq_nil_of_le (by omega)]
    refine Ev.step' ?_
    simp only [spec_l13Size.l0]
    exact Ev.negf (by omega) (EvT (Ev.now _) (by simp))
  | n + 1, i, acc, hi, hn, ha => by
    have h : i < d.length := by omega
    have hh := hd _ (List.getElem_mem h)
    rw [List.drop_eq_getElem_cons h]
    have ih := specSize0_ev d hd hl n (i + 1) (acc + d[i].f2.length) (by omega) (by omega) (by omega)
    refine Ev.step' ?_
    simp only [spec_l13Size.l0, rdD h, w64_add acc _ (show acc + d[i].f2.length ≤ 1000000000000 by omega), w64_succ i (by omega)]
    refine Ev.posf (by omega) (Ev.posf (by omega) (EvT ih ?_))
    simp only [List.map_cons, List.sum_cons]
    omega
theorem specSize_ev {d : List Dl} (h : deltaB d = true) : Ev (fun k => spec_l13Size.f k d) (sz d : Int) := by
  obtain ⟨h1, h2⟩ := deltaB_len h
  unfold spec_l13Size.f
  exact specSize0_ev d (fun x hx => (piece_ok (h2 x hx)).2.2.2.1) (by omega) _ 0 d.length (by omega) rfl (by omega)
theorem deep_ev {l : List Tx} {P : List Pk} {D : List Int} {n : Nat} (g : Gd l P D n) : ∀ (N j : Nat) (c : Int), j ≤ N → j < n → 1 ≤ c → c ≤ 1000 - dpAt D j →
    Ev (fun k => spec_l13Deep.l0 k P (j : Int) c) (c + dpAt D j - 1)
  | N, j, c, hN, hj, h1, h2 => by
    obtain ⟨⟨_, d1, d2⟩, g2⟩ := g.2.2 j hj
    refine Ev.step' ?_
    simp only [spec_l13Deep.l0, rd_pk]
    refine Ev.posf (by omega) (Ev.posf (by have := g.1; omega) ?_)
    rcases g2 with ⟨e0, e1, e2⟩ | ⟨b, c0, c1, c2, c3⟩
    · exact Ev.negf (by omega) (EvT (Ev.now _) (by omega))
    · rw [c1, w64 (by omega) (by omega)]
      refine Ev.posf (by omega) ?_
      match N, hN with
      | 0, hN => omega
      | N + 1, hN => exact EvT (deep_ev g N b (c + 1) (by omega) (by omega) (by omega) (by omega)) (by omega)
theorem specDeep_ev {l : List Tx} {P : List Pk} {D : List Int} {n : Nat} (g : Gd l P D n) {j : Nat} (hj : j < n) : Ev (fun k => spec_l13Deep.f k P (j : Int)) (dpAt D j) := by
  have hd := (g.2.2 j hj).1.2
  exact EvT (deep_ev g j j 1 (by omega) hj (by omega) (by omega)) (by omega)
theorem bst_delta {l : List Tx} (D : List Int) {t : Tx} (ht : textB t = true) (m : Nat) (hl : ∀ j, j < m → textB (txAt l j) = true) : deltaB (bst l D t m).2 = true := by
  obtain ⟨_, h | ⟨b, h1, h2, h3, h4⟩⟩ := bst_ok l D t m
  · rw [h.2]; exact dOf_ok rfl ht
  · rw [h3]; exact dOf_ok (hl b h1) ht
theorem implBst_ev {l : List Tx} {P : List Pk} {D : List Int} {i : Nat} (g : Gd l P D i) (hi : i < l.length) (hl : l.length ≤ 12) (ok : ∀ j, j ≤ i → textB (txAt l j) = true) (r : List Pk)
    (hr : Ev (fun k => impl_PackOf.l0 k l (pkn l (P, D) (bst l D (txAt l i) i)).1 (pkn l (P, D) (bst l D (txAt l i) i)).2 l l.length ((i + 1 : Nat) : Int)) r) :
    ∀ (d j : Nat), i - j = d → j ≤ i → Ev (fun k => impl_PackOf.l1 k l P D (txAt l i) (dep D (bst l D (txAt l i) j).1) l l.length i i j (bst l D (txAt l i) j).1 (bst l D (txAt l i) j).2) r
  | 0, j, hd, hj => by
    obtain rfl : j = i := by omega
    have h1 := g.1
    have h2 := g.2.1
    refine Ev.step' ?_
    simp only [impl_PackOf.l1, w64_succ j (by omega)]
    exact Ev.negf (by omega) (Ev.posf (by omega) (Ev.posf (by omega) hr))
  | d + 1, j, hd, hj => by
    have hj' : j < i := by omega
    have h1 := g.1
    have h2 := g.2.1
    have hdp := (g.2.2 j hj').1.2
    have ih := implBst_ev g hi hl ok r hr d (j + 1) (by omega) (by omega)
    have t1 := textB_len (ok j (by omega))
    have t2 := textB_len (ok i (by omega))
    have s1 := implSize_ev (dOf_ok (ok j (by omega)) (ok i (by omega)))
    have s2 := implSize_ev (bst_delta (l := l) D (ok i (by omega)) j (fun j hj => ok j (by omega)))
    refine Ev.step' ?_
    simp only [impl_PackOf.l1, rd_dp, rd_tx, w64_succ j (by omega), w64 (x := dpAt D j + 1) (by omega) (by omega)]
    refine Ev.posf (by omega) (Ev.posf (by omega) (Ev.posf (by omega) (Ev.ite (fun c => ?_) (fun c => Ev.posf (by omega) (Ev.bind (implOf_ev (by omega) (by omega)) (Ev.bind s1 (Ev.bind s2 (Ev.ite (fun c2 => ?_) (fun c2 => ?_)))))))))
    · rw [bst, if_neg (by omega)] at ih
      exact ih
    · rw [bst, if_pos (by omega)] at ih
      simp only [dep, Int.toNat_natCast] at ih
      rw [if_pos (by omega)] at ih
      exact ih
    · rw [bst, if_neg (by omega)] at ih
      exact ih
theorem implPack0_ev {l : List Tx} (hl : l.length ≤ 12) (ok : ∀ j, j < l.length → textB (txAt l j) = true) : ∀ (d i : Nat), l.length - i = d → i ≤ l.length →
    Ev (fun k => impl_PackOf.l0 k l (pk l i).1 (pk l i).2 l l.length i) (pk l l.length).1
  | 0, i, hd, hi => by
    obtain rfl : i = l.length := by omega
    refine Ev.step' ?_
    simp only [impl_PackOf.l0]
    exact Ev.negf (by omega) (Ev.now _)
  | d + 1, i, hd, hi => by
    have hi' : i < l.length := by omega
    have ih := implPack0_ev hl ok d (i + 1) (by omega) (by omega)
    have t2 := textB_len (ok i hi')
    have hb := implBst_ev (pk_ok l i) hi' hl (fun j hj => ok j (by omega)) _ ih i 0 (by omega) (by omega)
    refine Ev.step' ?_
    simp only [impl_PackOf.l0, rd_tx]
    exact Ev.posf (by omega) (Ev.posf (by omega) (Ev.posf (by omega) (Ev.bind (implOf_ev (by simp) (by omega)) hb)))
theorem specBst_ev {l : List Tx} {P : List Pk} {D : List Int} {i : Nat} (g : Gd l P D i) (hi : i < l.length) (hl : l.length ≤ 12) (ok : ∀ j, j ≤ i → textB (txAt l j) = true) (r : List Pk)
    (hr : Ev (fun k => spec_PackOf.l0 k l (pkn l (P, D) (bst l D (txAt l i) i)).1 ((i + 1 : Nat) : Int)) r) :
    ∀ (d j : Nat), i - j = d → j ≤ i → Ev (fun k => spec_PackOf.l1 k l P i j (bst l D (txAt l i) j).1 (bst l D (txAt l i) j).2) r
  | 0, j, hd, hj => by
    obtain rfl : j = i := by omega
    have h1 := g.1
    refine Ev.step' ?_
    simp only [spec_PackOf.l1, w64_succ j (by omega)]
    exact Ev.negf (by omega) (Ev.posf (by omega) hr)
  | d + 1, j, hd, hj => by
    have hj' : j < i := by omega
    have h1 := g.1
    have ih := specBst_ev g hi hl ok r hr d (j + 1) (by omega) (by omega)
    have t1 := textB_len (ok j (by omega))
    have t2 := textB_len (ok i (by omega))
    have s1 := specSize_ev (dOf_ok (ok j (by omega)) (ok i (by omega)))
    have s2 := specSize_ev (bst_delta (l := l) D (ok i (by omega)) j (fun j hj => ok j (by omega)))
    refine Ev.step' ?_
    simp only [spec_PackOf.l1, rd_tx, w64_succ j (by omega)]
    refine Ev.posf (by omega) (Ev.posf (by omega) (Ev.posf (by omega) (Ev.posf (by omega) (Ev.posf (by omega) (Ev.bind (specOf_ev (by omega) (by omega)) (Ev.bind (specDeep_ev g hj') (Ev.ite (fun c => Ev.bind s1 (Ev.bind s2 (Ev.ite (fun c2 => ?_) (fun c2 => ?_)))) (fun c => ?_))))))))
    · rw [bst, if_pos (by omega)] at ih
      exact ih
    · rw [bst, if_neg (by omega)] at ih
      exact ih
    · rw [bst, if_neg (by omega)] at ih
      exact ih
/-- What both makers answer. -/
def packB (l : List Tx) : List Pk := if l.length ≤ 12 ∧ l.all textB = true then (pk l l.length).1 else []
theorem all_at {l : List Tx} (h : l.all textB = true) : ∀ j, j < l.length → textB (txAt l j) = true := fun j hj => by
  rw [List.all_eq_true] at h
  have := h _ (List.getElem_mem hj)
  simpa [txAt, List.getD_eq_getElem?_getD, hj] using this
theorem specPack0_ev {l : List Tx} (hl : l.length ≤ 12) (hs : ∀ x ∈ l, Sm x) : ∀ (d i : Nat), l.length - i = d → i ≤ l.length → (∀ j, j < i → textB (txAt l j) = true) →
    Ev (fun k => spec_PackOf.l0 k l (pk l i).1 i) (if (l.drop i).all textB = true then (pk l l.length).1 else [])
  | 0, i, hd, hi, ok => by
    obtain rfl : i = l.length := by omega
    refine Ev.step' ?_
    simp only [spec_PackOf.l0]
    exact Ev.negf (by omega) (EvT (Ev.now _) (by simp))
  | d + 1, i, hd, hi, ok => by
    have hi' : i < l.length := by omega
    have e : txAt l i = l[i] := by simp [txAt, List.getD_eq_getElem?_getD, hi']
    have hT := specText_ev (txAt l i) (by rw [e]; exact hs _ (List.getElem_mem hi'))
    rw [List.drop_eq_getElem_cons hi', List.all_cons, ← e]
    refine Ev.step' ?_
    simp only [spec_PackOf.l0, rd_tx]
    refine Ev.posf (by omega) (Ev.posf (by omega) (Ev.bind hT (Ev.ite (fun c => ?_) (fun c => EvT (Ev.now _) ?_))))
    · have ok' : ∀ j, j ≤ i → textB (txAt l j) = true := fun j hj => by
        by_cases hji : j = i
        · rw [hji]; exact c
        · exact ok j (by omega)
      have ih := specPack0_ev hl hs d (i + 1) (by omega) (by omega) (fun j hj => ok' j (by omega))
      have t2 := textB_len c
      rw [c, Bool.true_and]
      exact Ev.bind (specOf_ev (by simp) (by omega)) (specBst_ev (pk_ok l i) hi' hl ok' _ ih i 0 (by omega) (by omega))
    · rw [if_neg (by simp [c])]
theorem specPack_ev (l : List Tx) (hs : ∀ x ∈ l, Sm x) : Ev (fun k => spec_PackOf.f k l) (packB l) := by
  unfold spec_PackOf.f packB
  refine Ev.ite (fun c => EvT (Ev.now _) (by rw [if_neg (by omega)])) (fun c => ?_)
  have h := specPack0_ev (l := l) (by omega) hs _ 0 rfl (by omega) (fun j hj => by omega)
  rw [List.drop_zero] at h
  refine EvT h ?_
  by_cases c2 : l.all textB = true
  · rw [if_pos c2, if_pos ⟨by omega, c2⟩]
  · rw [if_neg c2, if_neg (fun h => c2 h.2)]
theorem implPack_ev (l : List Tx) (hs : ∀ x ∈ l, Sm x) : Ev (fun k => impl_PackOf.f k l) (packB l) := by
  have hA : Ev (fun k => impl_PackOf_any.f k l) (l.any (fun x => !textB x)) := anyF_ev (fun k => impl_PackOf_1.f k) _ l (fun x hx => Ev.bind (implText_ev x (hs x hx)) (Ev.now _))
  unfold impl_PackOf.f packB
  refine Ev.somef (Ev.somef (Ev.ite (fun c => ?_) (fun c => Ev.bind hA ?_)))
  · refine Ev.step' ?_
    simp only [impl_PackOf.j0]
    exact Ev.posf trivial (EvT (Ev.now _) (by rw [if_neg (by omega)]))
  · refine Ev.step' ?_
    simp only [impl_PackOf.j0]
    by_cases c2 : l.all textB = true
    · rw [if_pos ⟨by omega, c2⟩]
      refine Ev.negf (by rw [List.all_eq_true] at c2; simp; exact c2) ?_
      exact implPack0_ev (by omega) (all_at c2) _ 0 rfl (by omega)
    · rw [if_neg (fun h => c2 h.2)]
      refine Ev.posf ?_ (Ev.now _)
      simp only [List.all_eq_true] at c2
      simp only [List.any_eq_true, Bool.not_eq_true']
      exact Classical.byContradiction fun h => c2 fun x hx => by
        cases e : textB x with
        | true => rfl
        | false => exact absurd ⟨x, hx, e⟩ h
end Go.Proofs.Ytfnhjaiioojbkaa.Q
end
section
namespace Go.Proofs.Ytfnhjaiioojbkaa.Q
open Go.RowKit Go.Proofs.YtfnhjaiioojbkaaW.PrintWords
set_option linter.unusedVariables false
set_option linter.unusedSimpArgs false
theorem pk_delta {l : List Tx} {P : List Pk} {D : List Int} {n : Nat} (g : Gd l P D n) (ok : ∀ j, j < n → textB (txAt l j) = true) {j : Nat} (hj : j < n) : deltaB (pkAt P j).f1 = true := by
  obtain ⟨_, ⟨_, h, _⟩ | ⟨b, hb, _, h, _⟩⟩ := g.2.2 j hj
  · rw [h]; exact dOf_ok rfl (ok j hj)
  · rw [h]; exact dOf_ok (ok b (by omega)) (ok j hj)
end Go.Proofs.Ytfnhjaiioojbkaa.Q
end
section
namespace Go.Proofs.Ytfnhjaiioojbkaa.Q
open Go.RowKit Go.Proofs.YtfnhjaiioojbkaaW.PrintWords
set_option linter.unusedVariables false
set_option linter.unusedSimpArgs false
theorem deltaB_Sm {d : List Dl} (h : deltaB d = true) : SmD d := ⟨by have := (deltaB_len h).1; omega, fun x hx => by
  obtain ⟨_, _, _, h3, h4⟩ := piece_ok ((deltaB_len h).2 x hx)
  exact ⟨by omega, fun s hs => by have := h4 s hs; omega⟩⟩
theorem pkAt_mem {P : List Pk} {p : Pk} (h : p ∈ P) : ∃ j, j < P.length ∧ pkAt P j = p := by
  obtain ⟨j, hj, rfl⟩ := List.mem_iff_getElem.mp h
  exact ⟨j, hj, by simp [pkAt, List.getD_eq_getElem?_getD, hj]⟩
theorem packB_ok (l : List Tx) : ∀ p ∈ packB l, deltaB p.f1 = true := fun p hp => by
  unfold packB at hp
  split at hp
  case isTrue c =>
    have g := pk_ok l l.length
    obtain ⟨j, hj, rfl⟩ := pkAt_mem hp
    exact pk_delta g (all_at c.2) (by rw [g.1] at hj; exact hj)
  case isFalse => cases hp
theorem packB_len (l : List Tx) : (packB l).length ≤ 12 := by
  unfold packB
  split
  case isTrue c => rw [(pk_ok l l.length).1]; exact c.1
  case isFalse => simp
end Go.Proofs.Ytfnhjaiioojbkaa.Q
end
section
namespace Go.Proofs.Ytfnhjaiioojbkaa.Q
open Go.RowKit Go.Proofs.YtfnhjaiioojbkaaW.PrintWords
set_option linter.unusedVariables false
set_option linter.unusedSimpArgs false
theorem rdPk {l : List Pk} {i : Nat} (h : i < l.length) : rd_T53 l (i : Int) = l[i] := by simp [rd_T53, List.getD_eq_getElem?_getD, h]
theorem eqP0_refl (l : List Pk) (hl : l.length ≤ 100000000) (hx : ∀ x ∈ l, x.f1.length ≤ 100000000 ∧ ∀ y ∈ x.f1, y.f2.length ≤ 100000000) : ∀ (d i : Nat), l.length - i = d → i ≤ l.length → Ev (fun k => laws_eqPackedS.l0 k l l i) true
  | 0, i, hd, hi => by
    refine Ev.step' ?_
    simp only [laws_eqPackedS.l0]
    exact Ev.negf (by omega) (Ev.now _)
  | d + 1, i, hd, hi => by
    have hi' : i < l.length := by omega
    have h2 := hx _ (List.getElem_mem hi')
    refine Ev.step' ?_
    simp only [laws_eqPackedS.l0, w64_succ i (by omega), rdPk hi']
    refine Ev.posf (by omega) (Ev.posf (by omega) (Ev.posf (by omega) (Ev.bind (a := true) ?_ (Ev.posf rfl (eqP0_refl l hl hx d (i + 1) (by omega) (by omega))))))
    unfold laws_eqPacked.f
    exact Ev.posf rfl (Ev.bind (eqD_refl _ h2.1 h2.2) (Ev.posf rfl (Ev.now _)))
theorem eqP_refl (l : List Pk) (hl : l.length ≤ 100000000) (hx : ∀ x ∈ l, x.f1.length ≤ 100000000 ∧ ∀ y ∈ x.f1, y.f2.length ≤ 100000000) : Ev (fun k => laws_eqPackedS.f k l l) true := by
  unfold laws_eqPackedS.f
  exact Ev.posf rfl (eqP0_refl l hl hx _ 0 rfl (by omega))
section
variable {H : Type} {enc : TypeId × Value → H} {w : World} {base : Nat} {spare : Nat → Bool} {held : Bool}
end
end Go.Proofs.Ytfnhjaiioojbkaa.Q
end
section
namespace Go.Proofs.Ytfnhjaiioojbkaa.Q
open Go.RowKit Go.Proofs.YtfnhjaiioojbkaaW.PrintWords Go.Proofs.YtfnhjaiioojbkaaW.PrintLast Go.Proofs.YtfnhjaiioojbkaaW.PrintMore
attribute [local go_sem] max2_int min2_int max_two min_two max_three min_three max_four min_four   -- for this text's walks alone
set_option linter.unusedVariables false
set_option linter.unusedSimpArgs false
def laws_heldPackedS.l0 : Nat → List (S53) → Int → Int → Option (Int)
 | 0, _, _, _ => none
 | k + 1, x0, x1, x5 => if x5 < (x0.length : Int) then (if 0 ≤ x5 then (if ((rd_T53 x0 x5).f0) = x1 then ((laws_heldDeltaS.f k ((rd_T53 x0 x5).f1) (wrap64 (x1 + 1))).bind fun t1100 => (if t1100 < 0 then (some (-1)) else (laws_heldPackedS.l0 k x0 t1100 (wrap64 (x5 + 1))))) else (some (-1))) else (none)) else (some x1)
def laws_heldPackedS.f (k : Nat) (l0 : List (S53)) (a1 : Int) : Option (Int) := laws_heldPackedS.l0 k l0 a1 0
set_option maxHeartbeats 8000000 in
set_option maxRecDepth 100000 in
theorem laws_heldPackedS.calls (k : Nat) (A0 : Option Addr) (c0 : Nat) (l0 : List (S53)) (a1 : Int) (r : Int) (w : World) (hr0 : Kd.C k53 w A0 l0.length l0) (hc0 : l0.length ≤ c0) (h : laws_heldPackedS.f k l0 a1 = some r) :
 Calls Try.prog 59 #[.slice A0 l0.length c0, .int .i64 a1] w fun e w' => e = .returned (.int .i64 r) ∧ Below w.heap.size w w' := by
 have HR0 := Aside0.mk hr0; have HC0 := Aside0.mk hc0; clear hr0 hc0; have HB := Aside0.mk (Below.refl w.heap.size w); have H : (laws_heldPackedS.l0 k l0 a1 0) = some r := h; clear h; have H' := Aside0.mk H; clear H; go_enter Try.func59, Try.ntmps59; go_wp2; go_loopg [1, 5] k (fun kq v1 v5 w' => ∃ (x1_1 : Int) (x5_1 : Int), v1 = .int .i64 x1_1 ∧ v5 = .int .i64 x5_1 ∧ Aside0 (laws_heldPackedS.l0 kq l0 x1_1 x5_1 = some r) ∧ Aside0 (kq ≤ k) ∧ Aside0 (Below w.heap.size w w'))
 case atStart => exact ⟨(a1), (0), (by first | rfl | (simp; done) | (simp [*]; done)), (by first | rfl | (simp; done) | (simp [*]; done)), H', ⟨Nat.le_refl _⟩, ⟨by repeat (first | (with_reducible first | exact HB.out | apply below_alloc | apply pw_below_drewN | apply below_drew1) | exact HB.out)⟩⟩
 case round =>
  clear H'; (try clear p2); obtain ⟨x1_1, x5_1, rfl, rfl, HA, HK1, HB⟩ := hrel
  cases gk with
  | zero => exact absurd HA.out (by simp [laws_heldPackedS.l0])
  | succ k1 =>
   have H := HA.out; clear HA; simp only [laws_heldPackedS.l0] at H; by_cases c3 : x5_1 < (l0.length : Int)
   ·rw [if_pos c3] at H; have c3b0 : decide (x5_1 < (l0.length : Int)) = true := decide_eq_true c3; clear c3; by_cases c4 : 0 ≤ x5_1
    ·rw [if_pos c4] at H; have c4b0 : decide (0 ≤ x5_1) = true := decide_eq_true c4; clear c4; by_cases c5 : ((rd_T53 l0 x5_1).f0) = x1_1
     ·rw [if_pos c5] at H; have c5b0 : (((rd_T53 l0 x5_1).f0) == x1_1) = true := beq_iff_eq.mpr c5; have c5b1 : (((rd_T53 l0 x5_1).f0) != x1_1) = false := bne_eq_false_iff_eq.mpr c5; clear c5; replace H := Option.bind_eq_some_iff.mp H; obtain ⟨t1100, A60, H⟩ := H; replace H : (if t1100 < 0 then (some (-1)) else (laws_heldPackedS.l0 k1 l0 t1100 (wrap64 (x5_1 + 1)))) = some r := H; have A6 := Aside0.mk A60; clear A60; by_cases c7 : t1100 < 0
      ·rw [if_pos c7] at H; have c7b0 : decide (t1100 < 0) = true := decide_eq_true c7; clear c7; obtain rfl := Option.some.inj H; have p1098 : 0 ≤ (x5_1 : Int) := of_decide_eq_true (by assumption); have q1098 : x5_1 < (l0.length : Int) := of_decide_eq_true (by assumption); obtain ⟨ad1098, A1098_1, c1098_1, e1098, hx1098_0, hx1098_1, hl1098_1, hi1098_1⟩ := at_T53 HR0.out x5_1 p1098 q1098; cases e1098; replace hx1098_0 := (HB.out.cell (World.block_lt_of_cell? w _ hx1098_0)).trans hx1098_0; replace hx1098_1 := (HB.out.cell (World.block_lt_of_cell? w _ hx1098_1)).trans hx1098_1; have HR1098_1 := Aside0.mk hi1098_1; have HC1098_1 := Aside0.mk hl1098_1; clear hi1098_1 hl1098_1; replace p1098 := eq_true p1098; replace q1098 := eq_true q1098; have p1099 : 0 ≤ (x5_1 : Int) := of_decide_eq_true (by assumption); have q1099 : x5_1 < (l0.length : Int) := of_decide_eq_true (by assumption); obtain ⟨ad1099, A1099_1, c1099_1, e1099, hx1099_0, hx1099_1, hl1099_1, hi1099_1⟩ := at_T53 HR0.out x5_1 p1099 q1099; obtain rfl : ad1098 = ad1099 := (by injection e1099); replace hx1099_0 := (HB.out.cell (World.block_lt_of_cell? w _ hx1099_0)).trans hx1099_0; replace hx1099_1 := (HB.out.cell (World.block_lt_of_cell? w _ hx1099_1)).trans hx1099_1; have HR1099_1 := Aside0.mk hi1099_1; have HC1099_1 := Aside0.mk hl1099_1; clear hi1099_1 hl1099_1; replace p1099 := eq_true p1099; replace q1099 := eq_true q1099; have ea_ := Option.some.inj (hx1098_1.symm.trans hx1099_1); (injection ea_ with ea_ en_ ec_); subst ea_; subst ec_; clear en_; go_wp2_with (first | ((with_reducible refine gate_callee (f := 33) rfl ?_); refine goesL_ (some 27) rfl rfl Try.func33 (by kernel_rfl) rfl #[.slice A1098_1 ((rd_T53 l0 x5_1).f1).length c1098_1, .int .i64 (wrap64 (x1_1 + 1))] rfl (by (try simp only [List.map_toArray, List.map_cons, List.map_nil]); first | done | rfl | (simp only [List.length_drop, List.length_take]; rfl)) ?_; (with_reducible refine (laws_heldDeltaS.calls k1 _ _ ((rd_T53 l0 x5_1).f1) (wrap64 (x1_1 + 1)) t1100 _ ?side1 ?side2 A6.out).mono ?_); (case side1 => repeat (first | exact (Kd.C_below HR1099_1.out HB.out) | (with_reducible refine Kd.C_alloc ?_ _) | (with_reducible refine Kd.C_drewN ?_ _) | (with_reducible refine Kd.C_drew ?_))); (case side2 => exact HC1099_1.out); rintro e w8 ⟨rfl, hb⟩; refine ⟨_, rfl, ?_⟩; have n0_ := Aside0.mk (below_step (by repeat (first | (with_reducible first | exact HB.out | apply below_alloc | apply pw_below_drewN | apply below_drew1) | exact HB.out)) hb); clear HB; have HB := n0_; clear n0_; (try clear hb); (try clear hb2); (try clear hk); (try clear hi))); go_ret; exact ⟨by first | rfl | (simp <;> rfl) | (simp [*] <;> rfl), by repeat (first | (with_reducible first | exact HB.out | apply below_alloc | apply pw_below_drewN | apply below_drew1) | exact HB.out)⟩
      ·rw [if_neg c7] at H; have c7b0 : decide (t1100 < 0) = false := decide_eq_false c7; clear c7; have H' := Aside0.mk H; clear H; have p1098 : 0 ≤ (x5_1 : Int) := of_decide_eq_true (by assumption); have q1098 : x5_1 < (l0.length : Int) := of_decide_eq_true (by assumption); obtain ⟨ad1098, A1098_1, c1098_1, e1098, hx1098_0, hx1098_1, hl1098_1, hi1098_1⟩ := at_T53 HR0.out x5_1 p1098 q1098; cases e1098; replace hx1098_0 := (HB.out.cell (World.block_lt_of_cell? w _ hx1098_0)).trans hx1098_0; replace hx1098_1 := (HB.out.cell (World.block_lt_of_cell? w _ hx1098_1)).trans hx1098_1; have HR1098_1 := Aside0.mk hi1098_1; have HC1098_1 := Aside0.mk hl1098_1; clear hi1098_1 hl1098_1; replace p1098 := eq_true p1098; replace q1098 := eq_true q1098; have p1099 : 0 ≤ (x5_1 : Int) := of_decide_eq_true (by assumption); have q1099 : x5_1 < (l0.length : Int) := of_decide_eq_true (by assumption); obtain ⟨ad1099, A1099_1, c1099_1, e1099, hx1099_0, hx1099_1, hl1099_1, hi1099_1⟩ := at_T53 HR0.out x5_1 p1099 q1099; obtain rfl : ad1098 = ad1099 := (by injection e1099); replace hx1099_0 := (HB.out.cell (World.block_lt_of_cell? w _ hx1099_0)).trans hx1099_0; replace hx1099_1 := (HB.out.cell (World.block_lt_of_cell? w _ hx1099_1)).trans hx1099_1; have HR1099_1 := Aside0.mk hi1099_1; have HC1099_1 := Aside0.mk hl1099_1; clear hi1099_1 hl1099_1; replace p1099 := eq_true p1099; replace q1099 := eq_true q1099; have ea_ := Option.some.inj (hx1098_1.symm.trans hx1099_1); (injection ea_ with ea_ en_ ec_); subst ea_; subst ec_; clear en_; go_wp2_with (first | ((with_reducible refine gate_callee (f := 33) rfl ?_); refine goesL_ (some 27) rfl rfl Try.func33 (by kernel_rfl) rfl #[.slice A1098_1 ((rd_T53 l0 x5_1).f1).length c1098_1, .int .i64 (wrap64 (x1_1 + 1))] rfl (by (try simp only [List.map_toArray, List.map_cons, List.map_nil]); first | done | rfl | (simp only [List.length_drop, List.length_take]; rfl)) ?_; (with_reducible refine (laws_heldDeltaS.calls k1 _ _ ((rd_T53 l0 x5_1).f1) (wrap64 (x1_1 + 1)) t1100 _ ?side1 ?side2 A6.out).mono ?_); (case side1 => repeat (first | exact (Kd.C_below HR1099_1.out HB.out) | (with_reducible refine Kd.C_alloc ?_ _) | (with_reducible refine Kd.C_drewN ?_ _) | (with_reducible refine Kd.C_drew ?_))); (case side2 => exact HC1099_1.out); rintro e w9 ⟨rfl, hb⟩; refine ⟨_, rfl, ?_⟩; have n0_ := Aside0.mk (below_step (by repeat (first | (with_reducible first | exact HB.out | apply below_alloc | apply pw_below_drewN | apply below_drew1) | exact HB.out)) hb); clear HB; have HB := n0_; clear n0_; (try clear hb); (try clear hb2); (try clear hk); (try clear hi))); go_roundg k1
       case measure => have := HK1.out; omega
       case rel => exact ⟨(t1100), (wrap64 (x5_1 + 1)), (by first | rfl | (simp; done) | (simp [*]; done)), (by first | rfl | (simp; done) | (simp [*]; done)), H', ⟨by have := HK1.out; omega⟩, ⟨by repeat (first | (with_reducible first | exact HB.out | apply below_alloc | apply pw_below_drewN | apply below_drew1) | exact HB.out)⟩⟩
     ·rw [if_neg c5] at H; have c5b0 : (((rd_T53 l0 x5_1).f0) == x1_1) = false := beq_eq_false_iff_ne.mpr c5; have c5b1 : (((rd_T53 l0 x5_1).f0) != x1_1) = true := bne_iff_ne.mpr c5; obtain rfl := Option.some.inj H; have p1098 : 0 ≤ (x5_1 : Int) := of_decide_eq_true (by assumption); have q1098 : x5_1 < (l0.length : Int) := of_decide_eq_true (by assumption); obtain ⟨ad1098, A1098_1, c1098_1, e1098, hx1098_0, hx1098_1, hl1098_1, hi1098_1⟩ := at_T53 HR0.out x5_1 p1098 q1098; cases e1098; replace hx1098_0 := (HB.out.cell (World.block_lt_of_cell? w _ hx1098_0)).trans hx1098_0; replace hx1098_1 := (HB.out.cell (World.block_lt_of_cell? w _ hx1098_1)).trans hx1098_1; have HR1098_1 := Aside0.mk hi1098_1; have HC1098_1 := Aside0.mk hl1098_1; clear hi1098_1 hl1098_1; replace p1098 := eq_true p1098; replace q1098 := eq_true q1098; go_wp2; go_ret; exact ⟨by first | rfl | (simp <;> rfl) | (simp [*] <;> rfl), by repeat (first | (with_reducible first | exact HB.out | apply below_alloc | apply pw_below_drewN | apply below_drew1) | exact HB.out)⟩
    ·rw [if_neg c4] at H; exact absurd H (by simp)
   ·rw [if_neg c3] at H; have c3b0 : decide (x5_1 < (l0.length : Int)) = false := decide_eq_false c3; clear c3; obtain rfl := Option.some.inj H; go_wp2; go_ret; exact ⟨by first | rfl | (simp <;> rfl) | (simp [*] <;> rfl), by repeat (first | (with_reducible first | exact HB.out | apply below_alloc | apply pw_below_drewN | apply below_drew1) | exact HB.out)⟩
end Go.Proofs.Ytfnhjaiioojbkaa.Q
end
section
namespace Go.Proofs.Ytfnhjaiioojbkaa.Q
open Go.RowKit Go.Proofs.YtfnhjaiioojbkaaW.PrintWords Go.Proofs.YtfnhjaiioojbkaaW.PrintLast Go.Proofs.YtfnhjaiioojbkaaW.PrintMore
attribute [local go_sem] max2_int min2_int max_two min_two max_three min_three max_four min_four
set_option linter.unusedVariables false
set_option linter.unusedSimpArgs false
/-- As a slice, its elements' rows apart. -/
def slS {α : Type} (e : Nat) (d : Kd α) : Kd (List α) where
  sz := 1
  E := e :: d.E
  K := fun w xs cs => ∃ A c, cs = [.slice A xs.length c] ∧ xs.length ≤ c ∧ d.C w A xs.length xs
  M := fun w base ok xs cs => ∃ v, cs = [v] ∧ Kd.S d e w base ok v xs
  K_len := by
    rintro w x cs ⟨A, c, rfl, _⟩
    rfl
  K_one := by
    rintro w x cs ⟨A, c, rfl, _⟩ u hu
    rw [List.mem_singleton.1 hu]
    rfl
  K_below := by
    rintro w w1 x cs hb ⟨A, c, rfl, hl, hr⟩
    exact ⟨A, c, rfl, hl, Kd.C_below hr hb⟩
  K_of_M := by
    rintro w base ok x cs ⟨v, rfl, h⟩
    obtain ⟨A, c, rfl, hl, hr⟩ := Kd.S_reads h
    exact ⟨A, c, rfl, hl, hr⟩
  M_mono := by
    rintro w base ok ok' x cs hok ⟨v, rfl, h⟩
    exact ⟨v, rfl, Kd.S_mono h hok⟩
  M_bound := by
    rintro w base ok x cs ⟨v, rfl, h⟩
    exact ⟨v, rfl, Kd.S_bound h⟩
  M_move := by
    rintro w w1 base ok x cs hm ⟨v, rfl, h⟩
    exact ⟨v, rfl, Kd.S_move h hm⟩
  M_lower := by
    rintro w base base' ok x cs hb ⟨v, rfl, h⟩
    exact ⟨v, rfl, Kd.S_lower h hb⟩
def kPQ : Kd Pk := Kd.iso (Kd.pair (Kd.int .i64) (slS 39 k39)) (fun x : Pk => (x.f0, x.f1))
theorem kPQ_openM {w : World} {base : Nat} {ok : Nat → Prop} {x : Pk} {cs : List Value} (h : kPQ.M w base ok x cs) : ∃ v, cs = [.int .i64 x.f0, v] ∧ Kd.S k39 39 w base ok v x.f1 := by
  obtain ⟨_, _, rfl, rfl, ⟨v, rfl, g⟩⟩ := h
  exact ⟨v, rfl, g⟩
theorem kPQ_mkM {w : World} {base : Nat} {ok : Nat → Prop} {x : Pk} {v : Value} (g : Kd.S k39 39 w base ok v x.f1) : kPQ.M w base ok x [.int .i64 x.f0, v] := ⟨[.int .i64 x.f0], [v], rfl, rfl, ⟨v, rfl, g⟩⟩
theorem C_PQ {w : World} {A : Option Addr} {n : Nat} {xs : List Pk} (h : Kd.C kPQ w A n xs) : Kd.C k53 w A n xs := by
  have := C_map (d := kPQ) (d' := k53) (f := id) rfl (fun w x cs h => h) h rfl
  simpa using this
def cnP : List Pk → Int
  | [] => 0
  | x :: t => 1 + cnD x.f1 + cnP t
def mkP (mt : Int → ByteArray) : List Pk → Int → List Pk
  | [], _ => []
  | x :: t, a => ⟨a, mkD mt x.f1 (a + 1)⟩ :: mkP mt t (a + (1 + cnD x.f1))
theorem cnP_nn : ∀ l, 0 ≤ cnP l
  | [] => by simp [cnP]
  | x :: t => by have := cnP_nn t; have := cnD_nn x.f1; simp only [cnP]; omega
theorem cnP_apps : ∀ (l m : List Pk), cnP (l ++ m) = cnP l + cnP m
  | [], m => by simp [cnP]
  | y :: t, m => by rw [List.cons_append, cnP, cnP_apps t m, cnP]; omega
theorem mkP_apps (mt : Int → ByteArray) : ∀ (l r : List Pk) (a : Int), mkP mt (l ++ r) a = mkP mt l a ++ mkP mt r (a + cnP l)
  | [], r, a => by simp [mkP, cnP]
  | x :: t, r, a => by rw [List.cons_append, mkP, mkP_apps mt t r, mkP, cnP, List.cons_append, show a + (1 + cnD x.f1) + cnP t = a + (1 + cnD x.f1 + cnP t) by omega]
theorem mkP_len (mt : Int → ByteArray) : ∀ (l : List Pk) (a : Int), (mkP mt l a).length = l.length
  | [], a => rfl
  | x :: t, a => by simp [mkP, mkP_len mt t]
theorem cnP_take {l : List Pk} {i : Nat} (h : i < l.length) : cnP (l.take (i + 1)) = cnP (l.take i) + (1 + cnD l[i].f1) := by
  rw [← List.take_append_getElem h, cnP_apps]; simp [cnP]
theorem cnP_le (l : List Pk) (i : Nat) : cnP (l.take i) ≤ cnP l := by
  have h : cnP l = cnP (l.take i) + cnP (l.drop i) := by rw [← cnP_apps, List.take_append_drop]
  have := cnP_nn (l.drop i)
  omega
theorem kPQ_g0 {W : World} {base : Nat} {a : Int} {x : Pk} {p q : List Pk} {i : Nat} (hp : i = p.length) (oki : Nat → Prop) (c : List Value) (hl : c.length = kPQ.sz) (h : kPQ.M W base oki ((p ++ x :: q).getD (i : Int).toNat z53) c) : kPQ.M W base oki ⟨a, x.f1⟩ (c.take 0 ++ [.int .i64 a] ++ c.drop (0 + 1)) := by
  rw [Int.toNat_natCast, get_mid _ _ _ _ _ hp] at h
  obtain ⟨v, rfl, g⟩ := kPQ_openM h
  exact kPQ_mkM (x := ⟨a, x.f1⟩) g
theorem lend_pieces {W : World} {base : Nat} {ok : Nat → Prop} {g n cap : Nat} {p q : List Pk} {x : Pk} {i : Nat} (hp : i = p.length) (h : Kd.S kPQ 53 W base ok (.slice (some ⟨g, 0, none⟩) n cap) (p ++ x :: q)) (hi : (i : Int) < (n : Int)) :
    ∃ (oki : Nat → Prop) (A : Option Addr) (c : Nat), Kd.S k39 39 W base oki (.slice A x.f1.length c) x.f1 ∧ W.cell? ⟨g, i * 2 + 1, none⟩ = some (.slice A x.f1.length c) ∧ (∀ k, oki k → ok k) ∧
      Kd.H kPQ 53 W base ok (.slice (some ⟨g, 0, none⟩) n cap) (p ++ x :: q) (i : Int) oki [.int .i64 x.f0, .slice A x.f1.length c] := by
  obtain ⟨oki, c, hcl, hM, hcc, hoki, hH⟩ := Kd.S_lend h z53 (i : Int) (by omega) hi
  rw [Int.toNat_natCast, get_mid _ _ _ _ _ hp] at hM
  obtain ⟨v, rfl, g2⟩ := kPQ_openM hM
  obtain ⟨A, c2, rfl⟩ := Kd.S_slice g2
  exact ⟨oki, A, c2, g2, hcc 1 _ rfl, fun k hk => (hoki k hk).1, hH⟩
theorem back_pieces {W w1 : World} {base : Nat} {ok oki : Nat → Prop} {g n cap c : Nat} {A : Option Addr} {p q : List Pk} {x : Pk} {i : Nat} {m : Nat} {l : List Dl} (hp : i = p.length) (hH : Kd.H kPQ 53 W base ok (.slice (some ⟨g, 0, none⟩) n cap) (p ++ x :: q) (i : Int) oki [.int .i64 x.f0, .slice A m c])
    (hr : Kd.S k39 39 w1 base (fun k => oki k ∨ W.heap.size ≤ k) (.slice A m c) l) (hk : Kept W w1 oki) (hok : ∀ k, W.heap.size ≤ k → ok k) :
    Kd.S kPQ 53 w1 base ok (.slice (some ⟨g, 0, none⟩) n cap) (p ++ ⟨x.f0, l⟩ :: q) := by
  have h2 := Kd.H_step (Kd.H_widen hH) (w1 := w1) (fun k _ hn hlt => hk.2 k hlt (fun h => hn (.inl h)))
  have h3 := Kd.H_back h2 (x' := ⟨x.f0, l⟩) (kPQ_mkM (x := ⟨x.f0, l⟩) hr) (fun k hk => hk.elim .inl (fun h => .inr ⟨hok k h, h⟩))
  rw [Int.toNat_natCast, set_mid _ _ _ _ _ hp] at h3
  exact h3
set_option maxHeartbeats 4000000 in
set_option maxRecDepth 100000 in
theorem markPS_calls {mt : Int → ByteArray} (hm : Mt mt) (P0 : Nat → Prop) (u : Value) (l : List Pk) (a : Int) (w0 w : World) (hB : Below w0.heap.size w0 w) (ho : Kd.S kPQ 53 w w0.heap.size P0 u l) (h0 : 0 ≤ a) (hl : l.length ≤ 1000000) (hx : ∀ x ∈ l, x.f1.length ≤ 1000000) (h1 : a + cnP l ≤ 4000000000000000000) :
    Calls Try.prog 58 #[u, .int .i64 a] w fun e w' => e = .returned (.int .i64 (a + cnP l)) ∧ Kd.S kPQ 53 w' w0.heap.size (fun k => P0 k ∨ w.heap.size ≤ k) u (mkP mt l a) ∧ Below w0.heap.size w0 w' ∧ Kept w w' P0 := by
  have hu53 := Try.underlying53
  obtain ⟨A, c, rfl⟩ := Kd.S_slice ho
  have HO := Aside0.mk (Kd.S_mono (ok' := fun k => P0 k ∨ w.heap.size ≤ k) ho (fun k hk => .inl hk))
  have HB := Aside0.mk hB
  have HK := Aside0.mk (Kept.refl w P0)
  have HM := Aside0.mk hm
  have H0 := Aside0.mk h0
  have H1 := Aside0.mk h1
  have HL := Aside0.mk hl
  have HX := Aside0.mk hx
  clear ho hB hm h0 h1 hl hx
  go_enter Try.func58, Try.ntmps58
  go_wp2
  go_loopg [1, 5] l.length (fun gg v1 v5 wr => ∃ i : Nat, v1 = .int .i64 (a + cnP (l.take i)) ∧ v5 = .int .i64 i ∧ i ≤ l.length ∧ l.length - i ≤ gg ∧ Aside0 (Kd.S kPQ 53 wr w0.heap.size (fun k => P0 k ∨ w.heap.size ≤ k) (.slice A l.length c) (mkP mt (l.take i) a ++ l.drop i)) ∧ Aside0 (Kept w wr P0) ∧ Aside0 (Below w0.heap.size w0 wr))
  case atStart => exact ⟨0, by simp [cnP], rfl, Nat.zero_le _, by omega, HO, HK, HB⟩
  case round =>
    clear HO HB HK
    obtain ⟨i, rfl, rfl, hi, hg, HO, HK, HB⟩ := hrel
    by_cases hlt : i < l.length
    · have HLT := Aside0.mk hlt
      have hltz : (i : Int) < (l.length : Int) := by omega
      have hzz : 0 ≤ (i : Int) := by omega
      have hib : i ≤ 1000000 := by have := HL.out; omega
      have hct := cnP_take hlt
      have hle := cnP_le l (i + 1)
      have hnn := cnP_nn (l.take i)
      have hnd := cnD_nn l[i].f1
      obtain ⟨kk, hkk⟩ : ∃ kk, a + cnP (l.take i) = kk := ⟨_, rfl⟩
      have HKK := Aside0.mk hkk
      rw [hkk]
      obtain ⟨nx, hnx⟩ : ∃ nx, kk + 1 + cnD l[i].f1 = nx := ⟨_, rfl⟩
      have HR := Aside0.mk (show 0 ≤ kk ∧ kk + 1 + cnD l[i].f1 ≤ 4000000000000000000 ∧ a + cnP (l.take (i + 1)) = nx ∧ 0 ≤ cnD l[i].f1 by have := H0.out; have := H1.out; omega)
      have HNX := Aside0.mk hnx
      have HLX := Aside0.mk (HX.out l[i] (List.getElem_mem hlt))
      have hpl : i = (mkP mt (l.take i) a).length := by rw [mkP_len, List.length_take]; omega
      have HPL := Aside0.mk hpl
      rw [List.drop_eq_getElem_cons hlt] at HO
      obtain ⟨go, co', eo, gb, gl, cl, HG⟩ := Kd.S_form HO.out (by simp; omega)
      injection eo with ea en ec
      subst ea
      subst ec
      have GB := Aside0.mk gb
      clear gb gl HG en hct hle hnn hkk hnd hnx
      have hgo : P0 go ∨ w.heap.size ≤ go := (Kd.S_R HO.out).1 go rfl
      have HGO := Aside0.mk hgo
      obtain ⟨⟨cc, hcl, hcc⟩, hfr, p1, p2⟩ := S_field HO.out z53 (i : Int) hzz hltz 0 (by decide) (.int .i64 kk) ⟨kk, l[i].f1⟩ (kPQ_g0 HPL.out)
      obtain ⟨u0, u1, rfl⟩ : ∃ u0 u1, cc = [u0, u1] := (by match cc, hcl with | [a, b], _ => exact ⟨a, b, rfl⟩)
      have hz0 := hcc 0 _ rfl
      have hf0 := hfr 0
      simp only [show kPQ.sz = 2 from rfl, Int.toNat_natCast, Nat.add_zero] at hz0 hf0 p1 p2
      rw [set_mid _ _ _ _ _ HPL.out] at p1
      have P1 := Aside0.mk p1
      have P2 := Aside0.mk p2
      clear hcc hfr p1 p2 hcl hpl hgo
      obtain ⟨XD, hXD⟩ : ∃ X, mkD mt l[i].f1 (kk + 1) = X := ⟨_, rfl⟩
      have HXD := Aside0.mk hXD
      clear hXD
      have hw1 : wrap64 (kk + 1) = kk + 1 := by have := HR.out; exact w64 (by omega) (by omega)
      have hw1b : (IntKind.i64.wrap (kk + 1)) = kk + 1 := (i64_w _).trans hw1
      go_wp2_with (first | ((with_reducible refine gate_store (t := 3) (p := 16) rfl ?_); refine store_event (t := 3) (p := 16) (v := ?vo1) (w1 := (wr.setCell ⟨go, i * 2, none⟩ (.int .i64 kk))) ?hg ?ho ?hn ?hr ?_; (case ho => rfl); (case hg => rfl); (case hn => rfl); (case hr => first | (go_simp; done) | (go_simp; rfl)); intro w4 hw; rw [← hw] at P1 P2; have nb_ := Aside0.mk ((by rw [hw]; exact below_set (HB.out) GB.out : Below w0.heap.size w0 w4)); have nk_ := Aside0.mk (Kept.of_grown P2.out HK.out (fun k hk => by injection hk with hk; subst hk; exact HGO.out)); clear HB HK HO P2 hw; have HB := nb_; have HK := nk_; clear nb_ nk_; obtain ⟨oki, A2, c2, g2, hz1, hok2, hH2⟩ := lend_pieces HPL.out P1.out hltz; have G2 := Aside0.mk g2; have OK2 := Aside0.mk hok2; have HH2 := Aside0.mk hH2; clear g2 hok2 hH2 P1) | ((with_reducible refine gate_callee (f := 32) rfl ?_); refine goesL_ (some 25) rfl rfl Try.func32 (by kernel_rfl) rfl #[.slice A2 l[i].f1.length c2, .int .i64 (kk + 1)] rfl (by (try simp only [List.map_toArray, List.map_cons, List.map_nil]); first | done | rfl) ?_; (refine (markDSp HM.out oki _ l[i].f1 (kk + 1) nx w0 _ (by exact HB.out) (by exact G2.out) (by have := HR.out; omega) HLX.out (by have := HR.out; omega) HNX.out XD HXD.out).mono ?_); rintro e w6 ⟨rfl, hr, hb, hk⟩; refine ⟨_, rfl, ?_⟩; have hS := back_pieces HPL.out HH2.out hr hk (fun k h => .inr (Nat.le_trans HK.out.1 h)); have nk_ := Aside0.mk (Kept.then_ HK.out hk (fun k h => OK2.out k h)); clear HK HB; have HK := nk_; have HB := Aside0.mk hb; have HO := Aside0.mk hS; clear nk_ hb hS hr hk))
      have hR := HR.out
      rw [show (⟨kk, XD⟩ : Pk) :: l.drop (i + 1) = [⟨kk, XD⟩] ++ l.drop (i + 1) from rfl, ← List.append_assoc] at HO
      have hmk : mkP mt (l.take i) a ++ [⟨kk, XD⟩] = mkP mt (l.take (i + 1)) a := by
        rw [← List.take_append_getElem HLT.out, mkP_apps, HKK.out, ← HXD.out]; rfl
      rw [hmk] at HO
      clear hmk hw1 hw1b
      go_roundg (l.length - (i + 1))
      case measure => have := HLT.out; omega
      case rel => exact ⟨i + 1, by rw [hR.2.2.1], by go_num, HLT.out, by omega, HO, HK, HB⟩
    · obtain rfl : i = l.length := by omega
      have hltz : ¬ (l.length : Int) < (l.length : Int) := by omega
      rw [List.take_length] at HO ⊢
      rw [List.drop_length, List.append_nil] at HO
      go_wp2
      go_ret
      exact ⟨rfl, HO.out, HB.out, HK.out⟩
theorem markPSp {mt : Int → ByteArray} (hm : Mt mt) (P0 : Nat → Prop) (u : Value) (l : List Pk) (a m : Int) (w0 w : World) (hB : Below w0.heap.size w0 w) (ho : Kd.S kPQ 53 w w0.heap.size P0 u l) (h0 : 0 ≤ a) (hl : l.length ≤ 1000000) (hx : ∀ x ∈ l, x.f1.length ≤ 1000000) (h1 : a + cnP l ≤ 4000000000000000000) (he : a + cnP l = m) (X : List Pk) (hX : mkP mt l a = X) :
    Calls Try.prog 58 #[u, .int .i64 a] w fun e w' => e = .returned (.int .i64 m) ∧ Kd.S kPQ 53 w' w0.heap.size (fun k => P0 k ∨ w.heap.size ≤ k) u X ∧ Below w0.heap.size w0 w' ∧ Kept w w' P0 := by
  subst he
  subst hX
  exact markPS_calls hm P0 u l a w0 w hB ho h0 hl hx h1
end Go.Proofs.Ytfnhjaiioojbkaa.Q
end
section
namespace Go.Proofs.Ytfnhjaiioojbkaa.Q
open Go.RowKit Go.Proofs.YtfnhjaiioojbkaaW.PrintWords Go.Proofs.YtfnhjaiioojbkaaW.PrintLast Go.Proofs.YtfnhjaiioojbkaaW.PrintMore
attribute [local go_sem] max2_int min2_int max_two min_two max_three min_three max_four min_four   -- for this text's walks alone
set_option linter.unusedVariables false
set_option linter.unusedSimpArgs false
def laws_eqStringSS.l0 : Nat → List (List ByteArray) → List (List ByteArray) → Int → Option (Bool)
 | 0, _, _, _ => none
 | k + 1, x0, x1, x5 => if x5 < (x0.length : Int) then (if 0 ≤ x5 then (if x5 < (x1.length : Int) then ((laws_eqStringS.f k (rd_L2 x0 x5) (rd_L2 x1 x5)).bind fun t1083 => (if t1083 = true then (laws_eqStringSS.l0 k x0 x1 (wrap64 (x5 + 1))) else (some false))) else (none)) else (none)) else (some true)
def laws_eqStringSS.f (k : Nat) (l0 : List (List ByteArray)) (l1 : List (List ByteArray)) : Option (Bool) := if (l0.length : Int) = (l1.length : Int) then (laws_eqStringSS.l0 k l0 l1 0) else (some false)
set_option maxHeartbeats 8000000 in
set_option maxRecDepth 100000 in
theorem laws_eqStringSS.calls (k : Nat) (A0 : Option Addr) (c0 : Nat) (l0 : List (List ByteArray)) (A1 : Option Addr) (c1 : Nat) (l1 : List (List ByteArray)) (r : Bool) (w : World) (hr0 : Kd.C (Kd.slice 9 Kd.string) w A0 l0.length l0) (hc0 : l0.length ≤ c0) (hr1 : Kd.C (Kd.slice 9 Kd.string) w A1 l1.length l1) (hc1 : l1.length ≤ c1) (h : laws_eqStringSS.f k l0 l1 = some r) :
 Calls Try.prog 100 #[.slice A0 l0.length c0, .slice A1 l1.length c1] w fun e w' => e = .returned (.bool r) ∧ Drawn0 w w' := by
 have HR0 := Aside0.mk hr0; have HC0 := Aside0.mk hc0; clear hr0 hc0; have HR1 := Aside0.mk hr1; have HC1 := Aside0.mk hc1; clear hr1 hc1; have H : (if (l0.length : Int) = (l1.length : Int) then (laws_eqStringSS.l0 k l0 l1 0) else (some false)) = some r := h; clear h; by_cases c3 : (l0.length : Int) = (l1.length : Int)
 ·rw [if_pos c3] at H; have c3b0 : ((l0.length : Int) == (l1.length : Int)) = true := beq_iff_eq.mpr c3; have c3b1 : ((l0.length : Int) != (l1.length : Int)) = false := bne_eq_false_iff_eq.mpr c3; (have c3b2 : (l0.length == l1.length) = true := by first | simpa using c3 | (simp at c3 ⊢; omega)); clear c3; have H' := Aside0.mk H; clear H; go_enter Try.func100, Try.ntmps100; go_wp2; (repeat (go_quiet (fail); try go_wp2)); go_loopg [5] k (fun kq v5 w' => ∃ (x5_1 : Int), v5 = .int .i64 x5_1 ∧ Aside0 (laws_eqStringSS.l0 kq l0 l1 x5_1 = some r) ∧ Aside0 (kq ≤ k) ∧ Drawn0 w w')
  case atStart => exact ⟨(0), (by first | rfl | (simp; done) | (simp [*]; done)), H', ⟨Nat.le_refl _⟩, by repeat (first | exact Drawn0.refl _ | apply Drawn0.step)⟩
  case round =>
   clear H'; (try clear c1); (try clear p2); (try clear c3); (try clear c3b0); (try clear c3b1); (try clear c3b2); obtain ⟨x5_1, rfl, HA, HK1, ⟨m1, rfl⟩⟩ := hrel
   cases gk with
   | zero => exact absurd HA.out (by simp [laws_eqStringSS.l0])
   | succ k1 =>
    have H := HA.out; clear HA; simp only [laws_eqStringSS.l0] at H; by_cases c4 : x5_1 < (l0.length : Int)
    ·rw [if_pos c4] at H; have c4b0 : decide (x5_1 < (l0.length : Int)) = true := decide_eq_true c4; clear c4; by_cases c5 : 0 ≤ x5_1
     ·rw [if_pos c5] at H; have c5b0 : decide (0 ≤ x5_1) = true := decide_eq_true c5; clear c5; by_cases c6 : x5_1 < (l1.length : Int)
      ·rw [if_pos c6] at H; have c6b0 : decide (x5_1 < (l1.length : Int)) = true := decide_eq_true c6; clear c6; replace H := Option.bind_eq_some_iff.mp H; obtain ⟨t1083, A70, H⟩ := H; replace H : (if t1083 = true then (laws_eqStringSS.l0 k1 l0 l1 (wrap64 (x5_1 + 1))) else (some false)) = some r := H; have A7 := Aside0.mk A70; clear A70; by_cases c8 : t1083 = true
       ·subst c8; (have H1 : (laws_eqStringSS.l0 k1 l0 l1 (wrap64 (x5_1 + 1))) = some r := by rw [if_pos rfl] at H; exact H); clear H; have H := H1; clear H1; have H' := Aside0.mk H; clear H; have p1081 : 0 ≤ (x5_1 : Int) := of_decide_eq_true (by assumption); have q1081 : x5_1 < (l0.length : Int) := of_decide_eq_true (by assumption); obtain ⟨ad1081, A1081_0, c1081_0, e1081, hx1081_0, hl1081_0, hi1081_0⟩ := at_L2 HR0.out x5_1 p1081 q1081; cases e1081; have HR1081_0 := Aside0.mk hi1081_0; have HC1081_0 := Aside0.mk hl1081_0; clear hi1081_0 hl1081_0; replace p1081 := eq_true p1081; replace q1081 := eq_true q1081; have p1082 : 0 ≤ (x5_1 : Int) := of_decide_eq_true (by assumption); have q1082 : x5_1 < (l1.length : Int) := of_decide_eq_true (by assumption); obtain ⟨ad1082, A1082_0, c1082_0, e1082, hx1082_0, hl1082_0, hi1082_0⟩ := at_L2 HR1.out x5_1 p1082 q1082; cases e1082; have HR1082_0 := Aside0.mk hi1082_0; have HC1082_0 := Aside0.mk hl1082_0; clear hi1082_0 hl1082_0; replace p1082 := eq_true p1082; replace q1082 := eq_true q1082; go_wp2_with (first | (go_at_call 36; (with_reducible refine (laws_eqStringS.calls k1 _ _ (rd_L2 l0 x5_1) _ _ (rd_L2 l1 x5_1) true _ ?side1 ?side2 ?side3 ?side4 A7.out).mono ?_); (case side1 => repeat (first | exact HR1081_0.out | (with_reducible refine Kd.C_alloc ?_ _) | (with_reducible refine Kd.C_drewN ?_ _) | (with_reducible refine Kd.C_drew ?_))); (case side2 => exact HC1081_0.out); (case side3 => repeat (first | exact HR1082_0.out | (with_reducible refine Kd.C_alloc ?_ _) | (with_reducible refine Kd.C_drewN ?_ _) | (with_reducible refine Kd.C_drew ?_))); (case side4 => exact HC1082_0.out); rintro e w' ⟨rfl, ⟨nd, rfl⟩⟩; (try first | exact ⟨rfl, _, World.drewN_drewN _ _ _⟩ | exact ⟨rfl, _, Eq.trans (World.drewN_drewN _ _ _) (congrArg (World.drewN _) (Nat.add_assoc _ _ _))⟩))); (repeat (go_quiet (first | (go_at_call 36; (with_reducible refine (laws_eqStringS.calls k1 _ _ (rd_L2 l0 x5_1) _ _ (rd_L2 l1 x5_1) true _ ?side1 ?side2 ?side3 ?side4 A7.out).mono ?_); (case side1 => repeat (first | exact HR1081_0.out | (with_reducible refine Kd.C_alloc ?_ _) | (with_reducible refine Kd.C_drewN ?_ _) | (with_reducible refine Kd.C_drew ?_))); (case side2 => exact HC1081_0.out); (case side3 => repeat (first | exact HR1082_0.out | (with_reducible refine Kd.C_alloc ?_ _) | (with_reducible refine Kd.C_drewN ?_ _) | (with_reducible refine Kd.C_drew ?_))); (case side4 => exact HC1082_0.out); rintro e w' ⟨rfl, ⟨nd, rfl⟩⟩; (try first | exact ⟨rfl, _, World.drewN_drewN _ _ _⟩ | exact ⟨rfl, _, Eq.trans (World.drewN_drewN _ _ _) (congrArg (World.drewN _) (Nat.add_assoc _ _ _))⟩))); try go_wp2_with (first | (go_at_call 36; (with_reducible refine (laws_eqStringS.calls k1 _ _ (rd_L2 l0 x5_1) _ _ (rd_L2 l1 x5_1) true _ ?side1 ?side2 ?side3 ?side4 A7.out).mono ?_); (case side1 => repeat (first | exact HR1081_0.out | (with_reducible refine Kd.C_alloc ?_ _) | (with_reducible refine Kd.C_drewN ?_ _) | (with_reducible refine Kd.C_drew ?_))); (case side2 => exact HC1081_0.out); (case side3 => repeat (first | exact HR1082_0.out | (with_reducible refine Kd.C_alloc ?_ _) | (with_reducible refine Kd.C_drewN ?_ _) | (with_reducible refine Kd.C_drew ?_))); (case side4 => exact HC1082_0.out); rintro e w' ⟨rfl, ⟨nd, rfl⟩⟩; (try first | exact ⟨rfl, _, World.drewN_drewN _ _ _⟩ | exact ⟨rfl, _, Eq.trans (World.drewN_drewN _ _ _) (congrArg (World.drewN _) (Nat.add_assoc _ _ _))⟩)))))
        go_roundg k1
        case measure => have := HK1.out; omega
        case rel => exact ⟨(wrap64 (x5_1 + 1)), (by first | rfl | (simp; done) | (simp [*]; done)), H', ⟨by have := HK1.out; omega⟩, by repeat (first | exact Drawn0.refl _ | apply Drawn0.step)⟩
       ·replace c8 := Bool.eq_false_iff.mpr c8; subst c8; (have H1 : (some false) = some r := by rw [if_neg (show ¬ (false = true) by decide)] at H; exact H); clear H; have H := H1; clear H1; obtain rfl := Option.some.inj H; have p1081 : 0 ≤ (x5_1 : Int) := of_decide_eq_true (by assumption); have q1081 : x5_1 < (l0.length : Int) := of_decide_eq_true (by assumption); obtain ⟨ad1081, A1081_0, c1081_0, e1081, hx1081_0, hl1081_0, hi1081_0⟩ := at_L2 HR0.out x5_1 p1081 q1081; cases e1081; have HR1081_0 := Aside0.mk hi1081_0; have HC1081_0 := Aside0.mk hl1081_0; clear hi1081_0 hl1081_0; replace p1081 := eq_true p1081; replace q1081 := eq_true q1081; have p1082 : 0 ≤ (x5_1 : Int) := of_decide_eq_true (by assumption); have q1082 : x5_1 < (l1.length : Int) := of_decide_eq_true (by assumption); obtain ⟨ad1082, A1082_0, c1082_0, e1082, hx1082_0, hl1082_0, hi1082_0⟩ := at_L2 HR1.out x5_1 p1082 q1082; cases e1082; have HR1082_0 := Aside0.mk hi1082_0; have HC1082_0 := Aside0.mk hl1082_0; clear hi1082_0 hl1082_0; replace p1082 := eq_true p1082; replace q1082 := eq_true q1082; go_wp2_with (first | (go_at_call 36; (with_reducible refine (laws_eqStringS.calls k1 _ _ (rd_L2 l0 x5_1) _ _ (rd_L2 l1 x5_1) false _ ?side1 ?side2 ?side3 ?side4 A7.out).mono ?_); (case side1 => repeat (first | exact HR1081_0.out | (with_reducible refine Kd.C_alloc ?_ _) | (with_reducible refine Kd.C_drewN ?_ _) | (with_reducible refine Kd.C_drew ?_))); (case side2 => exact HC1081_0.out); (case side3 => repeat (first | exact HR1082_0.out | (with_reducible refine Kd.C_alloc ?_ _) | (with_reducible refine Kd.C_drewN ?_ _) | (with_reducible refine Kd.C_drew ?_))); (case side4 => exact HC1082_0.out); rintro e w' ⟨rfl, ⟨nd, rfl⟩⟩; (try first | exact ⟨rfl, _, World.drewN_drewN _ _ _⟩ | exact ⟨rfl, _, Eq.trans (World.drewN_drewN _ _ _) (congrArg (World.drewN _) (Nat.add_assoc _ _ _))⟩))); (repeat (go_quiet (first | (go_at_call 36; (with_reducible refine (laws_eqStringS.calls k1 _ _ (rd_L2 l0 x5_1) _ _ (rd_L2 l1 x5_1) false _ ?side1 ?side2 ?side3 ?side4 A7.out).mono ?_); (case side1 => repeat (first | exact HR1081_0.out | (with_reducible refine Kd.C_alloc ?_ _) | (with_reducible refine Kd.C_drewN ?_ _) | (with_reducible refine Kd.C_drew ?_))); (case side2 => exact HC1081_0.out); (case side3 => repeat (first | exact HR1082_0.out | (with_reducible refine Kd.C_alloc ?_ _) | (with_reducible refine Kd.C_drewN ?_ _) | (with_reducible refine Kd.C_drew ?_))); (case side4 => exact HC1082_0.out); rintro e w' ⟨rfl, ⟨nd, rfl⟩⟩; (try first | exact ⟨rfl, _, World.drewN_drewN _ _ _⟩ | exact ⟨rfl, _, Eq.trans (World.drewN_drewN _ _ _) (congrArg (World.drewN _) (Nat.add_assoc _ _ _))⟩))); try go_wp2_with (first | (go_at_call 36; (with_reducible refine (laws_eqStringS.calls k1 _ _ (rd_L2 l0 x5_1) _ _ (rd_L2 l1 x5_1) false _ ?side1 ?side2 ?side3 ?side4 A7.out).mono ?_); (case side1 => repeat (first | exact HR1081_0.out | (with_reducible refine Kd.C_alloc ?_ _) | (with_reducible refine Kd.C_drewN ?_ _) | (with_reducible refine Kd.C_drew ?_))); (case side2 => exact HC1081_0.out); (case side3 => repeat (first | exact HR1082_0.out | (with_reducible refine Kd.C_alloc ?_ _) | (with_reducible refine Kd.C_drewN ?_ _) | (with_reducible refine Kd.C_drew ?_))); (case side4 => exact HC1082_0.out); rintro e w' ⟨rfl, ⟨nd, rfl⟩⟩; (try first | exact ⟨rfl, _, World.drewN_drewN _ _ _⟩ | exact ⟨rfl, _, Eq.trans (World.drewN_drewN _ _ _) (congrArg (World.drewN _) (Nat.add_assoc _ _ _))⟩)))))
        go_ret; exact ⟨by first | rfl | (simp; done) | (simp [*]; done), by repeat (first | exact Drawn0.refl _ | apply Drawn0.step)⟩
      ·rw [if_neg c6] at H; exact absurd H (by simp)
     ·rw [if_neg c5] at H; exact absurd H (by simp)
    ·rw [if_neg c4] at H; have c4b0 : decide (x5_1 < (l0.length : Int)) = false := decide_eq_false c4; clear c4; obtain rfl := Option.some.inj H; go_wp2; (repeat (go_quiet (fail); try go_wp2)); go_ret; exact ⟨by first | rfl | (simp; done) | (simp [*]; done), by repeat (first | exact Drawn0.refl _ | apply Drawn0.step)⟩
 ·rw [if_neg c3] at H; have c3b0 : ((l0.length : Int) == (l1.length : Int)) = false := beq_eq_false_iff_ne.mpr c3; have c3b1 : ((l0.length : Int) != (l1.length : Int)) = true := bne_iff_ne.mpr c3; (have c3b2 : (l0.length == l1.length) = false := by first | simpa using c3 | (simp at c3 ⊢; omega)); obtain rfl := Option.some.inj H; go_enter Try.func100, Try.ntmps100; go_wp2; (repeat (go_quiet (fail); try go_wp2)); go_ret; exact ⟨by first | rfl | (simp; done) | (simp [*]; done), by repeat (first | exact Drawn0.refl _ | apply Drawn0.step)⟩
end Go.Proofs.Ytfnhjaiioojbkaa.Q
end
section
namespace Go.Proofs.Ytfnhjaiioojbkaa.Q
open Go.RowKit Go.Proofs.YtfnhjaiioojbkaaW.PrintWords Go.Proofs.YtfnhjaiioojbkaaW.PrintLast Go.Proofs.YtfnhjaiioojbkaaW.PrintMore
attribute [local go_sem] max2_int min2_int max_two min_two max_three min_three max_four min_four   -- for this text's walks alone
set_option linter.unusedVariables false
set_option linter.unusedSimpArgs false
def laws_szStringSS.l0 : Nat → List (List ByteArray) → Int → Int → Option (Int)
 | 0, _, _, _ => none
 | k + 1, x0, x1, x5 => if x5 < (x0.length : Int) then (if 0 ≤ x5 then ((laws_szStringS.f k (rd_L2 x0 x5) x1).bind fun t1064 => (if t1064 < 0 then (some (-1)) else (laws_szStringSS.l0 k x0 t1064 (wrap64 (x5 + 1))))) else (none)) else (some x1)
def laws_szStringSS.f (k : Nat) (l0 : List (List ByteArray)) (a1 : Int) : Option (Int) := if (wrap64 (a1 - (l0.length : Int))) < 0 then (some (-1)) else (laws_szStringSS.l0 k l0 (wrap64 (a1 - (l0.length : Int))) 0)
set_option maxHeartbeats 8000000 in
set_option maxRecDepth 100000 in
theorem laws_szStringSS.calls (k : Nat) (A0 : Option Addr) (c0 : Nat) (l0 : List (List ByteArray)) (a1 : Int) (r : Int) (w : World) (hr0 : Kd.C (Kd.slice 9 Kd.string) w A0 l0.length l0) (hc0 : l0.length ≤ c0) (h : laws_szStringSS.f k l0 a1 = some r) :
 Calls Try.prog 53 #[.slice A0 l0.length c0, .int .i64 a1] w fun e w' => e = .returned (.int .i64 r) ∧ Drawn0 w w' := by
 have HR0 := Aside0.mk hr0; have HC0 := Aside0.mk hc0; clear hr0 hc0; have H : (if (wrap64 (a1 - (l0.length : Int))) < 0 then (some (-1)) else (laws_szStringSS.l0 k l0 (wrap64 (a1 - (l0.length : Int))) 0)) = some r := h; clear h; by_cases c3 : (wrap64 (a1 - (l0.length : Int))) < 0
 ·rw [if_pos c3] at H; have c3b0 : decide ((wrap64 (a1 - (l0.length : Int))) < 0) = true := decide_eq_true c3; clear c3; obtain rfl := Option.some.inj H; go_enter Try.func53, Try.ntmps53; go_wp2; go_ret; exact ⟨by first | rfl | (simp; done) | (simp [*]; done), by repeat (first | exact Drawn0.refl _ | apply Drawn0.step)⟩
 ·rw [if_neg c3] at H; have c3b0 : decide ((wrap64 (a1 - (l0.length : Int))) < 0) = false := decide_eq_false c3; clear c3; have H' := Aside0.mk H; clear H; go_enter Try.func53, Try.ntmps53; go_wp2; go_loopg [1, 5] k (fun kq v1 v5 w' => ∃ (x1_1 : Int) (x5_1 : Int), v1 = .int .i64 x1_1 ∧ v5 = .int .i64 x5_1 ∧ Aside0 (laws_szStringSS.l0 kq l0 x1_1 x5_1 = some r) ∧ Aside0 (kq ≤ k) ∧ Drawn0 w w')
  case atStart => exact ⟨(wrap64 (a1 - (l0.length : Int))), (0), (by first | rfl | (simp; done) | (simp [*]; done)), (by first | rfl | (simp; done) | (simp [*]; done)), H', ⟨Nat.le_refl _⟩, by repeat (first | exact Drawn0.refl _ | apply Drawn0.step)⟩
  case round =>
   clear H'; (try clear p2); (try clear c3); (try clear c3b0); obtain ⟨x1_1, x5_1, rfl, rfl, HA, HK1, ⟨m1, rfl⟩⟩ := hrel
   cases gk with
   | zero => exact absurd HA.out (by simp [laws_szStringSS.l0])
   | succ k1 =>
    have H := HA.out; clear HA; simp only [laws_szStringSS.l0] at H; by_cases c4 : x5_1 < (l0.length : Int)
    ·rw [if_pos c4] at H; have c4b0 : decide (x5_1 < (l0.length : Int)) = true := decide_eq_true c4; clear c4; by_cases c5 : 0 ≤ x5_1
     ·rw [if_pos c5] at H; have c5b0 : decide (0 ≤ x5_1) = true := decide_eq_true c5; clear c5; replace H := Option.bind_eq_some_iff.mp H; obtain ⟨t1064, A60, H⟩ := H; replace H : (if t1064 < 0 then (some (-1)) else (laws_szStringSS.l0 k1 l0 t1064 (wrap64 (x5_1 + 1)))) = some r := H; have A6 := Aside0.mk A60; clear A60; by_cases c7 : t1064 < 0
      ·rw [if_pos c7] at H; have c7b0 : decide (t1064 < 0) = true := decide_eq_true c7; clear c7; obtain rfl := Option.some.inj H; have p1063 : 0 ≤ (x5_1 : Int) := of_decide_eq_true (by assumption); have q1063 : x5_1 < (l0.length : Int) := of_decide_eq_true (by assumption); obtain ⟨ad1063, A1063_0, c1063_0, e1063, hx1063_0, hl1063_0, hi1063_0⟩ := at_L2 HR0.out x5_1 p1063 q1063; cases e1063; have HR1063_0 := Aside0.mk hi1063_0; have HC1063_0 := Aside0.mk hl1063_0; clear hi1063_0 hl1063_0; replace p1063 := eq_true p1063; replace q1063 := eq_true q1063; go_wp2_with (first | ((with_reducible refine gate_callee (f := 27) rfl ?_); refine goesL_ (some 23) rfl rfl Try.func27 (by kernel_rfl) rfl #[.slice A1063_0 (rd_L2 l0 x5_1).length c1063_0, .int .i64 x1_1] rfl (by (try simp only [List.map_toArray, List.map_cons, List.map_nil]); first | done | rfl | (simp only [List.length_drop, List.length_take]; rfl)) ?_; (with_reducible refine (laws_szStringS.calls k1 _ _ (rd_L2 l0 x5_1) x1_1 t1064 _ ?side1 ?side2 A6.out).mono ?_); (case side1 => repeat (first | exact HR1063_0.out | (with_reducible refine Kd.C_alloc ?_ _) | (with_reducible refine Kd.C_drewN ?_ _) | (with_reducible refine Kd.C_drew ?_))); (case side2 => exact HC1063_0.out); rintro e w' ⟨rfl, ⟨nd, rfl⟩⟩; refine ⟨_, rfl, ?_⟩)); go_ret; exact ⟨by first | rfl | (simp; done) | (simp [*]; done), by repeat (first | exact Drawn0.refl _ | apply Drawn0.step)⟩
      ·rw [if_neg c7] at H; have c7b0 : decide (t1064 < 0) = false := decide_eq_false c7; clear c7; have H' := Aside0.mk H; clear H; have p1063 : 0 ≤ (x5_1 : Int) := of_decide_eq_true (by assumption); have q1063 : x5_1 < (l0.length : Int) := of_decide_eq_true (by assumption); obtain ⟨ad1063, A1063_0, c1063_0, e1063, hx1063_0, hl1063_0, hi1063_0⟩ := at_L2 HR0.out x5_1 p1063 q1063; cases e1063; have HR1063_0 := Aside0.mk hi1063_0; have HC1063_0 := Aside0.mk hl1063_0; clear hi1063_0 hl1063_0; replace p1063 := eq_true p1063; replace q1063 := eq_true q1063; go_wp2_with (first | ((with_reducible refine gate_callee (f := 27) rfl ?_); refine goesL_ (some 23) rfl rfl Try.func27 (by kernel_rfl) rfl #[.slice A1063_0 (rd_L2 l0 x5_1).length c1063_0, .int .i64 x1_1] rfl (by (try simp only [List.map_toArray, List.map_cons, List.map_nil]); first | done | rfl | (simp only [List.length_drop, List.length_take]; rfl)) ?_; (with_reducible refine (laws_szStringS.calls k1 _ _ (rd_L2 l0 x5_1) x1_1 t1064 _ ?side1 ?side2 A6.out).mono ?_); (case side1 => repeat (first | exact HR1063_0.out | (with_reducible refine Kd.C_alloc ?_ _) | (with_reducible refine Kd.C_drewN ?_ _) | (with_reducible refine Kd.C_drew ?_))); (case side2 => exact HC1063_0.out); rintro e w' ⟨rfl, ⟨nd, rfl⟩⟩; refine ⟨_, rfl, ?_⟩)); go_roundg k1
       case measure => have := HK1.out; omega
       case rel => exact ⟨(t1064), (wrap64 (x5_1 + 1)), (by first | rfl | (simp; done) | (simp [*]; done)), (by first | rfl | (simp; done) | (simp [*]; done)), H', ⟨by have := HK1.out; omega⟩, by repeat (first | exact Drawn0.refl _ | apply Drawn0.step)⟩
     ·rw [if_neg c5] at H; exact absurd H (by simp)
    ·rw [if_neg c4] at H; have c4b0 : decide (x5_1 < (l0.length : Int)) = false := decide_eq_false c4; clear c4; obtain rfl := Option.some.inj H; go_wp2; go_ret; exact ⟨by first | rfl | (simp; done) | (simp [*]; done), by repeat (first | exact Drawn0.refl _ | apply Drawn0.step)⟩
end Go.Proofs.Ytfnhjaiioojbkaa.Q
end
section
namespace Go.Proofs.Ytfnhjaiioojbkaa.Q
open Go.RowKit Go.Proofs.YtfnhjaiioojbkaaW.PrintWords Go.Proofs.YtfnhjaiioojbkaaW.PrintLast Go.Proofs.YtfnhjaiioojbkaaW.PrintMore
attribute [local go_sem] max2_int min2_int max_two min_two max_three min_three max_four min_four
set_option linter.unusedVariables false
set_option linter.unusedSimpArgs false
abbrev TF := List ByteArray × Nat
def plS (x : TF) : Tx := x.1.take x.2
theorem C_plS {w : World} {A : Option Addr} {xs : List TF} (h : Kd.C kSS w A xs.length xs) : Kd.C (Kd.slice 9 Kd.string) w A (xs.map plS).length (xs.map plS) := by
  rw [List.length_map]
  exact C_map (d := kSS) (d' := Kd.slice 9 Kd.string) (f := plS) rfl (fun _ _ _ h => fsl_plain h) h rfl
theorem plS_M {w : World} {base : Nat} {ok : Nat → Prop} {x : TF} {cs : List Value} (h : kSS.M w base ok x cs) : (Kd.slice 9 Kd.string).M w base ok (plS x) cs := by
  obtain ⟨A, c, rfl, hn, hr⟩ := h
  exact ⟨_, rfl, Kd.R_take hr hn⟩
def rd_SS (xs : List TF) (i : Int) : TF := xs.getD i.toNat zSS
theorem at_SS {w : World} {A : Option Addr} {n : Nat} {xs : List TF} (h : Kd.C kSS w A n xs) (i : Int) (h0 : 0 ≤ i) (h1 : i < n) : ∃ ad A2 c2, A = some ad ∧ w.cell? (ad.add i.toNat) = some (.slice A2 (rd_SS xs i).2 c2) ∧ (rd_SS xs i).1.length ≤ c2 ∧ Kd.C Kd.string w A2 (rd_SS xs i).1.length (rd_SS xs i).1 := by
  obtain ⟨ad, c, e, _, hK, hc0⟩ := Kd.C_get h zSS i h0 h1
  have hc : ∀ j u, c[j]? = some u → w.cell? (ad.add (i.toNat * 1 + j)) = some u := hc0
  obtain ⟨A2, c2, rfl, _, l2, g2⟩ := hK
  have := hc 0 _ rfl
  rw [Nat.mul_one, Nat.add_zero] at this
  exact ⟨ad, A2, c2, e, this, l2, g2⟩
set_option maxHeartbeats 2000000 in
set_option maxRecDepth 100000 in
theorem intSS_calls (A0 A1 : Option Addr) (c0 c1 : Nat) (F : List TF) (n : Nat) (w : World) (hr0 : Kd.C kSS w A0 F.length F) (hc0 : F.length ≤ c0) (hr1 : Kd.C kSS w A1 F.length F) (hc1 : F.length ≤ c1) (hN : FulN F.length n)
    (hE : ∀ i : Nat, i < n → FulN (rd_SS F i).1.length (rd_SS F i).2) (hQ : ∃ K, laws_eqStringSS.f K ((F.drop n).map plS) ((F.drop n).map plS) = some true) :
    Calls Try.prog 56 #[.slice A0 n c0, .slice A1 n c1] w fun e w' => e = .returned (.bool true) ∧ Drawn0 w w' := by
  obtain ⟨KQ, hK⟩ := hQ
  obtain ⟨Y, hY⟩ : ∃ Y, (F.drop n).map plS = Y := ⟨_, rfl⟩
  rw [hY] at hK
  have HQ := Aside0.mk hK
  have HYe := Aside0.mk hY
  have HR0 := Aside0.mk hr0
  have HC0 := Aside0.mk hc0
  have HR1 := Aside0.mk hr1
  have HC1 := Aside0.mk hc1
  have HE := Aside0.mk hE
  have HNl := Aside0.mk (show n ≤ F.length by have := hN.1; omega)
  have HNb := Aside0.mk hN.2
  have hw : wrap64 ((n : Int) + (room n : Int)) = (F.length : Int) := by have := hN.1; have := hN.2; have := room_le n; unfold wrap64; omega
  have hw2 : (IntKind.i64.wrap ((n : Int) + (room n : Int))) = (F.length : Int) := (i64_w _).trans hw
  have R9 := Aside0.mk (room_ev n)
  have e0 : ((n : Int) == (n : Int)) = true := by simp
  have e1 : ((n : Int) != (n : Int)) = false := by simp
  clear hK hY hr0 hc0 hr1 hc1 hN hE
  go_enter Try.func56, Try.ntmps56
  go_wp2_with (first | (go_at_call 62; (with_reducible refine (laws_roomBehind.calls (n : Int) _ _ R9.out).mono ?_); rintro e w' ⟨rfl, ⟨nd, rfl⟩⟩))
  have HD := Aside0.mk (Drawn0.mk ⟨nd, rfl⟩ : Drawn0 w (w.drewN nd))
  clear hw hw2 e0 e1 R9
  go_loopg [6] n (fun gg v6 wr => ∃ i : Nat, v6 = .int .i64 i ∧ i ≤ n ∧ n - i ≤ gg ∧ Aside0 (Drawn0 w wr))
  case atStart => exact ⟨0, rfl, Nat.zero_le _, by omega, HD⟩
  case round =>
    clear HD
    obtain ⟨i, rfl, hi, hg, HD⟩ := hrel
    by_cases hlt : i < n
    · have HLT := Aside0.mk hlt
      have hib : i ≤ 1000000 := by have := HNb.out; omega
      have hltz : (i : Int) < (n : Int) := by omega
      have hdec : decide ((i : Int) < (n : Int)) = true := decide_eq_true hltz
      have hnl := HNl.out
      obtain ⟨ad0, A2, c2, rfl, x0, hl2, g2⟩ := at_SS (Kd.C_below HR0.out HD.out.below) (i : Int) (by omega) (by omega)
      obtain ⟨ad1, B2, d2, rfl, y0, hm2, k2⟩ := at_SS (Kd.C_below HR1.out HD.out.below) (i : Int) (by omega) (by omega)
      simp only [Int.toNat_natCast] at x0 y0
      have XC := Aside0.mk g2
      have YC := Aside0.mk k2
      have XL := Aside0.mk hl2
      have YL := Aside0.mk hm2
      have HEi := Aside0.mk (HE.out i hlt)
      clear g2 k2 hl2 hm2 hnl
      go_wp2
      go_quiet ((go_at_call 30; exact quietD (fun W hW => intS_calls _ _ _ _ (rd_SS F i).1 (rd_SS F i).2 W (Kd.C_below XC.out hW.below) XL.out (Kd.C_below YC.out hW.below) YL.out HEi.out)))
      have HD2 := Aside0.mk (HD.out.step nq)
      clear HD
      go_wp2
      go_roundg (n - (i + 1))
      case measure => have := HLT.out; omega
      case rel => exact ⟨i + 1, by go_num, HLT.out, by omega, HD2⟩
    · obtain rfl : i = n := by omega
      have hltz : ¬ (i : Int) < (i : Int) := by omega
      have hdec : decide ((i : Int) < (i : Int)) = false := decide_eq_false hltz
      have nl := HNl.out
      obtain ⟨i0, hi0, _, hsz, _⟩ := info_parts info30
      have hcut0 := up_mid (P := Try.prog) 57 30 .i64 .i64 Try.underlying57 hi0 1 hsz A0 i c0 (i : Int) (F.length : Int) (by omega) (by omega) (by have := HC0.out; omega)
      have hcut1 := up_mid (P := Try.prog) 57 30 .i64 .i64 Try.underlying57 hi0 1 hsz A1 i c1 (i : Int) (F.length : Int) (by omega) (by omega) (by have := HC1.out; omega)
      simp only [Int.toNat_natCast] at hcut0 hcut1
      have hYl : Y.length = F.length - i := by rw [← HYe.out]; simp
      obtain ⟨AY0, hA0⟩ : ∃ A, A = (if c0 = i then A0 else A0.map (·.add (i * 1))) := ⟨_, rfl⟩
      obtain ⟨AY1, hA1⟩ : ∃ A, A = (if c1 = i then A1 else A1.map (·.add (i * 1))) := ⟨_, rfl⟩
      obtain ⟨CY0, hC0⟩ : ∃ c, c = c0 - i := ⟨_, rfl⟩
      obtain ⟨CY1, hC1⟩ : ∃ c, c = c1 - i := ⟨_, rfl⟩
      have HY0 : Aside0 (Kd.C (Kd.slice 9 Kd.string) w AY0 Y.length Y) := ⟨by rw [hA0, ← HYe.out]; exact C_plS (Kd.C_drop HR0.out nl HC0.out)⟩
      have HY1 : Aside0 (Kd.C (Kd.slice 9 Kd.string) w AY1 Y.length Y) := ⟨by rw [hA1, ← HYe.out]; exact C_plS (Kd.C_drop HR1.out nl HC1.out)⟩
      have HCY0 : Aside0 (Y.length ≤ CY0) := ⟨by have := HC0.out; omega⟩
      have HCY1 : Aside0 (Y.length ≤ CY1) := ⟨by have := HC1.out; omega⟩
      rw [← hYl, ← hA0, ← hC0] at hcut0
      rw [← hYl, ← hA1, ← hC1] at hcut1
      clear hYl hA0 hA1 hC0 hC1 hi0 hsz nl hg
      go_wp2
      go_quiet ((go_at_call 100; exact quietD (fun W hW => laws_eqStringSS.calls KQ _ _ Y _ _ Y true W (Kd.C_below HY0.out (below_step HD.out.below hW.below)) HCY0.out (Kd.C_below HY1.out (below_step HD.out.below hW.below)) HCY1.out HQ.out)))
      have HD2 := Aside0.mk (HD.out.step nq)
      clear HD
      go_wp2
      go_ret
      exact ⟨rfl, HD2.out⟩
end Go.Proofs.Ytfnhjaiioojbkaa.Q
end
section
namespace Go.Proofs.Ytfnhjaiioojbkaa.Q
open Go.RowKit Go.Proofs.YtfnhjaiioojbkaaW.PrintWords Go.Proofs.YtfnhjaiioojbkaaW.PrintLast Go.Proofs.YtfnhjaiioojbkaaW.PrintMore
attribute [local go_sem] max2_int min2_int max_two min_two max_three min_three max_four min_four
set_option linter.unusedVariables false
set_option linter.unusedSimpArgs false
abbrev kTT : Kd (List ByteArray) := Kd.slice 9 Kd.string
def cnSS : List Tx → Int
  | [] => 0
  | x :: t => x.length + cnSS t
def mkSS (mt : Int → ByteArray) : List Tx → Int → List Tx
  | [], _ => []
  | x :: t, a => mkS mt x a :: mkSS mt t (a + x.length)
theorem cnSS_nn : ∀ l, 0 ≤ cnSS l
  | [] => by simp [cnSS]
  | x :: t => by have := cnSS_nn t; simp only [cnSS]; omega
theorem cnSS_apps : ∀ (l m : List Tx), cnSS (l ++ m) = cnSS l + cnSS m
  | [], m => by simp [cnSS]
  | y :: t, m => by rw [List.cons_append, cnSS, cnSS_apps t m, cnSS]; omega
theorem mkSS_apps (mt : Int → ByteArray) : ∀ (l r : List Tx) (a : Int), mkSS mt (l ++ r) a = mkSS mt l a ++ mkSS mt r (a + cnSS l)
  | [], r, a => by simp [mkSS, cnSS]
  | x :: t, r, a => by rw [List.cons_append, mkSS, mkSS_apps mt t r, mkSS, cnSS, List.cons_append, show a + (x.length : Int) + cnSS t = a + (x.length + cnSS t) by omega]
theorem mkSS_len (mt : Int → ByteArray) : ∀ (l : List Tx) (a : Int), (mkSS mt l a).length = l.length
  | [], a => rfl
  | x :: t, a => by simp [mkSS, mkSS_len mt t]
theorem cnSS_take {l : List Tx} {i : Nat} (h : i < l.length) : cnSS (l.take (i + 1)) = cnSS (l.take i) + l[i].length := by
  rw [← List.take_append_getElem h, cnSS_apps]; simp [cnSS]
theorem cnSS_le (l : List Tx) (i : Nat) : cnSS (l.take i) ≤ cnSS l := by
  have h : cnSS l = cnSS (l.take i) + cnSS (l.drop i) := by rw [← cnSS_apps, List.take_append_drop]
  have := cnSS_nn (l.drop i)
  omega
theorem lend_text {W : World} {base : Nat} {ok : Nat → Prop} {g n cap : Nat} {p q : List Tx} {x : Tx} {i : Nat} (hp : i = p.length) (h : Kd.S kTT 30 W base ok (.slice (some ⟨g, 0, none⟩) n cap) (p ++ x :: q)) (hi : (i : Int) < (n : Int)) :
    ∃ (oki : Nat → Prop) (A : Option Addr) (c : Nat), Kd.R Kd.string 9 W base oki (.slice A x.length c) x ∧ W.cell? ⟨g, i, none⟩ = some (.slice A x.length c) ∧ (∀ k, oki k → ok k) ∧
      Kd.H kTT 30 W base ok (.slice (some ⟨g, 0, none⟩) n cap) (p ++ x :: q) (i : Int) oki [.slice A x.length c] := by
  obtain ⟨oki, c, hcl, hM, hcc, hoki, hH⟩ := Kd.S_lend h [] (i : Int) (by omega) hi
  rw [Int.toNat_natCast, get_mid _ _ _ _ _ hp] at hM
  obtain ⟨v, rfl, g2⟩ := hM
  obtain ⟨A, c2, rfl⟩ := Kd.R_slice g2
  have h0 := hcc 0 _ rfl
  have e : (i : Int).toNat * kTT.sz + 0 = i := by rw [Int.toNat_natCast]; show i * 1 + 0 = i; omega
  rw [e] at h0
  exact ⟨oki, A, c2, g2, h0, fun k hk => (hoki k hk).1, hH⟩
theorem back_text {W w1 : World} {base : Nat} {ok oki : Nat → Prop} {g n cap c : Nat} {A : Option Addr} {p q : List Tx} {x : Tx} {i : Nat} {m : Nat} {l : Tx} (hp : i = p.length) (hH : Kd.H kTT 30 W base ok (.slice (some ⟨g, 0, none⟩) n cap) (p ++ x :: q) (i : Int) oki [.slice A m c])
    (hr : Kd.R Kd.string 9 w1 base (fun k => oki k ∨ W.heap.size ≤ k) (.slice A m c) l) (hk : Kept W w1 oki) (hok : ∀ k, W.heap.size ≤ k → ok k) :
    Kd.S kTT 30 w1 base ok (.slice (some ⟨g, 0, none⟩) n cap) (p ++ l :: q) := by
  have h2 := Kd.H_step (Kd.H_widen hH) (w1 := w1) (fun k _ hn hlt => hk.2 k hlt (fun h => hn (.inl h)))
  have h3 := Kd.H_back h2 (x' := l) (show kTT.M w1 base _ l _ from ⟨_, rfl, hr⟩) (fun k hk => hk.elim .inl (fun h => .inr ⟨hok k h, h⟩))
  rw [Int.toNat_natCast, set_mid _ _ _ _ _ hp] at h3
  exact h3
set_option maxHeartbeats 4000000 in
set_option maxRecDepth 100000 in
theorem markSS_calls {mt : Int → ByteArray} (hm : Mt mt) (P0 : Nat → Prop) (u : Value) (l : List Tx) (a : Int) (w0 w : World) (hB : Below w0.heap.size w0 w) (ho : Kd.S kTT 30 w w0.heap.size P0 u l) (h0 : 0 ≤ a) (hl : l.length ≤ 1000000) (h1 : a + cnSS l ≤ 4000000000000000000) :
    Calls Try.prog 57 #[u, .int .i64 a] w fun e w' => e = .returned (.int .i64 (a + cnSS l)) ∧ Kd.S kTT 30 w' w0.heap.size (fun k => P0 k ∨ w.heap.size ≤ k) u (mkSS mt l a) ∧ Below w0.heap.size w0 w' ∧ Kept w w' P0 := by
  obtain ⟨A, c, rfl⟩ := Kd.S_slice ho
  have HO := Aside0.mk (Kd.S_mono (ok' := fun k => P0 k ∨ w.heap.size ≤ k) ho (fun k hk => .inl hk))
  have HB := Aside0.mk hB
  have HK := Aside0.mk (Kept.refl w P0)
  have HM := Aside0.mk hm
  have H0 := Aside0.mk h0
  have H1 := Aside0.mk h1
  have HL := Aside0.mk hl
  clear ho hB hm h0 h1 hl
  go_enter Try.func57, Try.ntmps57
  go_wp2
  go_loopg [1, 5] l.length (fun gg v1 v5 wr => ∃ i : Nat, v1 = .int .i64 (a + cnSS (l.take i)) ∧ v5 = .int .i64 i ∧ i ≤ l.length ∧ l.length - i ≤ gg ∧ Aside0 (Kd.S kTT 30 wr w0.heap.size (fun k => P0 k ∨ w.heap.size ≤ k) (.slice A l.length c) (mkSS mt (l.take i) a ++ l.drop i)) ∧ Aside0 (Kept w wr P0) ∧ Aside0 (Below w0.heap.size w0 wr))
  case atStart => exact ⟨0, by simp [cnSS], rfl, Nat.zero_le _, by omega, HO, HK, HB⟩
  case round =>
    clear HO HB HK
    obtain ⟨i, rfl, rfl, hi, hg, HO, HK, HB⟩ := hrel
    by_cases hlt : i < l.length
    · have HLT := Aside0.mk hlt
      have hltz : (i : Int) < (l.length : Int) := by omega
      have hzz : 0 ≤ (i : Int) := by omega
      have hib : i ≤ 1000000 := by have := HL.out; omega
      have hct := cnSS_take hlt
      have hle := cnSS_le l (i + 1)
      have hnn := cnSS_nn (l.take i)
      obtain ⟨kk, hkk⟩ : ∃ kk, a + cnSS (l.take i) = kk := ⟨_, rfl⟩
      have HKK := Aside0.mk hkk
      rw [hkk]
      have HR := Aside0.mk (show 0 ≤ kk ∧ kk + l[i].length ≤ 4000000000000000000 ∧ a + cnSS (l.take (i + 1)) = kk + l[i].length by have := H0.out; have := H1.out; omega)
      have HPL := Aside0.mk (show i = (mkSS mt (l.take i) a).length by rw [mkSS_len, List.length_take]; omega)
      rw [List.drop_eq_getElem_cons hlt] at HO
      obtain ⟨go, co', eo, gb, gl, cl, HG⟩ := Kd.S_form HO.out (by simp; omega)
      injection eo with ea en ec
      subst ea
      subst ec
      clear gb gl HG en hct hle hnn hkk
      obtain ⟨km, hkm⟩ := markS_ev HM.out l[i] kk (by have := HR.out; omega) (by have := HR.out; omega)
      have HMS := Aside0.mk (hkm km (Nat.le_refl _))
      clear hkm
      obtain ⟨oki, A2, c2, g2, hz0, hok2, hH2⟩ := lend_text HPL.out HO.out hltz
      have G2 := Aside0.mk g2
      have OK2 := Aside0.mk hok2
      have HH2 := Aside0.mk hH2
      clear g2 hok2 hH2 HO
      go_wp2_with (first | ((with_reducible refine gate_callee (f := 31) rfl ?_); refine goesL_ (some 17) rfl rfl Try.func31 (by kernel_rfl) rfl #[.slice A2 l[i].length c2, .int .i64 kk] rfl (by (try simp only [List.map_toArray, List.map_cons, List.map_nil]); first | done | rfl) ?_; (refine (laws_markStringS.calls km oki _ l[i] kk (kk + l[i].length) (mkS mt l[i] kk) w0 _ (by exact HB.out) (by exact G2.out) HMS.out).mono ?_); rintro e w6 ⟨rfl, hr, hb, hk⟩; refine ⟨_, rfl, ?_⟩; have hS := back_text HPL.out HH2.out hr hk (fun k h => .inr (Nat.le_trans HK.out.1 h)); have nk_ := Aside0.mk (Kept.then_ HK.out hk (fun k h => OK2.out k h)); clear HK HB; have HK := nk_; have HB := Aside0.mk hb; have HO := Aside0.mk hS; clear nk_ hb hS hr hk))
      have hR := HR.out
      rw [show (mkS mt l[i] kk) :: l.drop (i + 1) = [mkS mt l[i] kk] ++ l.drop (i + 1) from rfl, ← List.append_assoc] at HO
      have hmk : mkSS mt (l.take i) a ++ [mkS mt l[i] kk] = mkSS mt (l.take (i + 1)) a := by
        rw [← List.take_append_getElem HLT.out, mkSS_apps, HKK.out]; rfl
      rw [hmk] at HO
      clear hmk
      go_roundg (l.length - (i + 1))
      case measure => have := HLT.out; omega
      case rel => exact ⟨i + 1, by rw [hR.2.2], by go_num, HLT.out, by omega, HO, HK, HB⟩
    · obtain rfl : i = l.length := by omega
      have hltz : ¬ (l.length : Int) < (l.length : Int) := by omega
      rw [List.take_length] at HO ⊢
      rw [List.drop_length, List.append_nil] at HO
      go_wp2
      go_ret
      exact ⟨rfl, HO.out, HB.out, HK.out⟩
theorem markSSp {mt : Int → ByteArray} (hm : Mt mt) (P0 : Nat → Prop) (u : Value) (l : List Tx) (a m : Int) (w0 w : World) (hB : Below w0.heap.size w0 w) (ho : Kd.S kTT 30 w w0.heap.size P0 u l) (h0 : 0 ≤ a) (hl : l.length ≤ 1000000) (h1 : a + cnSS l ≤ 4000000000000000000) (he : a + cnSS l = m) (X : List Tx) (hX : mkSS mt l a = X) :
    Calls Try.prog 57 #[u, .int .i64 a] w fun e w' => e = .returned (.int .i64 m) ∧ Kd.S kTT 30 w' w0.heap.size (fun k => P0 k ∨ w.heap.size ≤ k) u X ∧ Below w0.heap.size w0 w' ∧ Kept w w' P0 := by
  subst he
  subst hX
  exact markSS_calls hm P0 u l a w0 w hB ho h0 hl h1
def SmT (l : List Tx) : Prop := l.length ≤ 1000000 ∧ ∀ x ∈ l, Sm x
def BigT (l : List Tx) : Prop := l.length ≤ 9223372036854775807 ∧ ∀ x ∈ l, Big x
theorem fulSS_len (b : Bool) (l : List Tx) : (fulSS b l).2 = l.length := by
  unfold fulSS
  split
  case isTrue h => rw [h.2]; rfl
  case isFalse h => rfl
theorem fulSS_false (l : List Tx) : fulSS false l = (l.map (fulS false) ++ List.replicate (room l.length) fillSS, l.length) := by
  unfold fulSS
  rw [if_neg (fun h => by cases h.1)]
theorem fulSS_take (b : Bool) (l : List Tx) : ((fulSS b l).1.take (fulSS b l).2).map plS = l := by
  have e : plS ∘ fulS b = id := by funext x; exact fulS_take b x
  unfold fulSS
  split
  case isTrue h => rw [h.2]; rfl
  case isFalse h => simp [e]
theorem toSSm (A0 : Option Addr) (c0 : Nat) (l0 : List Tx) (b : Bool) (w : World) (hr0 : Kd.C kTT w A0 l0.length l0) (hq : SmT l0) :
    Calls Try.prog 54 #[.slice A0 l0.length c0, .bool b] w fun e w' => ∃ A c, e = .returned (.slice A l0.length c) ∧ l0.length ≤ c ∧ Kd.S kTT 30 w' w.heap.size (fun _ => True) (.slice A l0.length c) l0 ∧
      (b = false → Kd.C kSS w' A (fulSS false l0).1.length (fulSS false l0).1 ∧ (fulSS false l0).1.length ≤ c) ∧ Below w.heap.size w w' :=
  (toSS_calls A0 c0 l0 b w hr0 hq.1 (fun x hx => (hq.2 x hx).1)).mono fun e w' ⟨A, c, he, hn, ho, hb⟩ => by
    obtain ⟨_, h1, h2⟩ := Kd.S_reads' ho
    have h3 := S_map (d := kSS) (d' := kTT) (f := plS) rfl (fun _ _ _ hM => plS_M hM) (Kd.S_take ho hn)
    rw [fulSS_take, fulSS_len] at h3
    rw [fulSS_len] at he hn
    exact ⟨A, c, he, by omega, Kd.S_mono h3 (fun _ _ => trivial), fun hb0 => by subst hb0; exact ⟨h2, h1⟩, hb⟩
theorem rdL2 {l : List Tx} {i : Nat} (h : i < l.length) : rd_L2 l (i : Int) = l[i] := by simp [rd_L2, List.getD_eq_getElem?_getD, h]
theorem szT0_ev {l : List Tx} (h : BigT l) (hl : l.length ≤ 1000000) : ∀ (d i : Nat) (a : Int), l.length - i = d → i ≤ l.length → 0 ≤ a → a ≤ 1000000 →
    ∃ r, Ev (fun k => laws_szStringSS.l0 k l a i) r ∧ -1 ≤ r ∧ r ≤ 1000000 ∧ (0 ≤ r → ∀ j (hj : j < l.length), i ≤ j → Sm l[j])
  | 0, i, a, hd, hi, h0, h1 => by
    refine ⟨a, Ev.step' ?_, by omega, h1, fun _ j hj hij => absurd hj (by omega)⟩
    simp only [laws_szStringSS.l0]
    exact Ev.negf (by omega) (Ev.now _)
  | d + 1, i, a, hd, hi, h0, h1 => by
    have hi' : i < l.length := by omega
    obtain ⟨z, hz, z1, z2, z3⟩ := szS_ev (h.2 l[i] (List.getElem_mem hi')) h0 h1
    by_cases c : z < 0
    · refine ⟨-1, Ev.step' ?_, by omega, by omega, fun hr => absurd hr (by omega)⟩
      simp only [laws_szStringSS.l0, rdL2 hi']
      exact Ev.posf (by omega) (Ev.posf (by omega) (Ev.bind hz (Ev.posf c (Ev.now _))))
    · obtain ⟨r, hr, r1, r2, r3⟩ := szT0_ev h hl d (i + 1) z (by omega) (by omega) (by omega) (by omega)
      refine ⟨r, Ev.step' ?_, r1, r2, fun h0r j hj hij => ?_⟩
      · simp only [laws_szStringSS.l0, rdL2 hi', w64_succ i (by omega)]
        exact Ev.posf (by omega) (Ev.posf (by omega) (Ev.bind hz (Ev.negf c hr)))
      · by_cases e : j = i
        · subst e; exact z3 (by omega)
        · exact r3 h0r j hj (by omega)
theorem szT_ev {l : List Tx} (h : BigT l) {a : Int} (h0 : 0 ≤ a) (h1 : a ≤ 1000000) : ∃ r, Ev (fun k => laws_szStringSS.f k l a) r ∧ -1 ≤ r ∧ r ≤ 1000000 ∧ (0 ≤ r → SmT l) := by
  have hb := h.1
  have hw : wrap64 (a - (l.length : Int)) = a - (l.length : Int) := w64 (by omega) (by omega)
  unfold laws_szStringSS.f
  by_cases c : a - (l.length : Int) < 0
  · exact ⟨-1, Ev.posf (by rw [hw]; exact c) (Ev.now _), by omega, by omega, fun hr => absurd hr (by omega)⟩
  · obtain ⟨r, hr, r1, r2, r3⟩ := szT0_ev h (by omega) _ 0 (a - (l.length : Int)) rfl (by omega) (by omega) (by omega)
    refine ⟨r, Ev.negf (by rw [hw]; exact c) (by rw [hw]; exact hr), r1, r2, fun h0r => ⟨by omega, fun x hx => ?_⟩⟩
    obtain ⟨j, hj, rfl⟩ := List.mem_iff_getElem.mp hx
    exact r3 h0r j hj (by omega)
theorem eqT0_refl (l : List Tx) (hl : l.length ≤ 100000000) (hx : ∀ x ∈ l, x.length ≤ 100000000) : ∀ (d i : Nat), l.length - i = d → i ≤ l.length → Ev (fun k => laws_eqStringSS.l0 k l l i) true
  | 0, i, hd, hi => by
    refine Ev.step' ?_
    simp only [laws_eqStringSS.l0]
    exact Ev.negf (by omega) (Ev.now _)
  | d + 1, i, hd, hi => by
    have hi' : i < l.length := by omega
    refine Ev.step' ?_
    simp only [laws_eqStringSS.l0, w64_succ i (by omega), rdL2 hi']
    exact Ev.posf (by omega) (Ev.posf (by omega) (Ev.posf (by omega) (Ev.bind (eqS_refl _ (hx _ (List.getElem_mem hi'))) (Ev.posf rfl (eqT0_refl l hl hx d (i + 1) (by omega) (by omega))))))
theorem eqT_refl (l : List Tx) (hl : l.length ≤ 100000000) (hx : ∀ x ∈ l, x.length ≤ 100000000) : Ev (fun k => laws_eqStringSS.f k l l) true := by
  unfold laws_eqStringSS.f
  exact Ev.posf rfl (eqT0_refl l hl hx _ 0 rfl (by omega))
theorem rdSS_ful (l : List Tx) (hq : SmT l) (i : Nat) (hi : i < l.length) : FulN (rd_SS (fulSS false l).1 i).1.length (rd_SS (fulSS false l).1 i).2 := by
  rw [fulSS_false]
  have e : rd_SS (l.map (fulS false) ++ List.replicate (room l.length) fillSS) (i : Int) = fulS false l[i] := by
    simp [rd_SS, List.getD_eq_getElem?_getD, List.getElem?_append_left, hi]
  rw [e]
  exact fulS_ful _ (hq.2 _ (List.getElem_mem hi)).1
theorem spareT_ev (l : List Tx) (hq : SmT l) : ∃ K, laws_eqStringSS.f K (((fulSS false l).1.drop l.length).map plS) (((fulSS false l).1.drop l.length).map plS) = some true := by
  have e : (fulSS false l).1.drop l.length = List.replicate (room l.length) fillSS := by rw [fulSS_false]; simp
  rw [e]
  have := room_le l.length
  have h1 := hq.1
  obtain ⟨K, hK⟩ := eqT_refl ((List.replicate (room l.length) fillSS).map plS) (by simp; omega) (fun x hx => by
    obtain ⟨y, hy, rfl⟩ := List.mem_map.mp hx
    obtain rfl := List.eq_of_mem_replicate hy
    decide)
  exact ⟨K, hK K (Nat.le_refl _)⟩
section
variable {H : Type} {enc : TypeId × Value → H} {w : World} {base : Nat} {spare : Nat → Bool} {held : Bool}
set_option maxRecDepth 100000 in
theorem opens_TT : Opens enc Try.prog w base spare held 57 (Kd.slice 30 kTT) BigT :=
  opens_slice Try.underlying57 (by kernel_rfl) opens_strs
end
theorem mkP_get (mt : Int → ByteArray) (l : List Pk) (a : Int) (i : Nat) (h : i < l.length) : (mkP mt l a)[i]'(by rw [mkP_len]; exact h) = ⟨a + cnP (l.take i), mkD mt l[i].f1 (a + cnP (l.take i) + 1)⟩ := by
  have h2 : l = l.take i ++ (l[i] :: l.drop (i + 1)) := by rw [← List.drop_eq_getElem_cons h, List.take_append_drop]
  have hl : (mkP mt (l.take i) a).length = i := by rw [mkP_len, List.length_take]; omega
  have e2 := mkP_apps mt (l.take i) (l[i] :: l.drop (i + 1)) a
  rw [← h2] at e2
  simp only [e2, mkP]
  rw [List.getElem_append_right (by omega)]
  simp [hl]
theorem heldP0_ev {mt : Int → ByteArray} (hm : Mt mt) (l : List Pk) (a : Int) (h0 : 0 ≤ a) (hl : l.length ≤ 100000000) (hx : ∀ x ∈ l, x.f1.length ≤ 100000000) (h1 : a + cnP l ≤ 4000000000000000000) : ∀ (d i : Nat), l.length - i = d → i ≤ l.length →
    Ev (fun k => laws_heldPackedS.l0 k (mkP mt l a) (a + cnP (l.take i)) i) (a + cnP l)
  | 0, i, hd, hi => by
    obtain rfl : i = l.length := by omega
    refine Ev.step' ?_
    simp only [laws_heldPackedS.l0]
    exact Ev.negf (by rw [mkP_len]; omega) (EvT (Ev.now _) (by rw [List.take_length]))
  | d + 1, i, hd, hi => by
    have hi' : i < l.length := by omega
    have hlm : i < (mkP mt l a).length := by rw [mkP_len]; exact hi'
    have hg := mkP_get mt l a i hi'
    have hc := cnP_take hi'
    have hle := cnP_le l (i + 1)
    have hnn := cnP_nn (l.take i)
    have hnd := cnD_nn l[i].f1
    have hw1 : wrap64 (a + cnP (l.take i) + 1) = a + cnP (l.take i) + 1 := w64 (by omega) (by omega)
    refine Ev.step' ?_
    simp only [laws_heldPackedS.l0, w64_succ i (by omega), rdPk hlm, hg, hw1]
    refine Ev.posf (by omega) (Ev.posf (by omega) (Ev.posf trivial (Ev.bind (heldD_ev hm l[i].f1 (a + cnP (l.take i) + 1) (by omega) (hx _ (List.getElem_mem hi')) (by omega)) (Ev.negf (by omega) ?_))))
    have ih := heldP0_ev hm l a h0 hl hx h1 d (i + 1) (by omega) (by omega)
    rw [hc] at ih
    rw [show a + cnP (l.take i) + 1 + cnD l[i].f1 = a + (cnP (l.take i) + (1 + cnD l[i].f1)) by omega]
    exact ih
theorem heldP_ev {mt : Int → ByteArray} (hm : Mt mt) (l : List Pk) (a : Int) (h0 : 0 ≤ a) (hl : l.length ≤ 100000000) (hx : ∀ x ∈ l, x.f1.length ≤ 100000000) (h1 : a + cnP l ≤ 4000000000000000000) : Ev (fun k => laws_heldPackedS.f k (mkP mt l a) a) (a + cnP l) := by
  unfold laws_heldPackedS.f
  have := heldP0_ev hm l a h0 hl hx h1 _ 0 rfl (by omega)
  simpa [cnP] using this
theorem heldPp (k : Nat) (A : Option Addr) (c : Nat) (l : List Pk) (n : Nat) (a r : Int) (w : World) (hn : l.length = n) (hr : Kd.C k53 w A l.length l) (hc : n ≤ c) (h : laws_heldPackedS.f k l a = some r) :
    Calls Try.prog 59 #[.slice A n c, .int .i64 a] w fun e w' => e = .returned (.int .i64 r) ∧ Below w.heap.size w w' := by
  subst hn
  exact laws_heldPackedS.calls k A c l a r w hr hc h
end Go.Proofs.Ytfnhjaiioojbkaa.Q
end
