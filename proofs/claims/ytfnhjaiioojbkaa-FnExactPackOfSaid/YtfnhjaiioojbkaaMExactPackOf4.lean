/- FnExactPackOf: for every argument the law returns true, and its arguments read behind the call as they read before. No conditions. -/
import Derived.Shelf.Abstract
import Derived.Test.YtfnhjaiioojbkaaRows
import Derived.WalkKit
import Derived.ProofKit
import Derived.OpenShut
import Derived.ShutString
import Derived.ChangeOld
import Derived.Below
import Derived.SizedLaws
import Derived.Test.YtfnhjaiioojbkaaMExactPackOf2
import Derived.Test.YtfnhjaiioojbkaaMExactPackOf3
set_option linter.unusedVariables false
set_option linter.unusedSimpArgs false
section
namespace Go.Proofs.Ytfnhjaiioojbkaa.Q
open Go.RowKit Go.Proofs.YtfnhjaiioojbkaaW.PrintWords Go.Proofs.YtfnhjaiioojbkaaW.PrintLast Go.Proofs.YtfnhjaiioojbkaaW.PrintMore
attribute [local go_sem] max2_int min2_int max_two min_two max_three min_three max_four min_four
set_option linter.unusedVariables false
set_option linter.unusedSimpArgs false
set_option maxHeartbeats 8000000 in
set_option maxRecDepth 100000 in
theorem implPackOfS_calls (k : Nat) (A0 : Option Addr) (c0 : Nat) (l0 : List (List ByteArray)) (r : List (S53)) (w : World) (hr0 : Kd.C (Kd.slice 9 Kd.string) w A0 l0.length l0) (hc0 : l0.length ≤ c0) (h : impl_PackOf.f k l0 = some r) :
    Calls Try.prog 47 #[.slice A0 l0.length c0] w fun e w' => ∃ v0_ : Value, e = .returned (v0_) ∧ Kd.S kPQ 53 w' w.heap.size (fun _ => True) v0_ r ∧ Below w.heap.size w w' := by
  have hu53 := Try.underlying53
  have HR0 := Aside0.mk hr0
  have HC0 := Aside0.mk hc0
  clear hr0 hc0
  have HB := Aside0.mk (Below.refl w.heap.size w)
  have H : ((some (([] : List (S53)) : List (S53))).bind fun y937 => ((some (([] : List Int) : List Int)).bind fun y940 => (if (l0.length : Int) > 12 then (impl_PackOf.j0 k l0 y937 y940 true) else ((impl_PackOf_any.f k l0).bind fun t943 => (impl_PackOf.j0 k l0 y937 y940 t943))))) = some r := h
  clear h
  obtain ⟨y937, hy937⟩ : ∃ y_ : List (S53), y_ = (([] : List (S53))) := ⟨_, rfl⟩
  replace H : ((some (([] : List Int) : List Int)).bind fun y940 => (if (l0.length : Int) > 12 then (impl_PackOf.j0 k l0 y937 y940 true) else ((impl_PackOf_any.f k l0).bind fun t943 => (impl_PackOf.j0 k l0 y937 y940 t943)))) = some r := by first | (rw [hy937]; with_reducible exact H) | (have H2_ := (Option.bind_some _ _).symm.trans H; rw [hy937]; with_reducible exact H2_) | (have H2_ := (Option.bind_some _ _).symm.trans H; with_reducible exact H2_) | with_reducible exact H | (rw [hy937]; exact H) | exact H
  have Ny937 := Aside0.mk hy937
  clear hy937
  obtain ⟨y940, hy940⟩ : ∃ y_ : List Int, y_ = (([] : List Int)) := ⟨_, rfl⟩
  replace H : (if (l0.length : Int) > 12 then (impl_PackOf.j0 k l0 y937 y940 true) else ((impl_PackOf_any.f k l0).bind fun t943 => (impl_PackOf.j0 k l0 y937 y940 t943))) = some r := by first | (rw [hy940]; with_reducible exact H) | (have H2_ := (Option.bind_some _ _).symm.trans H; rw [hy940]; with_reducible exact H2_) | (have H2_ := (Option.bind_some _ _).symm.trans H; with_reducible exact H2_) | with_reducible exact H | (rw [hy940]; exact H) | exact H
  have Ny940 := Aside0.mk hy940
  clear hy940
  have HC2 := Aside0.mk H
  clear H
  go_enter Try.func47, Try.ntmps47
  go_upto_region 2 with (first | ((with_reducible refine gate_dst (N := 11) rfl ?_); refine Kd.S_lit kPQ _ 53 ?hg (N := 11) ?hd (xs := ([] : List (S53))) (inner := []) (ok := fun _ => True) (okp := fun _ => True) ?hr ?hp (fun _ hk => hk) trivial (Below.refl _ _) (Nat.le_refl _) (by simp) ?_; (case hd => rfl); (case hg => rfl); (case hr => first | (go_simp; done) | (go_simp; rfl)); (case hp => exact (Reps.none _ _)); intro v938 w3 ho4 hb hg_ hnew_; clear hg_ hnew_; (first | rw [← Ny937.out] at ho4 | (simp only [Int.reduceToNat] at ho4; rw [← Ny937.out] at ho4)); have n0_ := Aside0.mk (Kd.S_lower ho4 (below_size (by repeat (first | (with_reducible first | exact HB.out | apply below_alloc | apply pw_below_drewN | apply below_drew1) | exact HB.out)))); have n1_ := Aside0.mk (below_step (by repeat (first | (with_reducible first | exact HB.out | apply below_alloc | apply pw_below_drewN | apply below_drew1) | exact HB.out)) hb); clear HB; have HO939 := n0_; have HB := n1_; clear n0_ n1_; clear hb ho4) | ((with_reducible refine gate_dst (N := 12) rfl ?_); refine Kd.R_lit (Kd.int .i64) _ 3 ?hg (N := 12) ?hd (xs := ([] : List Int)) (inner := []) (ok := fun _ => True) (okp := fun _ => True) ?hr ?hp (fun _ hk => hk) trivial (Below.refl _ _) (Nat.le_refl _) (by simp) ?_; (case hd => rfl); (case hg => rfl); (case hr => first | (go_simp; done) | (go_simp; rfl)); (case hp => exact (Reps.none _ _)); intro v941 w5 ho6 hb hg_ hnew_; clear hg_ hnew_; (first | rw [← Ny940.out] at ho6 | (simp only [Int.reduceToNat] at ho6; rw [← Ny940.out] at ho6)); have n0_ := Aside0.mk (Kd.S_below (by (with_reducible repeat (first | apply Kd.S_alloc | apply Kd.S_drewN | apply Kd.S_drew)); exact HO939.out) hb); have n1_ := Aside0.mk (Kd.R_lower ho6 (below_size (by repeat (first | (with_reducible first | exact HB.out | apply below_alloc | apply pw_below_drewN | apply below_drew1) | exact HB.out)))); have n2_ := Aside0.mk (below_step (by repeat (first | (with_reducible first | exact HB.out | apply below_alloc | apply pw_below_drewN | apply below_drew1) | exact HB.out)) hb); clear HO939; clear HB; have HO939 := n0_; have HO942 := n1_; have HB := n2_; clear n0_ n1_ n2_; clear hb ho6))
  (try simp only [Act.put, List.setIfInBounds_toArray, List.set_cons_zero, List.set_cons_succ])
  go_cut [19] (fun v19 wc => ∃ (kq : Nat) (x19_1 : Bool), v19 = .bool x19_1 ∧ Aside0 (impl_PackOf.j0 kq l0 y937 y940 x19_1 = some r) ∧ Aside0 (kq ≤ k) ∧ Aside0 (Kd.S kPQ 53 wc w.heap.size (fun _ => True) v938 y937) ∧ Aside0 (Kd.R (Kd.int .i64) 3 wc w.heap.size (fun _ => True) v941 y940) ∧ Aside0 (Below w.heap.size w wc))
  case first =>
    have H := HC2.out
    clear HC2
    by_cases c7 : (l0.length : Int) > 12
    · rw [if_pos c7] at H
      have c7b0 : decide (12 < (l0.length : Int)) = true := decide_eq_true c7
      have c7b1 : decide (12 < l0.length) = true := decide_eq_true (by omega)
      clear c7
      (first | rw [c7b0] | (simp only [i64_w, i32_w]; rw [c7b0]) | skip)
      have H' := Aside0.mk H
      clear H
      go_wp2
      go_meet
      case rel => exact ⟨_, (true), (by first | rfl | (simp; done) | (simp [*]; done)), H', ⟨by first | omega | exact Nat.le_refl _⟩, ⟨by (with_reducible repeat (first | apply Kd.S_alloc | apply Kd.S_drewN | apply Kd.S_drew)); exact HO939.out⟩, ⟨by (with_reducible repeat (first | apply Kd.R_alloc | apply Kd.R_drewN | apply Kd.R_drew)); exact HO942.out⟩, ⟨by repeat (first | (with_reducible first | exact HB.out | apply below_alloc | apply pw_below_drewN | apply below_drew1) | exact HB.out)⟩⟩
    · rw [if_neg c7] at H
      have c7b0 : decide (12 < (l0.length : Int)) = false := decide_eq_false c7
      have c7b1 : decide (12 < l0.length) = false := decide_eq_false (by omega)
      clear c7
      (first | rw [c7b0] | (simp only [i64_w, i32_w]; rw [c7b0]) | skip)
      replace H := Option.bind_eq_some_iff.mp H
      obtain ⟨t943, A80, H⟩ := H
      replace H : (impl_PackOf.j0 k l0 y937 y940 t943) = some r := H
      have A8 := Aside0.mk A80
      clear A80
      have H' := Aside0.mk H
      clear H
      go_wp2_with (first | (go_at_call 92; (with_reducible refine (impl_PackOf_any.calls k _ _ l0 t943 _ ?side1 ?side2 A8.out).mono ?_); (case side1 => repeat (first | exact (Kd.C_below HR0.out HB.out) | (with_reducible refine Kd.C_alloc ?_ _) | (with_reducible refine Kd.C_drewN ?_ _) | (with_reducible refine Kd.C_drew ?_))); (case side2 => exact HC0.out); rintro e w' ⟨rfl, ⟨nd, rfl⟩⟩))
      go_meet
      case rel => exact ⟨_, (t943), (by first | rfl | (simp; done) | (simp [*]; done)), H', ⟨by first | omega | exact Nat.le_refl _⟩, ⟨by (with_reducible repeat (first | apply Kd.S_alloc | apply Kd.S_drewN | apply Kd.S_drew)); exact HO939.out⟩, ⟨by (with_reducible repeat (first | apply Kd.R_alloc | apply Kd.R_drewN | apply Kd.R_drew)); exact HO942.out⟩, ⟨by repeat (first | (with_reducible first | exact HB.out | apply below_alloc | apply pw_below_drewN | apply below_drew1) | exact HB.out)⟩⟩
  case rest =>
    clear HC2
    try clear p2
    try clear c4
    try clear c7
    try clear c7b0
    try clear c7b1
    obtain ⟨kq, x19_1, rfl, HA, HJ1, HO_3, HO_4, HB⟩ := hcut
    cases kq with
    | zero => exact absurd HA.out (by simp [impl_PackOf.j0])
    | succ kj1 =>
      have H := HA.out
      clear HA
      simp only [impl_PackOf.j0] at H
      by_cases c9 : x19_1 = true
      · subst c9
        have H1 : (some y937) = some r := by rw [if_pos rfl] at H; exact H
        clear H
        have H := H1
        clear H1
        obtain rfl := Option.some.inj H
        go_wp2
        go_ret
        exact ⟨_, by first | rfl | (simp <;> rfl) | (simp [*] <;> rfl), by (with_reducible repeat (first | apply Kd.S_alloc | apply Kd.S_drewN | apply Kd.S_drew)); exact HO_3.out, by repeat (first | (with_reducible first | exact HB.out | apply below_alloc | apply pw_below_drewN | apply below_drew1) | exact HB.out)⟩
      · replace c9 := Bool.eq_false_iff.mpr c9
        subst c9
        have H1 : (impl_PackOf.l0 kj1 l0 y937 y940 l0 (l0.length : Int) 0) = some r := by rw [if_neg (show ¬ (false = true) by decide)] at H; exact H
        clear H
        have H := H1
        clear H1
        have H' := Aside0.mk H
        clear H
        go_wp2
        go_loopg [3, 4, 23] kj1 (fun kq v3 v4 v23 w' => ∃ (x3_2 : List (S53)) (x4_2 : List Int) (x23_2 : Int), v23 = .int .i64 x23_2 ∧ Aside0 (impl_PackOf.l0 kq l0 x3_2 x4_2 l0 (l0.length : Int) x23_2 = some r) ∧ Aside0 (kq ≤ kj1) ∧ Aside0 (Kd.S kPQ 53 w' w.heap.size (fun _ => True) v3 x3_2) ∧ Aside0 (Kd.R (Kd.int .i64) 3 w' w.heap.size (fun _ => True) v4 x4_2) ∧ Aside0 (Below w.heap.size w w'))
        case atStart => exact ⟨(y937), (y940), (0), (by first | rfl | (simp; done) | (simp [*]; done)), H', ⟨Nat.le_refl _⟩, ⟨by (with_reducible repeat (first | apply Kd.S_alloc | apply Kd.S_drewN | apply Kd.S_drew)); exact HO_3.out⟩, ⟨by (with_reducible repeat (first | apply Kd.R_alloc | apply Kd.R_drewN | apply Kd.R_drew)); exact HO_4.out⟩, ⟨by repeat (first | (with_reducible first | exact HB.out | apply below_alloc | apply pw_below_drewN | apply below_drew1) | exact HB.out)⟩⟩
        case round =>
          clear H'
          try clear p2
          try clear c4
          try clear c7
          try clear c7b0
          try clear c7b1
          try clear c9
          try clear p2
          obtain ⟨x3_2, x4_2, x23_2, rfl, HA, HK2, HO_3, HO_4, HB⟩ := hrel
          cases gk with
          | zero => exact absurd HA.out (by simp [impl_PackOf.l0])
          | succ k2 =>
            have H := HA.out
            clear HA
            simp only [impl_PackOf.l0] at H
            by_cases c10 : x23_2 < (l0.length : Int)
            · rw [if_pos c10] at H
              have c10b0 : decide (x23_2 < (l0.length : Int)) = true := decide_eq_true c10
              clear c10
              by_cases c11 : 0 ≤ x23_2
              · rw [if_pos c11] at H
                have c11b0 : decide (0 ≤ x23_2) = true := decide_eq_true c11
                clear c11
                by_cases c12 : x23_2 < (l0.length : Int)
                · rw [if_pos c12] at H
                  have c12b0 : decide (x23_2 < (l0.length : Int)) = true := decide_eq_true c12
                  clear c12
                  replace H := Option.bind_eq_some_iff.mp H
                  obtain ⟨t945, A130, H⟩ := H
                  replace H : (impl_PackOf.l1 k2 l0 x3_2 x4_2 (rd_L2 l0 x23_2) 1 l0 (l0.length : Int) x23_2 x23_2 0 (-1) t945) = some r := H
                  have A13 := Aside0.mk A130
                  clear A130
                  have H' := Aside0.mk H
                  clear H
                  have p944 : 0 ≤ (x23_2 : Int) := of_decide_eq_true (by assumption)
                  have q944 : x23_2 < (l0.length : Int) := of_decide_eq_true (by assumption)
                  obtain ⟨ad944, A944_0, c944_0, e944, hx944_0, hl944_0, hi944_0⟩ := at_L2 HR0.out x23_2 p944 q944
                  cases e944
                  replace hx944_0 := (HB.out.cell (World.block_lt_of_cell? w _ hx944_0)).trans hx944_0
                  have HR944_0 := Aside0.mk hi944_0
                  have HC944_0 := Aside0.mk hl944_0
                  clear hi944_0 hl944_0
                  replace p944 := eq_true p944
                  replace q944 := eq_true q944
                  go_wp2_with (first | ((with_reducible refine gate_callee (f := 70) rfl ?_); refine goesL_ (some 29) rfl rfl Try.func70 (by kernel_rfl) rfl #[.slice none 0 0, .slice A944_0 (rd_L2 l0 x23_2).length c944_0] rfl (by (try simp only [List.map_toArray, List.map_cons, List.map_nil]); first | done | rfl | (simp only [List.length_drop, List.length_take]; rfl)) ?_; (refine (impl_deltaOf.calls k2 _ _ ([] : List ByteArray) (fun k_ => k_ < w.heap.size) _ _ (rd_L2 l0 x23_2) t945 _ ?side1 ?side2 ?side3 A13.out).mono ?_); (case side1 => exact Kd.C_nil _ _); (case side2 => exact Nat.le_refl _); (case side3 => exact Kd.V_mk HC944_0.out (Kd.F_below (Kd.C_F Kd.heap_string HR944_0.out) (by repeat (first | (with_reducible first | exact HB.out | apply below_alloc | apply pw_below_drewN | apply below_drew1) | exact HB.out)))); rintro e w14 ⟨v946, rfl, ho0, hb⟩; refine ⟨_, rfl, ?_⟩; obtain ⟨N_, hN_, hO_, hV_⟩ := impl_PackOf.split (by (with_reducible repeat (first | apply Kd.S_alloc | apply Kd.S_drewN | apply Kd.S_drew)); exact HO_3.out) ho0 hb; have HZN := Aside0.mk hN_; clear hN_; have n0_ := Aside0.mk hO_; have n1_ := Aside0.mk (Kd.R_below (by (with_reducible repeat (first | apply Kd.R_alloc | apply Kd.R_drewN | apply Kd.R_drew)); exact HO_4.out) hb); have n2_ := Aside0.mk (Kd.S_lower hV_ (below_size (by repeat (first | (with_reducible first | exact HB.out | apply below_alloc | apply pw_below_drewN | apply below_drew1) | exact HB.out)))); have n3_ := Aside0.mk (below_step (by repeat (first | (with_reducible first | exact HB.out | apply below_alloc | apply pw_below_drewN | apply below_drew1) | exact HB.out)) hb); clear HO_3; clear HO_4; clear HB; have HO_3 := n0_; have HO_4 := n1_; have HO947 := n2_; have HB := n3_; clear n0_ n1_ n2_ n3_; (try clear hb); (try clear hb2); (try clear hk); (try clear hi); (try clear ho0); obtain ⟨Ao15, co15, eo15⟩ := Kd.S_slice HO947.out; subst eo15) | ((with_reducible refine gate_dst (N := 7) rfl ?_); refine box_event ?hg (N := 7) ?hd (cs := #[.int .i64 0, .slice none 0 0]) (t := 53) ?hr ?_; (case hd => rfl); (case hg => rfl); (case hr => first | (go_simp; done) | (go_simp; rfl)); intro gb948 hg w16 hbox hb; have HGN := Aside0.mk (show N_ ≤ gb948 by rw [hg]; exact HZN.out); clear HZN; have n0_ := Aside0.mk (Kd.S_below (Kd.S_elderB (by (with_reducible repeat (first | apply Kd.S_alloc | apply Kd.S_drewN | apply Kd.S_drew)); exact HO_3.out) gb948 (Nat.le_of_eq hg.symm)) hb); have n1_ := Aside0.mk (Kd.R_below (by (with_reducible repeat (first | apply Kd.R_alloc | apply Kd.R_drewN | apply Kd.R_drew)); exact HO_4.out) hb); have n2_ := Aside0.mk (Kd.S_below (by (with_reducible repeat (first | apply Kd.S_alloc | apply Kd.S_drewN | apply Kd.S_drew)); exact HO947.out) hb); have n3_ := Aside0.mk (below_step (by repeat (first | (with_reducible first | exact HB.out | apply below_alloc | apply pw_below_drewN | apply below_drew1) | exact HB.out)) hb); have n4_ := Aside0.mk (hbox); have n5_ := Aside0.mk ((by rw [hg]; exact (below_size (by repeat (first | (with_reducible first | exact HB.out | apply below_alloc | apply pw_below_drewN | apply below_drew1) | exact HB.out))) : w.heap.size ≤ gb948)); have n6_ := Aside0.mk ((by rw [hg]; exact (below_size (by repeat (first | (with_reducible first | exact HB.out | apply below_alloc | apply pw_below_drewN | apply below_drew1) | exact HB.out))) : w.heap.size ≤ gb948)); clear HO_3; clear HO_4; clear HO947; clear HB; have HO_3 := n0_; have HO_4 := n1_; have HO947 := n2_; have HB := n3_; have BK948 := n4_; have GW948 := n5_; have GE948 := n6_; clear n0_ n1_ n2_ n3_ n4_ n5_ n6_; clear hb hbox hg; have hcz17_0 : w16.cell? ⟨gb948, 0, none⟩ = some (.int .i64 0) := (blk_cell BK948.out 0).trans rfl; have hcz17_1 : w16.cell? ⟨gb948, 1, none⟩ = some (.slice none 0 0) := (blk_cell BK948.out 1).trans rfl; have hfz17_0 := blk_frozen BK948.out 0; have hfz17_1 := blk_frozen BK948.out 1))
                  go_loopg [8, 32] k2 (fun kq v8 v32 w' => ∃ (x8_3 : Int) (x32_3 : Int) (x949000_3 : Int) (x949001_3 : List (S39)) (u949001 : Value), v8 = .int .i64 x8_3 ∧ v32 = .int .i64 x32_3 ∧ Aside0 (impl_PackOf.l1 kq l0 x3_2 x4_2 (rd_L2 l0 x23_2) x8_3 l0 (l0.length : Int) x23_2 x23_2 x32_3 x949000_3 x949001_3 = some r) ∧ Aside0 (kq ≤ k2) ∧ Aside0 (Kd.S kPQ 53 w' w.heap.size (fun k_ => (some k_ ≠ (u949001 : Value).ownBlock ∧ k_ < N_) ∧ k_ ≠ gb948) u3 x3_2) ∧ Aside0 (Kd.R (Kd.int .i64) 3 w' w.heap.size (fun _ => True) u4 x4_2) ∧ Aside0 (Kd.S k39 39 w' w.heap.size (fun k_ => N_ ≤ k_) u949001 x949001_3) ∧ Aside0 (w'.heap[gb948]? = some (.cells #[.int .i64 x949000_3, u949001] 53 (0, 0))) ∧ Aside0 (Below w.heap.size w w'))
                  case atStart => exact ⟨(1), (0), ((-1)), (t945), (.slice Ao15 t945.length co15), (by first | rfl | (simp; done) | (simp [*]; done)), (by first | rfl | (simp; done) | (simp [*]; done)), H', ⟨Nat.le_refl _⟩, ⟨by (with_reducible repeat (first | apply Kd.S_alloc | apply Kd.S_drewN | apply Kd.S_drew)); exact Kd.S_mono (Kd.S_far (p := ⟨gb948, 1, none⟩) (Kd.S_far (p := ⟨gb948, 0, none⟩) (Kd.S_mono HO_3.out (fun k_ hk => (⟨hk, hk.2⟩ : _ ∧ k_ ≠ gb948))) (fun _ hk => hk.2) (.int .i64 (-1))) (fun _ hk => hk.2) (.slice Ao15 t945.length co15)) (fun _ hk => ⟨⟨hk.1.1.2, hk.1.1.1.1⟩, hk.1.2⟩)⟩, ⟨by (with_reducible repeat (first | apply Kd.R_alloc | apply Kd.R_drewN | apply Kd.R_drew)); exact Kd.R_mono (Kd.R_far (p := ⟨gb948, 1, none⟩) (Kd.R_far (p := ⟨gb948, 0, none⟩) (Kd.R_types HO_4.out BK948.out (by decide)) (fun _ hk => hk.2) (.int .i64 (-1))) (fun _ hk => hk.2) (.slice Ao15 t945.length co15)) (fun _ hk => trivial)⟩, ⟨by (with_reducible repeat (first | apply Kd.S_alloc | apply Kd.S_drewN | apply Kd.S_drew)); exact Kd.S_mono (Kd.S_far (p := ⟨gb948, 1, none⟩) (Kd.S_far (p := ⟨gb948, 0, none⟩) (Kd.S_types HO947.out BK948.out (by decide)) (fun _ hk => hk.2) (.int .i64 (-1))) (fun _ hk => hk.2) (.slice Ao15 t945.length co15)) (fun _ hk => hk.1)⟩, ⟨by (with_reducible repeat (first | refine blk_drewN ?_ _ | refine blk_drew ?_ | refine blk_alloc ?_ _)); refine blk_put (cs := #[.int .i64 (-1), .slice none 0 0]) ?_ 1 _ rfl; (with_reducible repeat (first | refine blk_drewN ?_ _ | refine blk_drew ?_ | refine blk_alloc ?_ _)); refine blk_put (cs := #[.int .i64 0, .slice none 0 0]) ?_ 0 _ rfl; (with_reducible repeat (first | refine blk_drewN ?_ _ | refine blk_drew ?_ | refine blk_alloc ?_ _)); exact BK948.out⟩, ⟨by repeat (first | (with_reducible first | exact HB.out | apply below_alloc | apply pw_below_drewN | apply below_drew1 | refine below_set ?_ GE948.out) | exact HB.out)⟩⟩
                  case round =>
                    clear H'
                    try clear c1
                    try clear p2
                    try clear c4
                    try clear c7
                    try clear c7b0
                    try clear c7b1
                    try clear c9
                    try clear p9
                    try clear q9
                    try clear hx9
                    try clear c10
                    try clear c10b0
                    try clear c11
                    try clear c11b0
                    try clear c12
                    try clear c12b0
                    try clear hcz17_0
                    try clear hcz17_1
                    try clear hfz17_0
                    try clear hfz17_1
                    try clear hx944_0
                    try clear p2
                    try clear p944
                    try clear q944
                    obtain ⟨x8_3, x32_3, x949000_3, x949001_3, u949001, rfl, rfl, HA, HK3, HO_3, HO_4, HO_949001, BK948, HB⟩ := hrel
                    cases gk with
                    | zero => exact absurd HA.out (by simp [impl_PackOf.l1])
                    | succ k3 =>
                      have H := HA.out
                      clear HA
                      simp only [impl_PackOf.l1] at H
                      by_cases c18 : x32_3 < x23_2
                      · rw [if_pos c18] at H
                        have c18b0 : decide (x32_3 < x23_2) = true := decide_eq_true c18
                        clear c18
                        by_cases c19 : 0 ≤ x32_3
                        · rw [if_pos c19] at H
                          have c19b0 : decide (0 ≤ x32_3) = true := decide_eq_true c19
                          clear c19
                          by_cases c20 : x32_3 < (x4_2.length : Int)
                          · rw [if_pos c20] at H
                            have c20b0 : decide (x32_3 < (x4_2.length : Int)) = true := decide_eq_true c20
                            clear c20
                            by_cases c21 : (rd x4_2 x32_3) ≥ 3
                            · rw [if_pos c21] at H
                              have c21b0 : decide (3 ≤ (rd x4_2 x32_3)) = true := decide_eq_true c21
                              clear c21
                              have H' := Aside0.mk H
                              clear H
                              obtain ⟨Ao22, co22, eo22⟩ := Kd.R_slice HO_4.out
                              subst eo22
                              have p955 : 0 ≤ (x32_3 : Int) := of_decide_eq_true (by assumption)
                              have q955 : x32_3 < (x4_2.length : Int) := of_decide_eq_true (by assumption)
                              obtain ⟨ad955, e955, hx955_0⟩ := Kd.at_int (Kd.R_reads' HO_4.out).2.2 x32_3 p955 q955
                              cases e955
                              replace p955 := eq_true p955
                              replace q955 := eq_true q955
                              go_wp2
                              go_roundg k3
                              case measure => have := HJ1.out; have := HK2.out; have := HK3.out; omega
                              case rel => exact ⟨(x8_3), (wrap64 (x32_3 + 1)), (x949000_3), (x949001_3), (u949001), (by first | rfl | (simp; done) | (simp [*]; done)), (by first | rfl | (simp; done) | (simp [*]; done)), H', ⟨by have := HJ1.out; have := HK2.out; have := HK3.out; omega⟩, ⟨by (with_reducible repeat (first | apply Kd.S_alloc | apply Kd.S_drewN | apply Kd.S_drew)); exact HO_3.out⟩, ⟨by (with_reducible repeat (first | apply Kd.R_alloc | apply Kd.R_drewN | apply Kd.R_drew)); exact HO_4.out⟩, ⟨by (with_reducible repeat (first | apply Kd.S_alloc | apply Kd.S_drewN | apply Kd.S_drew)); exact HO_949001.out⟩, ⟨by (with_reducible repeat (first | refine blk_drewN ?_ _ | refine blk_drew ?_ | refine blk_alloc ?_ _)); exact BK948.out⟩, ⟨by repeat (first | (with_reducible first | exact HB.out | apply below_alloc | apply pw_below_drewN | apply below_drew1 | refine below_set ?_ GE948.out) | exact HB.out)⟩⟩
                            · rw [if_neg c21] at H
                              have c21b0 : decide (3 ≤ (rd x4_2 x32_3)) = false := decide_eq_false c21
                              clear c21
                              by_cases c23 : x32_3 < (l0.length : Int)
                              · rw [if_pos c23] at H
                                have c23b0 : decide (x32_3 < (l0.length : Int)) = true := decide_eq_true c23
                                clear c23
                                replace H := Option.bind_eq_some_iff.mp H
                                obtain ⟨t957, A240, H⟩ := H
                                replace H : ((impl_deltaSize.f k3 t957).bind fun t960 => ((impl_deltaSize.f k3 x949001_3).bind fun t961 => (if t960 < t961 then (impl_PackOf.l1 k3 l0 x3_2 x4_2 (rd_L2 l0 x23_2) (wrap64 ((rd x4_2 x32_3) + 1)) l0 (l0.length : Int) x23_2 x23_2 (wrap64 (x32_3 + 1)) x32_3 t957) else (impl_PackOf.l1 k3 l0 x3_2 x4_2 (rd_L2 l0 x23_2) x8_3 l0 (l0.length : Int) x23_2 x23_2 (wrap64 (x32_3 + 1)) x949000_3 x949001_3)))) = some r := H
                                have A24 := Aside0.mk A240
                                clear A240
                                replace H := Option.bind_eq_some_iff.mp H
                                obtain ⟨t960, A250, H⟩ := H
                                replace H : ((impl_deltaSize.f k3 x949001_3).bind fun t961 => (if t960 < t961 then (impl_PackOf.l1 k3 l0 x3_2 x4_2 (rd_L2 l0 x23_2) (wrap64 ((rd x4_2 x32_3) + 1)) l0 (l0.length : Int) x23_2 x23_2 (wrap64 (x32_3 + 1)) x32_3 t957) else (impl_PackOf.l1 k3 l0 x3_2 x4_2 (rd_L2 l0 x23_2) x8_3 l0 (l0.length : Int) x23_2 x23_2 (wrap64 (x32_3 + 1)) x949000_3 x949001_3))) = some r := H
                                have A25 := Aside0.mk A250
                                clear A250
                                replace H := Option.bind_eq_some_iff.mp H
                                obtain ⟨t961, A260, H⟩ := H
                                replace H : (if t960 < t961 then (impl_PackOf.l1 k3 l0 x3_2 x4_2 (rd_L2 l0 x23_2) (wrap64 ((rd x4_2 x32_3) + 1)) l0 (l0.length : Int) x23_2 x23_2 (wrap64 (x32_3 + 1)) x32_3 t957) else (impl_PackOf.l1 k3 l0 x3_2 x4_2 (rd_L2 l0 x23_2) x8_3 l0 (l0.length : Int) x23_2 x23_2 (wrap64 (x32_3 + 1)) x949000_3 x949001_3)) = some r := H
                                have A26 := Aside0.mk A260
                                clear A260
                                by_cases c27 : t960 < t961
                                · rw [if_pos c27] at H
                                  have c27b0 : decide (t960 < t961) = true := decide_eq_true c27
                                  clear c27
                                  have H' := Aside0.mk H
                                  clear H
                                  obtain ⟨Ao28, co28, eo28⟩ := Kd.R_slice HO_4.out
                                  subst eo28
                                  have p955 : 0 ≤ (x32_3 : Int) := of_decide_eq_true (by assumption)
                                  have q955 : x32_3 < (x4_2.length : Int) := of_decide_eq_true (by assumption)
                                  obtain ⟨ad955, e955, hx955_0⟩ := Kd.at_int (Kd.R_reads' HO_4.out).2.2 x32_3 p955 q955
                                  cases e955
                                  replace p955 := eq_true p955
                                  replace q955 := eq_true q955
                                  have p956 : 0 ≤ (x32_3 : Int) := of_decide_eq_true (by assumption)
                                  have q956 : x32_3 < (l0.length : Int) := of_decide_eq_true (by assumption)
                                  obtain ⟨ad956, A956_0, c956_0, e956, hx956_0, hl956_0, hi956_0⟩ := at_L2 HR0.out x32_3 p956 q956
                                  obtain rfl : ad944 = ad956 := (by injection e956)
                                  replace hx956_0 := (HB.out.cell (World.block_lt_of_cell? w _ hx956_0)).trans hx956_0
                                  have HR956_0 := Aside0.mk hi956_0
                                  have HC956_0 := Aside0.mk hl956_0
                                  clear hi956_0 hl956_0
                                  replace p956 := eq_true p956
                                  replace q956 := eq_true q956
                                  try go_wp2_with (first | ((with_reducible refine gate_callee (f := 70) rfl ?_); refine goesL_ (some 45) rfl rfl Try.func70 (by kernel_rfl) rfl #[.slice A956_0 (rd_L2 l0 x32_3).length c956_0, .slice A944_0 (rd_L2 l0 x23_2).length c944_0] rfl (by (try simp only [List.map_toArray, List.map_cons, List.map_nil]); first | done | rfl | (simp only [List.length_drop, List.length_take]; rfl)) ?_; (with_reducible refine (impl_deltaOf.calls k3 _ _ (rd_L2 l0 x32_3) (fun k_ => k_ < w.heap.size) _ _ (rd_L2 l0 x23_2) t957 _ ?side1 ?side2 ?side3 A24.out).mono ?_); (case side1 => repeat (first | exact (Kd.C_below HR956_0.out HB.out) | (with_reducible refine Kd.C_alloc ?_ _) | (with_reducible refine Kd.C_drewN ?_ _) | (with_reducible refine Kd.C_drew ?_))); (case side2 => exact HC956_0.out); (case side3 => exact Kd.V_mk HC944_0.out (Kd.F_below (Kd.C_F Kd.heap_string HR944_0.out) (by repeat (first | (with_reducible first | exact HB.out | apply below_alloc | apply pw_below_drewN | apply below_drew1 | refine below_set ?_ GE948.out) | exact HB.out)))); rintro e w29 ⟨v958, rfl, ho0, hb⟩; refine ⟨_, rfl, ?_⟩; have n0_ := Aside0.mk (Kd.S_elder' (by (with_reducible repeat (first | apply Kd.S_alloc | apply Kd.S_drewN | apply Kd.S_drew)); exact HO_3.out) (Kd.S_base ho0) hb); have n1_ := Aside0.mk (Kd.R_below (by (with_reducible repeat (first | apply Kd.R_alloc | apply Kd.R_drewN | apply Kd.R_drew)); exact HO_4.out) hb); have n2_ := Aside0.mk (Kd.S_elder' (by (with_reducible repeat (first | apply Kd.S_alloc | apply Kd.S_drewN | apply Kd.S_drew)); exact HO_949001.out) (Kd.S_base ho0) hb); have n3_ := Aside0.mk (Kd.S_lower (Kd.S_new' (Kd.S_mono (ok' := fun k_ => N_ ≤ k_) ho0 (fun _ hk_ => Nat.le_trans HGN.out (Nat.le_trans (Nat.le_of_lt (blk_lt (by (with_reducible repeat (first | refine blk_drewN ?_ _ | refine blk_drew ?_ | refine blk_alloc ?_ _)); exact BK948.out))) hk_))) (Kd.S_lt (by (with_reducible repeat (first | apply Kd.S_alloc | apply Kd.S_drewN | apply Kd.S_drew)); exact HO_949001.out))) (below_size (by repeat (first | (with_reducible first | exact HB.out | apply below_alloc | apply pw_below_drewN | apply below_drew1 | refine below_set ?_ GE948.out) | exact HB.out)))); have n4_ := Aside0.mk (blk_below (g := gb948) (o := .cells #[.int .i64 x949000_3, u949001] 53 (0, 0)) (by (with_reducible repeat (first | refine blk_drewN ?_ _ | refine blk_drew ?_ | refine blk_alloc ?_ _)); exact BK948.out) hb); have n5_ := Aside0.mk (below_step (by repeat (first | (with_reducible first | exact HB.out | apply below_alloc | apply pw_below_drewN | apply below_drew1 | refine below_set ?_ GE948.out) | exact HB.out)) hb); clear HO_3; clear HO_4; clear HO_949001; clear BK948; clear HB; have HO_3 := n0_; have HO_4 := n1_; have HO_949001 := n2_; have HO959 := n3_; have BK948 := n4_; have HB := n5_; clear n0_ n1_ n2_ n3_ n4_ n5_; (try clear hb); (try clear hb2); (try clear hk); (try clear hi); (try clear ho0)))
                                  have n0_ := Aside0.mk (Kd.S_drew HO_3.out)
                                  have n1_ := Aside0.mk (Kd.R_drew HO_4.out)
                                  have n2_ := Aside0.mk (Kd.S_drew HO_949001.out)
                                  have n3_ := Aside0.mk (Kd.S_drew HO959.out)
                                  have n4_ := Aside0.mk (blk_drew BK948.out)
                                  have n5_ := Aside0.mk (below_drew1 HB.out)
                                  clear HO_3
                                  clear HO_4
                                  clear HO_949001
                                  clear HO959
                                  clear BK948
                                  clear HB
                                  have HO_3 := n0_
                                  have HO_4 := n1_
                                  have HO_949001 := n2_
                                  have HO959 := n3_
                                  have BK948 := n4_
                                  have HB := n5_
                                  clear n0_ n1_ n2_ n3_ n4_ n5_
                                  obtain ⟨Ao31, co31, eo31⟩ := Kd.S_slice HO959.out
                                  (first | subst eo31 | (injection eo31 with f1_ f2_ f3_; have f4_ := f1_.symm; have f5_ := f3_.symm; clear f1_ f2_ f3_; subst f4_; subst f5_))
                                  refine start_ (n := 6) (S := fun w' => w'.cell? ⟨gb948, 0, none⟩ = some (.int .i64 x949000_3) ∧ w'.cell? ⟨gb948, 1, none⟩ = some (u949001)) (ds := []) #[f_, f_, f_, f_, f_, f_] (by kernel_rfl) rfl rfl ⟨(blk_cell BK948.out 0).trans rfl, (blk_cell BK948.out 1).trans rfl⟩ (fun hHeld => ?_)
                                  generalize w29.drew = w30 at HO_3 HO_4 HO_949001 HO959 BK948 HB hHeld ⊢
                                  refine pure_ (i := 0) (N := some 46) (v := ?_) (a' := ?_) #[t_, f_, f_, f_, f_, f_] rfl rfl (by kernel_rfl) (fun _ _ _ h => h) (Or.inl ⟨by rfl, ?_⟩) ?_ ?_
                                  rotate_left
                                  · intro w'
                                    go_simp
                                    with_reducible rfl
                                  rotate_left
                                  · simp only [Act.put, List.setIfInBounds_toArray, List.set_cons_zero, List.set_cons_succ, i64_w, i32_w]
                                    rfl
                                  refine pure_ (i := 2) (N := some 48) (v := ?_) (a' := ?_) #[t_, f_, t_, f_, f_, f_] rfl rfl (by kernel_rfl) (fun _ _ _ h => h) (Or.inl ⟨by rfl, ?_⟩) ?_ ?_
                                  rotate_left
                                  · intro w'
                                    go_simp
                                    with_reducible rfl
                                  rotate_left
                                  · simp only [Act.put, List.setIfInBounds_toArray, List.set_cons_zero, List.set_cons_succ, i64_w, i32_w]
                                    rfl
                                  refine take_ (i := 3) (N := some 49) (v := ?_) (a' := ?_) #[t_, f_, t_, t_, f_, f_] rfl rfl (by kernel_rfl) (fun _ _ _ h => h) (Or.inl ⟨by rfl, ?_⟩) hHeld ?_ ?_
                                  rotate_left
                                  · rintro w' ⟨s0, s1⟩
                                    go_simp
                                    with_reducible rfl
                                  rotate_left
                                  · simp only [Act.put, List.setIfInBounds_toArray, List.set_cons_zero, List.set_cons_succ, i64_w, i32_w]
                                    rfl
                                  refine one_ (i := 1) (N := some 47) #[t_, t_, t_, t_, f_, f_] rfl rfl (by kernel_rfl) (by decide) (fun K hK => ?_)
                                  refine goes_ Try.func89 (by kernel_rfl) rfl #[.slice Ao31 t957.length co31] (by rfl) rfl rfl (by (try simp only [List.map_toArray, List.map_cons, List.map_nil]); first | done | rfl | (simp only [List.length_drop, List.length_take]; rfl)) ?_
                                  with_reducible refine (impl_deltaSize.calls k3 _ _ t957 t960 _ ?side1 ?side2 A25.out).mono ?_
                                  (case side1 => repeat (first | exact (Kd.S_reads' HO959.out).2.2 | (with_reducible refine Kd.C_alloc ?_ _) | (with_reducible refine Kd.C_drewN ?_ _) | (with_reducible refine Kd.C_drew ?_)))
                                  (case side2 => exact (Kd.S_reads' HO959.out).2.1)
                                  rintro e w32 ⟨rfl, hb⟩
                                  refine ⟨_, rfl, ?_⟩
                                  have n0_ := Aside0.mk (Kd.S_below (by (with_reducible repeat (first | apply Kd.S_alloc | apply Kd.S_drewN | apply Kd.S_drew)); exact HO_3.out) hb)
                                  have n1_ := Aside0.mk (Kd.R_below (by (with_reducible repeat (first | apply Kd.R_alloc | apply Kd.R_drewN | apply Kd.R_drew)); exact HO_4.out) hb)
                                  have n2_ := Aside0.mk (Kd.S_below (by (with_reducible repeat (first | apply Kd.S_alloc | apply Kd.S_drewN | apply Kd.S_drew)); exact HO_949001.out) hb)
                                  have n3_ := Aside0.mk (Kd.S_below (by (with_reducible repeat (first | apply Kd.S_alloc | apply Kd.S_drewN | apply Kd.S_drew)); exact HO959.out) hb)
                                  have n4_ := Aside0.mk (blk_below (g := gb948) (o := .cells #[.int .i64 x949000_3, u949001] 53 (0, 0)) (by (with_reducible repeat (first | refine blk_drewN ?_ _ | refine blk_drew ?_ | refine blk_alloc ?_ _)); exact BK948.out) hb)
                                  have n5_ := Aside0.mk (below_step (by repeat (first | (with_reducible first | exact HB.out | apply below_alloc | apply pw_below_drewN | apply below_drew1 | refine below_set ?_ GE948.out) | exact HB.out)) hb)
                                  clear HO_3
                                  clear HO_4
                                  clear HO_949001
                                  clear HO959
                                  clear BK948
                                  clear HB
                                  have HO_3 := n0_
                                  have HO_4 := n1_
                                  have HO_949001 := n2_
                                  have HO959 := n3_
                                  have BK948 := n4_
                                  have HB := n5_
                                  clear n0_ n1_ n2_ n3_ n4_ n5_
                                  (try clear hb)
                                  (try clear hb2)
                                  (try clear hk)
                                  (try clear hi)
                                  obtain ⟨Ao33, co33, eo33⟩ := Kd.S_slice HO_949001.out
                                  (first | subst eo33 | (injection eo33 with f1_ f2_ f3_; have f4_ := f1_.symm; have f5_ := f3_.symm; clear f1_ f2_ f3_; subst f4_; subst f5_))
                                  refine hK.out _ _ ⟨(blk_cell BK948.out 0).trans rfl, (blk_cell BK948.out 1).trans rfl⟩ (fun hHeld => ?_)
                                  clear hK K
                                  refine norm_ (a' := ?_) ?_ ?_
                                  rotate_left
                                  · show Act.put _ (some 47) _ = _
                                    simp only [Act.put, List.setIfInBounds_toArray, List.set_cons_zero, List.set_cons_succ, i64_w, i32_w]
                                    rfl
                                  refine one_ (i := 4) (N := some 50) #[t_, t_, t_, t_, t_, f_] rfl rfl (by kernel_rfl) (by decide) (fun K hK => ?_)
                                  refine goes_ Try.func89 (by kernel_rfl) rfl #[.slice Ao33 x949001_3.length co33] (by rfl) rfl rfl (by (try simp only [List.map_toArray, List.map_cons, List.map_nil]); first | done | rfl | (simp only [List.length_drop, List.length_take]; rfl)) ?_
                                  with_reducible refine (impl_deltaSize.calls k3 _ _ x949001_3 t961 _ ?side1 ?side2 A26.out).mono ?_
                                  (case side1 => repeat (first | exact (Kd.S_reads' HO_949001.out).2.2 | (with_reducible refine Kd.C_alloc ?_ _) | (with_reducible refine Kd.C_drewN ?_ _) | (with_reducible refine Kd.C_drew ?_)))
                                  (case side2 => exact (Kd.S_reads' HO_949001.out).2.1)
                                  rintro e w34 ⟨rfl, hb⟩
                                  refine ⟨_, rfl, ?_⟩
                                  have n0_ := Aside0.mk (Kd.S_below (by (with_reducible repeat (first | apply Kd.S_alloc | apply Kd.S_drewN | apply Kd.S_drew)); exact HO_3.out) hb)
                                  have n1_ := Aside0.mk (Kd.R_below (by (with_reducible repeat (first | apply Kd.R_alloc | apply Kd.R_drewN | apply Kd.R_drew)); exact HO_4.out) hb)
                                  have n2_ := Aside0.mk (Kd.S_below (by (with_reducible repeat (first | apply Kd.S_alloc | apply Kd.S_drewN | apply Kd.S_drew)); exact HO_949001.out) hb)
                                  have n3_ := Aside0.mk (Kd.S_below (by (with_reducible repeat (first | apply Kd.S_alloc | apply Kd.S_drewN | apply Kd.S_drew)); exact HO959.out) hb)
                                  have n4_ := Aside0.mk (blk_below (g := gb948) (o := .cells #[.int .i64 x949000_3, .slice Ao33 x949001_3.length co33] 53 (0, 0)) (by (with_reducible repeat (first | refine blk_drewN ?_ _ | refine blk_drew ?_ | refine blk_alloc ?_ _)); exact BK948.out) hb)
                                  have n5_ := Aside0.mk (below_step (by repeat (first | (with_reducible first | exact HB.out | apply below_alloc | apply pw_below_drewN | apply below_drew1 | refine below_set ?_ GE948.out) | exact HB.out)) hb)
                                  clear HO_3
                                  clear HO_4
                                  clear HO_949001
                                  clear HO959
                                  clear BK948
                                  clear HB
                                  have HO_3 := n0_
                                  have HO_4 := n1_
                                  have HO_949001 := n2_
                                  have HO959 := n3_
                                  have BK948 := n4_
                                  have HB := n5_
                                  clear n0_ n1_ n2_ n3_ n4_ n5_
                                  (try clear hb)
                                  (try clear hb2)
                                  (try clear hk)
                                  (try clear hi)
                                  refine hK.out _ _ ⟨(blk_cell BK948.out 0).trans rfl, (blk_cell BK948.out 1).trans rfl⟩ (fun hHeld => ?_)
                                  clear hK K
                                  refine norm_ (a' := ?_) ?_ ?_
                                  rotate_left
                                  · show Act.put _ (some 50) _ = _
                                    simp only [Act.put, List.setIfInBounds_toArray, List.set_cons_zero, List.set_cons_succ, i64_w, i32_w]
                                    rfl
                                  refine pure_ (i := 5) (N := some 51) (v := ?_) (a' := ?_) #[t_, t_, t_, t_, t_, t_] rfl rfl (by kernel_rfl) (fun _ _ _ h => h) (Or.inl ⟨by rfl, ?_⟩) ?_ ?_
                                  rotate_left
                                  · intro w'
                                    go_simp
                                    with_reducible rfl
                                  rotate_left
                                  · simp only [Act.put, List.setIfInBounds_toArray, List.set_cons_zero, List.set_cons_succ, i64_w, i32_w]
                                    rfl
                                  refine done_ (by kernel_rfl) ?_
                                  try go_wp2
                                  have n0_ := Aside0.mk (Kd.S_drew HO_3.out)
                                  have n1_ := Aside0.mk (Kd.R_drew HO_4.out)
                                  have n2_ := Aside0.mk (Kd.S_drew HO_949001.out)
                                  have n3_ := Aside0.mk (Kd.S_drew HO959.out)
                                  have n4_ := Aside0.mk (blk_drew BK948.out)
                                  have n5_ := Aside0.mk (below_drew1 HB.out)
                                  clear HO_3
                                  clear HO_4
                                  clear HO_949001
                                  clear HO959
                                  clear BK948
                                  clear HB
                                  have HO_3 := n0_
                                  have HO_4 := n1_
                                  have HO_949001 := n2_
                                  have HO959 := n3_
                                  have BK948 := n4_
                                  have HB := n5_
                                  clear n0_ n1_ n2_ n3_ n4_ n5_
                                  have p962 : 0 ≤ (x32_3 : Int) := of_decide_eq_true (by assumption)
                                  have q962 : x32_3 < (x4_2.length : Int) := of_decide_eq_true (by assumption)
                                  obtain ⟨ad962, e962, hx962_0⟩ := Kd.at_int (Kd.R_reads' HO_4.out).2.2 x32_3 p962 q962
                                  obtain rfl : ad955 = ad962 := (by injection e962)
                                  replace p962 := eq_true p962
                                  replace q962 := eq_true q962
                                  refine start_ (n := 10) (S := fun w' => w'.cell? (ad955.add (x32_3).toNat) = some (.int .i64 (rd x4_2 x32_3))) (ds := []) #[f_, f_, f_, f_, f_, f_, f_, f_, f_, f_] (by kernel_rfl) rfl rfl (hx962_0) (fun hHeld => ?_); refine with_tabW impl_PackOf.tab14 impl_PackOf.bits14 (fun HT_ HW_ => ?_)
                                  generalize w34.drew = w35 at HO_3 HO_4 HO_949001 HO959 BK948 HB hx962_0 hHeld ⊢
                                  refine pure_ (i := 0) (N := some 52) (v := ?_) (a' := ?_) #[t_, f_, f_, f_, f_, f_, f_, f_, f_, f_] rfl rfl (any_of HT_.out (by kernel_rfl)) (fun _ _ _ h => h) (Or.inl ⟨by rfl, ?_⟩) ?_ ?_
                                  rotate_left
                                  · intro w'
                                    go_simp
                                    with_reducible rfl
                                  rotate_left
                                  · simp only [Act.put, List.setIfInBounds_toArray, List.set_cons_zero, List.set_cons_succ, i64_w, i32_w]
                                    rfl
                                  refine pure_ (i := 1) (N := some 53) (v := ?_) (a' := ?_) #[t_, t_, f_, f_, f_, f_, f_, f_, f_, f_] rfl rfl (any_of HT_.out (by kernel_rfl)) (fun _ _ _ h => h) (Or.inl ⟨by rfl, ?_⟩) ?_ ?_
                                  rotate_left
                                  · intro w'
                                    go_simp
                                    with_reducible rfl
                                  rotate_left
                                  · simp only [Act.put, List.setIfInBounds_toArray, List.set_cons_zero, List.set_cons_succ, i64_w, i32_w]
                                    rfl
                                  refine pure_ (i := 2) (N := some 54) (v := ?_) (a' := ?_) #[t_, t_, t_, f_, f_, f_, f_, f_, f_, f_] rfl rfl (any_of HT_.out (by kernel_rfl)) (fun _ _ _ h => h) (Or.inl ⟨by rfl, ?_⟩) ?_ ?_
                                  rotate_left
                                  · intro w'
                                    go_simp
                                    with_reducible rfl
                                  rotate_left
                                  · simp only [Act.put, List.setIfInBounds_toArray, List.set_cons_zero, List.set_cons_succ, i64_w, i32_w]
                                    rfl
                                  refine pure_ (i := 3) (N := some 55) (v := ?_) (a' := ?_) #[t_, t_, t_, t_, f_, f_, f_, f_, f_, f_] rfl rfl (any_of HT_.out (by kernel_rfl)) (fun _ _ _ h => h) (Or.inl ⟨by rfl, ?_⟩) ?_ ?_
                                  rotate_left
                                  · intro w'
                                    go_simp
                                    with_reducible rfl
                                  rotate_left
                                  · simp only [Act.put, List.setIfInBounds_toArray, List.set_cons_zero, List.set_cons_succ, i64_w, i32_w]
                                    rfl
                                  refine pure_ (i := 4) (N := some 56) (v := ?_) (a' := ?_) #[t_, t_, t_, t_, t_, f_, f_, f_, f_, f_] rfl rfl (any_of HT_.out (by kernel_rfl)) (fun _ _ _ h => h) (Or.inl ⟨by rfl, ?_⟩) ?_ ?_
                                  rotate_left
                                  · intro w'
                                    go_simp
                                    with_reducible rfl
                                  rotate_left
                                  · simp only [Act.put, List.setIfInBounds_toArray, List.set_cons_zero, List.set_cons_succ, i64_w, i32_w]
                                    rfl
                                  refine pure_ (i := 5) (N := some 57) (v := ?_) (a' := ?_) #[t_, t_, t_, t_, t_, t_, f_, f_, f_, f_] rfl rfl (any_of HT_.out (by kernel_rfl)) (fun _ _ _ h => h) (Or.inl ⟨by rfl, ?_⟩) ?_ ?_
                                  rotate_left
                                  · intro w'
                                    go_simp
                                    with_reducible rfl
                                  rotate_left
                                  · simp only [Act.put, List.setIfInBounds_toArray, List.set_cons_zero, List.set_cons_succ, i64_w, i32_w]
                                    rfl
                                  refine take_ (i := 6) (N := some 58) (v := ?_) (a' := ?_) #[t_, t_, t_, t_, t_, t_, t_, f_, f_, f_] rfl rfl (take_ofW HT_.out HW_.out (by kernel_rfl)) (fun _ _ _ h => h) (Or.inl ⟨by rfl, ?_⟩) hHeld ?_ ?_
                                  rotate_left
                                  · intro w' s0
                                    go_simp
                                    with_reducible rfl
                                  rotate_left
                                  · simp only [Act.put, List.setIfInBounds_toArray, List.set_cons_zero, List.set_cons_succ, i64_w, i32_w]
                                    rfl
                                  refine pure_ (i := 7) (N := some 59) (v := ?_) (a' := ?_) #[t_, t_, t_, t_, t_, t_, t_, t_, f_, f_] rfl rfl (any_of HT_.out (by kernel_rfl)) (fun _ _ _ h => h) (Or.inl ⟨by rfl, ?_⟩) ?_ ?_
                                  rotate_left
                                  · intro w'
                                    go_simp
                                    with_reducible rfl
                                  rotate_left
                                  · simp only [Act.put, List.setIfInBounds_toArray, List.set_cons_zero, List.set_cons_succ, i64_w, i32_w]
                                    rfl
                                  refine one_ (i := 8) (N := none) #[t_, t_, t_, t_, t_, t_, t_, t_, t_, f_] rfl rfl (one_of HT_.out (by kernel_rfl)) (by decide) (fun K hK => ?_)
                                  have hs36 : w35.cell? ⟨gb948, 0, none⟩ = some (.int .i64 x949000_3) := (blk_cell BK948.out 0).trans rfl
                                  have hfs36 := blk_frozen BK948.out 0
                                  have hs37 : w35.cell? ⟨gb948, 1, none⟩ = some (.slice Ao33 x949001_3.length co33) := (blk_cell BK948.out 1).trans rfl
                                  have hfs37 := blk_frozen BK948.out 1
                                  refine skip_ (w1 := ?_) (by rfl) rfl ?_ ?_
                                  rotate_left
                                  · go_simp
                                    rfl
                                  refine hK.out _ _ (((cell_far (p := ⟨gb948, _, none⟩) (by first | exact Kd.own_blk (Kd.R_ne HO_4.out BK948.out (by decide)) | (rw [add_block]; exact Kd.own_blk (Kd.R_ne HO_4.out BK948.out (by decide))) | (show (Addr.add _ _).block ≠ _; rw [add_block]; exact Kd.own_blk (Kd.R_ne HO_4.out BK948.out (by decide))) | (dsimp only; exact Kd.own_blk (Kd.R_ne HO_4.out BK948.out (by decide)))) _).trans (((cell_far (p := ⟨gb948, _, none⟩) (by first | exact Kd.own_blk (Kd.R_ne HO_4.out BK948.out (by decide)) | (rw [add_block]; exact Kd.own_blk (Kd.R_ne HO_4.out BK948.out (by decide))) | (show (Addr.add _ _).block ≠ _; rw [add_block]; exact Kd.own_blk (Kd.R_ne HO_4.out BK948.out (by decide))) | (dsimp only; exact Kd.own_blk (Kd.R_ne HO_4.out BK948.out (by decide)))) _).trans (hHeld))))) (fun hHeld => ?_)
                                  clear hK K
                                  refine pure_ (i := 9) (N := some 8) (v := ?_) (a' := ?_) #[t_, t_, t_, t_, t_, t_, t_, t_, t_, t_] rfl rfl (any_of HT_.out (by kernel_rfl)) (fun _ _ _ h => h) (Or.inl ⟨by rfl, ?_⟩) ?_ ?_
                                  rotate_left
                                  · intro w'
                                    go_simp
                                    with_reducible rfl
                                  rotate_left
                                  · simp only [Act.put, List.setIfInBounds_toArray, List.set_cons_zero, List.set_cons_succ, i64_w, i32_w]
                                    rfl
                                  refine done_ (done_of HT_.out (by kernel_rfl)) ?_
                                  try go_wp2
                                  go_roundg k3
                                  case measure => have := HJ1.out; have := HK2.out; have := HK3.out; omega
                                  case rel => exact ⟨(wrap64 ((rd x4_2 x32_3) + 1)), (wrap64 (x32_3 + 1)), (x32_3), (t957), (.slice Ao31 t957.length co31), (by first | rfl | (simp; done) | (simp [*]; done)), (by first | rfl | (simp; done) | (simp [*]; done)), H', ⟨by have := HJ1.out; have := HK2.out; have := HK3.out; omega⟩, ⟨by (with_reducible repeat (first | apply Kd.S_alloc | apply Kd.S_drewN | apply Kd.S_drew)); exact Kd.S_mono (Kd.S_far (p := ⟨gb948, 1, none⟩) (Kd.S_far (p := ⟨gb948, 0, none⟩) (Kd.S_mono HO_3.out (fun k_ hk => (⟨hk, hk.1.2⟩ : _ ∧ k_ ≠ gb948))) (fun _ hk => hk.2) (.int .i64 x32_3)) (fun _ hk => hk.2) (.slice Ao31 t957.length co31)) (fun _ hk => ⟨⟨hk.1.2, hk.1.1.1.2⟩, hk.1.1.2⟩)⟩, ⟨by (with_reducible repeat (first | apply Kd.R_alloc | apply Kd.R_drewN | apply Kd.R_drew)); exact Kd.R_mono (Kd.R_far (p := ⟨gb948, 1, none⟩) (Kd.R_far (p := ⟨gb948, 0, none⟩) (Kd.R_types HO_4.out BK948.out (by decide)) (fun _ hk => hk.2) (.int .i64 x32_3)) (fun _ hk => hk.2) (.slice Ao31 t957.length co31)) (fun _ hk => trivial)⟩, ⟨by (with_reducible repeat (first | apply Kd.S_alloc | apply Kd.S_drewN | apply Kd.S_drew)); exact Kd.S_mono (Kd.S_far (p := ⟨gb948, 1, none⟩) (Kd.S_far (p := ⟨gb948, 0, none⟩) (Kd.S_types HO959.out BK948.out (by decide)) (fun _ hk => hk.2) (.int .i64 x32_3)) (fun _ hk => hk.2) (.slice Ao31 t957.length co31)) (fun _ hk => hk.1.1)⟩, ⟨by (with_reducible repeat (first | refine blk_drewN ?_ _ | refine blk_drew ?_ | refine blk_alloc ?_ _)); refine blk_put (cs := #[.int .i64 x32_3, .slice Ao33 x949001_3.length co33]) ?_ 1 _ rfl; (with_reducible repeat (first | refine blk_drewN ?_ _ | refine blk_drew ?_ | refine blk_alloc ?_ _)); refine blk_put (cs := #[.int .i64 x949000_3, .slice Ao33 x949001_3.length co33]) ?_ 0 _ rfl; (with_reducible repeat (first | refine blk_drewN ?_ _ | refine blk_drew ?_ | refine blk_alloc ?_ _)); exact BK948.out⟩, ⟨by repeat (first | (with_reducible first | exact HB.out | apply below_alloc | apply pw_below_drewN | apply below_drew1 | refine below_set ?_ GE948.out) | exact HB.out)⟩⟩
                                · rw [if_neg c27] at H
                                  have c27b0 : decide (t960 < t961) = false := decide_eq_false c27
                                  clear c27
                                  have H' := Aside0.mk H
                                  clear H
                                  obtain ⟨Ao38, co38, eo38⟩ := Kd.R_slice HO_4.out
                                  subst eo38
                                  have p955 : 0 ≤ (x32_3 : Int) := of_decide_eq_true (by assumption)
                                  have q955 : x32_3 < (x4_2.length : Int) := of_decide_eq_true (by assumption)
                                  obtain ⟨ad955, e955, hx955_0⟩ := Kd.at_int (Kd.R_reads' HO_4.out).2.2 x32_3 p955 q955
                                  cases e955
                                  replace p955 := eq_true p955
                                  replace q955 := eq_true q955
                                  have p956 : 0 ≤ (x32_3 : Int) := of_decide_eq_true (by assumption)
                                  have q956 : x32_3 < (l0.length : Int) := of_decide_eq_true (by assumption)
                                  obtain ⟨ad956, A956_0, c956_0, e956, hx956_0, hl956_0, hi956_0⟩ := at_L2 HR0.out x32_3 p956 q956
                                  obtain rfl : ad944 = ad956 := (by injection e956)
                                  replace hx956_0 := (HB.out.cell (World.block_lt_of_cell? w _ hx956_0)).trans hx956_0
                                  have HR956_0 := Aside0.mk hi956_0
                                  have HC956_0 := Aside0.mk hl956_0
                                  clear hi956_0 hl956_0
                                  replace p956 := eq_true p956
                                  replace q956 := eq_true q956
                                  try go_wp2_with (first | ((with_reducible refine gate_callee (f := 70) rfl ?_); refine goesL_ (some 45) rfl rfl Try.func70 (by kernel_rfl) rfl #[.slice A956_0 (rd_L2 l0 x32_3).length c956_0, .slice A944_0 (rd_L2 l0 x23_2).length c944_0] rfl (by (try simp only [List.map_toArray, List.map_cons, List.map_nil]); first | done | rfl | (simp only [List.length_drop, List.length_take]; rfl)) ?_; (with_reducible refine (impl_deltaOf.calls k3 _ _ (rd_L2 l0 x32_3) (fun k_ => k_ < w.heap.size) _ _ (rd_L2 l0 x23_2) t957 _ ?side1 ?side2 ?side3 A24.out).mono ?_); (case side1 => repeat (first | exact (Kd.C_below HR956_0.out HB.out) | (with_reducible refine Kd.C_alloc ?_ _) | (with_reducible refine Kd.C_drewN ?_ _) | (with_reducible refine Kd.C_drew ?_))); (case side2 => exact HC956_0.out); (case side3 => exact Kd.V_mk HC944_0.out (Kd.F_below (Kd.C_F Kd.heap_string HR944_0.out) (by repeat (first | (with_reducible first | exact HB.out | apply below_alloc | apply pw_below_drewN | apply below_drew1 | refine below_set ?_ GE948.out) | exact HB.out)))); rintro e w39 ⟨v958, rfl, ho0, hb⟩; refine ⟨_, rfl, ?_⟩; have n0_ := Aside0.mk (Kd.S_elder' (by (with_reducible repeat (first | apply Kd.S_alloc | apply Kd.S_drewN | apply Kd.S_drew)); exact HO_3.out) (Kd.S_base ho0) hb); have n1_ := Aside0.mk (Kd.R_below (by (with_reducible repeat (first | apply Kd.R_alloc | apply Kd.R_drewN | apply Kd.R_drew)); exact HO_4.out) hb); have n2_ := Aside0.mk (Kd.S_elder' (by (with_reducible repeat (first | apply Kd.S_alloc | apply Kd.S_drewN | apply Kd.S_drew)); exact HO_949001.out) (Kd.S_base ho0) hb); have n3_ := Aside0.mk (Kd.S_lower (Kd.S_new' (Kd.S_mono (ok' := fun k_ => N_ ≤ k_) ho0 (fun _ hk_ => Nat.le_trans HGN.out (Nat.le_trans (Nat.le_of_lt (blk_lt (by (with_reducible repeat (first | refine blk_drewN ?_ _ | refine blk_drew ?_ | refine blk_alloc ?_ _)); exact BK948.out))) hk_))) (Kd.S_lt (by (with_reducible repeat (first | apply Kd.S_alloc | apply Kd.S_drewN | apply Kd.S_drew)); exact HO_949001.out))) (below_size (by repeat (first | (with_reducible first | exact HB.out | apply below_alloc | apply pw_below_drewN | apply below_drew1 | refine below_set ?_ GE948.out) | exact HB.out)))); have n4_ := Aside0.mk (blk_below (g := gb948) (o := .cells #[.int .i64 x949000_3, u949001] 53 (0, 0)) (by (with_reducible repeat (first | refine blk_drewN ?_ _ | refine blk_drew ?_ | refine blk_alloc ?_ _)); exact BK948.out) hb); have n5_ := Aside0.mk (below_step (by repeat (first | (with_reducible first | exact HB.out | apply below_alloc | apply pw_below_drewN | apply below_drew1 | refine below_set ?_ GE948.out) | exact HB.out)) hb); clear HO_3; clear HO_4; clear HO_949001; clear BK948; clear HB; have HO_3 := n0_; have HO_4 := n1_; have HO_949001 := n2_; have HO959 := n3_; have BK948 := n4_; have HB := n5_; clear n0_ n1_ n2_ n3_ n4_ n5_; (try clear hb); (try clear hb2); (try clear hk); (try clear hi); (try clear ho0)))
                                  have n0_ := Aside0.mk (Kd.S_drew HO_3.out)
                                  have n1_ := Aside0.mk (Kd.R_drew HO_4.out)
                                  have n2_ := Aside0.mk (Kd.S_drew HO_949001.out)
                                  have n3_ := Aside0.mk (Kd.S_drew HO959.out)
                                  have n4_ := Aside0.mk (blk_drew BK948.out)
                                  have n5_ := Aside0.mk (below_drew1 HB.out)
                                  clear HO_3
                                  clear HO_4
                                  clear HO_949001
                                  clear HO959
                                  clear BK948
                                  clear HB
                                  have HO_3 := n0_
                                  have HO_4 := n1_
                                  have HO_949001 := n2_
                                  have HO959 := n3_
                                  have BK948 := n4_
                                  have HB := n5_
                                  clear n0_ n1_ n2_ n3_ n4_ n5_
                                  obtain ⟨Ao41, co41, eo41⟩ := Kd.S_slice HO959.out
                                  (first | subst eo41 | (injection eo41 with f1_ f2_ f3_; have f4_ := f1_.symm; have f5_ := f3_.symm; clear f1_ f2_ f3_; subst f4_; subst f5_))
                                  refine start_ (n := 6) (S := fun w' => w'.cell? ⟨gb948, 0, none⟩ = some (.int .i64 x949000_3) ∧ w'.cell? ⟨gb948, 1, none⟩ = some (u949001)) (ds := []) #[f_, f_, f_, f_, f_, f_] (by kernel_rfl) rfl rfl ⟨(blk_cell BK948.out 0).trans rfl, (blk_cell BK948.out 1).trans rfl⟩ (fun hHeld => ?_)
                                  generalize w39.drew = w40 at HO_3 HO_4 HO_949001 HO959 BK948 HB hHeld ⊢
                                  refine pure_ (i := 0) (N := some 46) (v := ?_) (a' := ?_) #[t_, f_, f_, f_, f_, f_] rfl rfl (by kernel_rfl) (fun _ _ _ h => h) (Or.inl ⟨by rfl, ?_⟩) ?_ ?_
                                  rotate_left
                                  · intro w'
                                    go_simp
                                    with_reducible rfl
                                  rotate_left
                                  · simp only [Act.put, List.setIfInBounds_toArray, List.set_cons_zero, List.set_cons_succ, i64_w, i32_w]
                                    rfl
                                  refine pure_ (i := 2) (N := some 48) (v := ?_) (a' := ?_) #[t_, f_, t_, f_, f_, f_] rfl rfl (by kernel_rfl) (fun _ _ _ h => h) (Or.inl ⟨by rfl, ?_⟩) ?_ ?_
                                  rotate_left
                                  · intro w'
                                    go_simp
                                    with_reducible rfl
                                  rotate_left
                                  · simp only [Act.put, List.setIfInBounds_toArray, List.set_cons_zero, List.set_cons_succ, i64_w, i32_w]
                                    rfl
                                  refine take_ (i := 3) (N := some 49) (v := ?_) (a' := ?_) #[t_, f_, t_, t_, f_, f_] rfl rfl (by kernel_rfl) (fun _ _ _ h => h) (Or.inl ⟨by rfl, ?_⟩) hHeld ?_ ?_
                                  rotate_left
                                  · rintro w' ⟨s0, s1⟩
                                    go_simp
                                    with_reducible rfl
                                  rotate_left
                                  · simp only [Act.put, List.setIfInBounds_toArray, List.set_cons_zero, List.set_cons_succ, i64_w, i32_w]
                                    rfl
                                  refine one_ (i := 1) (N := some 47) #[t_, t_, t_, t_, f_, f_] rfl rfl (by kernel_rfl) (by decide) (fun K hK => ?_)
                                  refine goes_ Try.func89 (by kernel_rfl) rfl #[.slice Ao41 t957.length co41] (by rfl) rfl rfl (by (try simp only [List.map_toArray, List.map_cons, List.map_nil]); first | done | rfl | (simp only [List.length_drop, List.length_take]; rfl)) ?_
                                  with_reducible refine (impl_deltaSize.calls k3 _ _ t957 t960 _ ?side1 ?side2 A25.out).mono ?_
                                  (case side1 => repeat (first | exact (Kd.S_reads' HO959.out).2.2 | (with_reducible refine Kd.C_alloc ?_ _) | (with_reducible refine Kd.C_drewN ?_ _) | (with_reducible refine Kd.C_drew ?_)))
                                  (case side2 => exact (Kd.S_reads' HO959.out).2.1)
                                  rintro e w42 ⟨rfl, hb⟩
                                  refine ⟨_, rfl, ?_⟩
                                  have n0_ := Aside0.mk (Kd.S_below (by (with_reducible repeat (first | apply Kd.S_alloc | apply Kd.S_drewN | apply Kd.S_drew)); exact HO_3.out) hb)
                                  have n1_ := Aside0.mk (Kd.R_below (by (with_reducible repeat (first | apply Kd.R_alloc | apply Kd.R_drewN | apply Kd.R_drew)); exact HO_4.out) hb)
                                  have n2_ := Aside0.mk (Kd.S_below (by (with_reducible repeat (first | apply Kd.S_alloc | apply Kd.S_drewN | apply Kd.S_drew)); exact HO_949001.out) hb)
                                  have n3_ := Aside0.mk (Kd.S_below (by (with_reducible repeat (first | apply Kd.S_alloc | apply Kd.S_drewN | apply Kd.S_drew)); exact HO959.out) hb)
                                  have n4_ := Aside0.mk (blk_below (g := gb948) (o := .cells #[.int .i64 x949000_3, u949001] 53 (0, 0)) (by (with_reducible repeat (first | refine blk_drewN ?_ _ | refine blk_drew ?_ | refine blk_alloc ?_ _)); exact BK948.out) hb)
                                  have n5_ := Aside0.mk (below_step (by repeat (first | (with_reducible first | exact HB.out | apply below_alloc | apply pw_below_drewN | apply below_drew1 | refine below_set ?_ GE948.out) | exact HB.out)) hb)
                                  clear HO_3
                                  clear HO_4
                                  clear HO_949001
                                  clear HO959
                                  clear BK948
                                  clear HB
                                  have HO_3 := n0_
                                  have HO_4 := n1_
                                  have HO_949001 := n2_
                                  have HO959 := n3_
                                  have BK948 := n4_
                                  have HB := n5_
                                  clear n0_ n1_ n2_ n3_ n4_ n5_
                                  (try clear hb)
                                  (try clear hb2)
                                  (try clear hk)
                                  (try clear hi)
                                  obtain ⟨Ao43, co43, eo43⟩ := Kd.S_slice HO_949001.out
                                  (first | subst eo43 | (injection eo43 with f1_ f2_ f3_; have f4_ := f1_.symm; have f5_ := f3_.symm; clear f1_ f2_ f3_; subst f4_; subst f5_))
                                  refine hK.out _ _ ⟨(blk_cell BK948.out 0).trans rfl, (blk_cell BK948.out 1).trans rfl⟩ (fun hHeld => ?_)
                                  clear hK K
                                  refine norm_ (a' := ?_) ?_ ?_
                                  rotate_left
                                  · show Act.put _ (some 47) _ = _
                                    simp only [Act.put, List.setIfInBounds_toArray, List.set_cons_zero, List.set_cons_succ, i64_w, i32_w]
                                    rfl
                                  refine one_ (i := 4) (N := some 50) #[t_, t_, t_, t_, t_, f_] rfl rfl (by kernel_rfl) (by decide) (fun K hK => ?_)
                                  refine goes_ Try.func89 (by kernel_rfl) rfl #[.slice Ao43 x949001_3.length co43] (by rfl) rfl rfl (by (try simp only [List.map_toArray, List.map_cons, List.map_nil]); first | done | rfl | (simp only [List.length_drop, List.length_take]; rfl)) ?_
                                  with_reducible refine (impl_deltaSize.calls k3 _ _ x949001_3 t961 _ ?side1 ?side2 A26.out).mono ?_
                                  (case side1 => repeat (first | exact (Kd.S_reads' HO_949001.out).2.2 | (with_reducible refine Kd.C_alloc ?_ _) | (with_reducible refine Kd.C_drewN ?_ _) | (with_reducible refine Kd.C_drew ?_)))
                                  (case side2 => exact (Kd.S_reads' HO_949001.out).2.1)
                                  rintro e w44 ⟨rfl, hb⟩
                                  refine ⟨_, rfl, ?_⟩
                                  have n0_ := Aside0.mk (Kd.S_below (by (with_reducible repeat (first | apply Kd.S_alloc | apply Kd.S_drewN | apply Kd.S_drew)); exact HO_3.out) hb)
                                  have n1_ := Aside0.mk (Kd.R_below (by (with_reducible repeat (first | apply Kd.R_alloc | apply Kd.R_drewN | apply Kd.R_drew)); exact HO_4.out) hb)
                                  have n2_ := Aside0.mk (Kd.S_below (by (with_reducible repeat (first | apply Kd.S_alloc | apply Kd.S_drewN | apply Kd.S_drew)); exact HO_949001.out) hb)
                                  have n3_ := Aside0.mk (Kd.S_below (by (with_reducible repeat (first | apply Kd.S_alloc | apply Kd.S_drewN | apply Kd.S_drew)); exact HO959.out) hb)
                                  have n4_ := Aside0.mk (blk_below (g := gb948) (o := .cells #[.int .i64 x949000_3, .slice Ao43 x949001_3.length co43] 53 (0, 0)) (by (with_reducible repeat (first | refine blk_drewN ?_ _ | refine blk_drew ?_ | refine blk_alloc ?_ _)); exact BK948.out) hb)
                                  have n5_ := Aside0.mk (below_step (by repeat (first | (with_reducible first | exact HB.out | apply below_alloc | apply pw_below_drewN | apply below_drew1 | refine below_set ?_ GE948.out) | exact HB.out)) hb)
                                  clear HO_3
                                  clear HO_4
                                  clear HO_949001
                                  clear HO959
                                  clear BK948
                                  clear HB
                                  have HO_3 := n0_
                                  have HO_4 := n1_
                                  have HO_949001 := n2_
                                  have HO959 := n3_
                                  have BK948 := n4_
                                  have HB := n5_
                                  clear n0_ n1_ n2_ n3_ n4_ n5_
                                  (try clear hb)
                                  (try clear hb2)
                                  (try clear hk)
                                  (try clear hi)
                                  refine hK.out _ _ ⟨(blk_cell BK948.out 0).trans rfl, (blk_cell BK948.out 1).trans rfl⟩ (fun hHeld => ?_)
                                  clear hK K
                                  refine norm_ (a' := ?_) ?_ ?_
                                  rotate_left
                                  · show Act.put _ (some 50) _ = _
                                    simp only [Act.put, List.setIfInBounds_toArray, List.set_cons_zero, List.set_cons_succ, i64_w, i32_w]
                                    rfl
                                  refine pure_ (i := 5) (N := some 51) (v := ?_) (a' := ?_) #[t_, t_, t_, t_, t_, t_] rfl rfl (by kernel_rfl) (fun _ _ _ h => h) (Or.inl ⟨by rfl, ?_⟩) ?_ ?_
                                  rotate_left
                                  · intro w'
                                    go_simp
                                    with_reducible rfl
                                  rotate_left
                                  · simp only [Act.put, List.setIfInBounds_toArray, List.set_cons_zero, List.set_cons_succ, i64_w, i32_w]
                                    rfl
                                  refine done_ (by kernel_rfl) ?_
                                  try go_wp2
                                  go_roundg k3
                                  case measure => have := HJ1.out; have := HK2.out; have := HK3.out; omega
                                  case rel => exact ⟨(x8_3), (wrap64 (x32_3 + 1)), (x949000_3), (x949001_3), (.slice Ao43 x949001_3.length co43), (by first | rfl | (simp; done) | (simp [*]; done)), (by first | rfl | (simp; done) | (simp [*]; done)), H', ⟨by have := HJ1.out; have := HK2.out; have := HK3.out; omega⟩, ⟨by (with_reducible repeat (first | apply Kd.S_alloc | apply Kd.S_drewN | apply Kd.S_drew)); exact Kd.S_mono HO_3.out (fun _ hk => ⟨hk.1.1, hk.1.2⟩)⟩, ⟨by (with_reducible repeat (first | apply Kd.R_alloc | apply Kd.R_drewN | apply Kd.R_drew)); exact HO_4.out⟩, ⟨by (with_reducible repeat (first | apply Kd.S_alloc | apply Kd.S_drewN | apply Kd.S_drew)); exact Kd.S_mono HO_949001.out (fun _ hk => hk.1)⟩, ⟨by (with_reducible repeat (first | refine blk_drewN ?_ _ | refine blk_drew ?_ | refine blk_alloc ?_ _)); exact BK948.out⟩, ⟨by repeat (first | (with_reducible first | exact HB.out | apply below_alloc | apply pw_below_drewN | apply below_drew1 | refine below_set ?_ GE948.out) | exact HB.out)⟩⟩
                              · rw [if_neg c23] at H
                                exact absurd H (by simp)
                          · rw [if_neg c20] at H
                            exact absurd H (by simp)
                        · rw [if_neg c19] at H
                          exact absurd H (by simp)
                      · rw [if_neg c18] at H
                        have c18b0 : decide (x32_3 < x23_2) = false := decide_eq_false c18
                        clear c18
                        by_cases c45 : x3_2.length < 4398046511104
                        · rw [if_pos c45] at H
                          have LMc45 := Aside0.mk c45
                          clear c45
                          obtain ⟨y949, hy949⟩ : ∃ y_ : List (S53), y_ = (x3_2 ++ [(⟨x949000_3, x949001_3⟩ : S53)]) := ⟨_, rfl⟩
                          replace H : (if x4_2.length < 17592186044416 then (impl_PackOf.l0 k3 l0 y949 (x4_2 ++ [x8_3]) l0 (l0.length : Int) (wrap64 (x23_2 + 1))) else (none)) = some r := by first | (rw [hy949]; with_reducible exact H) | (have H2_ := (Option.bind_some _ _).symm.trans H; rw [hy949]; with_reducible exact H2_) | (have H2_ := (Option.bind_some _ _).symm.trans H; with_reducible exact H2_) | with_reducible exact H | (rw [hy949]; exact H) | exact H
                          have Ny949 := Aside0.mk hy949
                          clear hy949
                          by_cases c46 : x4_2.length < 17592186044416
                          · rw [if_pos c46] at H
                            have LMc46 := Aside0.mk c46
                            clear c46
                            obtain ⟨y952, hy952⟩ : ∃ y_ : List Int, y_ = (x4_2 ++ [x8_3]) := ⟨_, rfl⟩
                            replace H : (impl_PackOf.l0 k3 l0 y949 y952 l0 (l0.length : Int) (wrap64 (x23_2 + 1))) = some r := by first | (rw [hy952]; with_reducible exact H) | (have H2_ := (Option.bind_some _ _).symm.trans H; rw [hy952]; with_reducible exact H2_) | (have H2_ := (Option.bind_some _ _).symm.trans H; with_reducible exact H2_) | with_reducible exact H | (rw [hy952]; exact H) | exact H
                            have Ny952 := Aside0.mk hy952
                            clear hy952
                            have H' := Aside0.mk H
                            clear H
                            have hcz47_0 : wr.cell? ⟨gb948, 0, none⟩ = some (.int .i64 x949000_3) := (blk_cell BK948.out 0).trans rfl
                            have hcz47_1 : wr.cell? ⟨gb948, 1, none⟩ = some (u949001) := (blk_cell BK948.out 1).trans rfl
                            have hfz47_0 := blk_frozen BK948.out 0
                            have hfz47_1 := blk_frozen BK948.out 1
                            obtain ⟨Ao49, co49, eo49⟩ := Kd.S_slice HO_949001.out
                            subst eo49
                            go_wp2_with (first | ((with_reducible refine gate_builtin (b := .append) (xs := #[.tmp 61, .tmp 63]) rfl ?_); at_builtin; refine Kd.S_append kPQ (w0 := w) w.heap.size rfl (.tmp 61) (.tmp 63) 47 53 (.agg #[(.int .i64 0), (.slice none 0 0)]) 32 rfl Try.underlying47 info53 rfl (by decide) (by omega) u3 x3_2 (⟨x949000_3, x949001_3⟩ : S53) [.int .i64 x949000_3, .slice Ao49 x949001_3.length co49] (fun k_ => k_ ≠ gb948) (fun k_ => N_ ≤ k_ ∧ (k_ ≠ gb948 ∧ some k_ ≠ (u3 : Value).ownBlock)) rfl rfl ?aP (fun k_ hk_ => hk_.2) ?aF ?aO ?aB ?aS ?aL ?_; (case aP => exact kPQ_mkM (x := (⟨x949000_3, x949001_3⟩ : S53)) (Kd.S_mono (ok' := fun k_ => N_ ≤ k_ ∧ (k_ ≠ gb948 ∧ some k_ ≠ (u3 : Value).ownBlock)) (Kd.S_types (Kd.S_apart' (HO_949001.out) (Kd.S_typed HO_3.out) (by decide)) BK948.out (by decide)) (fun k_ hk => ⟨hk.1.1, hk.2, hk.1.2⟩))); (case aB => exact (by repeat (first | (with_reducible first | exact HB.out | apply below_alloc | apply pw_below_drewN | apply below_drew1 | refine below_set ?_ GE948.out) | exact HB.out))); (case aF => exact (fun k_ hk => Kd.freshB (g := gb948) (o := .cells #[.int .i64 x949000_3, .slice Ao49 x949001_3.length co49] 53 (0, 0)) (by (with_reducible repeat (first | refine blk_drewN ?_ _ | refine blk_drew ?_ | refine blk_alloc ?_ _)); exact BK948.out) k_ hk)); (case aO => exact (by (with_reducible repeat (first | apply Kd.S_alloc | apply Kd.S_drewN | apply Kd.S_drew)); exact Kd.S_mono HO_3.out (fun k_ hk => ⟨hk.2, fun e_ => absurd hk.1.2 (Nat.not_lt.mpr e_.1)⟩))); (case aS => exact (below_size (by repeat (first | (with_reducible first | exact HB.out | apply below_alloc | apply pw_below_drewN | apply below_drew1 | refine below_set ?_ GE948.out) | exact HB.out)))); (case aL => have := LMc45.out; omega); intro v950 w48 ho hb hg hat; rw [← Ny949.out] at ho; have n0_ := Aside0.mk (Kd.R_over' (by (with_reducible repeat (first | apply Kd.R_alloc | apply Kd.R_drewN | apply Kd.R_drew)); exact HO_4.out) (Kd.S_typed (by (with_reducible repeat (first | apply Kd.S_alloc | apply Kd.S_drewN | apply Kd.S_drew)); exact HO_3.out)) (by decide) hg); have n1_ := Aside0.mk (blk_grown (g := gb948) (o := .cells #[.int .i64 x949000_3, .slice Ao49 x949001_3.length co49] 53 (0, 0)) (by (with_reducible repeat (first | refine blk_drewN ?_ _ | refine blk_drew ?_ | refine blk_alloc ?_ _)); exact BK948.out) hg (Kd.S_away HO_3.out (fun _ hk => hk.2))); have n2_ := Aside0.mk (hb); have n3_ := Aside0.mk (ho); clear HO_4; clear BK948; clear HB; clear HO_3; clear HO_949001; have HO_4 := n0_; have BK948 := n1_; have HB := n2_; have HO951 := n3_; clear n0_ n1_ n2_ n3_; clear ho hb hg hat) | ((with_reducible refine gate_builtin (b := .append) (xs := #[.tmp 65, .tmp 67]) rfl ?_); at_builtin; refine Kd.R_append (Kd.int .i64) (w0 := w) w.heap.size rfl (.tmp 65) (.tmp 67) 89 3 (.int .i64 0) 8 rfl Try.underlying89 info3 rfl (by decide) (by omega) u4 x4_2 x8_3 [.int .i64 x8_3] (fun _ => True) (fun _ => False) rfl rfl ?aP (fun _ hk => hk.elim) ?aF ?aO ?aB ?aS ?aL ?_; (case aP => exact rfl); (case aB => exact (by repeat (first | (with_reducible first | exact HB.out | apply below_alloc | apply pw_below_drewN | apply below_drew1 | refine below_set ?_ GE948.out) | exact HB.out))); (case aF => exact (fun _ _ => trivial)); (case aO => exact (by (with_reducible repeat (first | apply Kd.R_alloc | apply Kd.R_drewN | apply Kd.R_drew)); exact HO_4.out)); (case aS => exact (below_size (by repeat (first | (with_reducible first | exact HB.out | apply below_alloc | apply pw_below_drewN | apply below_drew1 | refine below_set ?_ GE948.out) | exact HB.out)))); (case aL => have := LMc46.out; omega); intro v953 w50 ho hb hg hat; rw [← Ny952.out] at ho; have n0_ := Aside0.mk (blk_grown (g := gb948) (o := .cells #[.int .i64 x949000_3, .slice Ao49 x949001_3.length co49] 53 (0, 0)) (by (with_reducible repeat (first | refine blk_drewN ?_ _ | refine blk_drew ?_ | refine blk_alloc ?_ _)); exact BK948.out) hg (Kd.R_ne HO_4.out BK948.out (by decide))); have n1_ := Aside0.mk (Kd.S_over' (by (with_reducible repeat (first | apply Kd.S_alloc | apply Kd.S_drewN | apply Kd.S_drew)); exact HO951.out) (Kd.R_typed (by (with_reducible repeat (first | apply Kd.R_alloc | apply Kd.R_drewN | apply Kd.R_drew)); exact HO_4.out)) (by decide) hg); have n2_ := Aside0.mk (hb); have n3_ := Aside0.mk (ho); clear BK948; clear HO951; clear HB; clear HO_4; have BK948 := n0_; have HO951 := n1_; have HB := n2_; have HO954 := n3_; clear n0_ n1_ n2_ n3_; clear ho hb hg hat))
                            go_roundg k3
                            case measure => have := HJ1.out; have := HK2.out; have := HK3.out; omega
                            case rel => exact ⟨(y949), (y952), (wrap64 (x23_2 + 1)), (by first | rfl | (simp; done) | (simp [*]; done)), H', ⟨by have := HJ1.out; have := HK2.out; have := HK3.out; omega⟩, ⟨by (with_reducible repeat (first | apply Kd.S_alloc | apply Kd.S_drewN | apply Kd.S_drew)); exact Kd.S_mono HO951.out (fun _ hk => trivial)⟩, ⟨by (with_reducible repeat (first | apply Kd.R_alloc | apply Kd.R_drewN | apply Kd.R_drew)); exact HO954.out⟩, ⟨by repeat (first | (with_reducible first | exact HB.out | apply below_alloc | apply pw_below_drewN | apply below_drew1 | refine below_set ?_ GE948.out) | exact HB.out)⟩⟩
                          · rw [if_neg c46] at H
                            exact absurd H (by simp)
                        · rw [if_neg c45] at H
                          exact absurd H (by simp)
                · rw [if_neg c12] at H
                  exact absurd H (by simp)
              · rw [if_neg c11] at H
                exact absurd H (by simp)
            · rw [if_neg c10] at H
              have c10b0 : decide (x23_2 < (l0.length : Int)) = false := decide_eq_false c10
              clear c10
              obtain rfl := Option.some.inj H
              go_wp2
              go_ret
              exact ⟨_, by first | rfl | (simp <;> rfl) | (simp [*] <;> rfl), by (with_reducible repeat (first | apply Kd.S_alloc | apply Kd.S_drewN | apply Kd.S_drew)); exact HO_3.out, by repeat (first | (with_reducible first | exact HB.out | apply below_alloc | apply pw_below_drewN | apply below_drew1) | exact HB.out)⟩
end Go.Proofs.Ytfnhjaiioojbkaa.Q
end
section
namespace Go.Proofs.Ytfnhjaiioojbkaa.Q
open Go.RowKit Go.Proofs.YtfnhjaiioojbkaaW.PrintWords Go.Proofs.YtfnhjaiioojbkaaW.PrintLast Go.Proofs.YtfnhjaiioojbkaaW.PrintMore
attribute [local go_sem] max2_int min2_int max_two min_two max_three min_three max_four min_four
set_option linter.unusedVariables false
set_option linter.unusedSimpArgs false
theorem cnD_bigT : ∀ (l : List Dl), (∀ x ∈ l, x.f2.length ≤ 1000000) → cnD l ≤ 1000002 * l.length
  | [], _ => by simp [cnD]
  | x :: t, h => by
    have h1 := h x List.mem_cons_self
    have h2 := cnD_bigT t (fun y hy => h y (List.mem_cons_of_mem _ hy))
    simp only [cnD, List.length_cons]; omega
theorem cnP_bigT : ∀ (l : List Pk), (∀ x ∈ l, x.f1.length ≤ 1000000 ∧ ∀ y ∈ x.f1, y.f2.length ≤ 1000000) → cnP l ≤ 1000002000001 * l.length
  | [], _ => by simp [cnP]
  | x :: t, h => by
    have h1 := h x List.mem_cons_self
    have h2 := cnP_bigT t (fun y hy => h y (List.mem_cons_of_mem _ hy))
    have h3 := cnD_bigT x.f1 h1.2
    have h4 := h1.1
    simp only [cnP, List.length_cons]; omega
theorem cnSS_big : ∀ (l : List Tx), (∀ x ∈ l, x.length ≤ 1000000) → cnSS l ≤ 1000000 * l.length
  | [], _ => by simp [cnSS]
  | x :: t, h => by
    have h1 := h x List.mem_cons_self
    have h2 := cnSS_big t (fun y hy => h y (List.mem_cons_of_mem _ hy))
    simp only [cnSS, List.length_cons]; omega
set_option maxHeartbeats 3000000 in
set_option maxRecDepth 100000 in
theorem fnExactPackOf_walk (A0 : Option Addr) (c0 : Nat) (l0 : List Tx) (w : World) (hr0 : Kd.C kTT w A0 l0.length l0) (hc0 : l0.length ≤ c0) (hb0 : BigT l0) :
    Calls Try.prog 12 #[.slice A0 l0.length c0] w fun e w' => e = .returned (.bool true) ∧ Below w.heap.size w w' := by
  obtain ⟨z0, ⟨kz0, hz0⟩, za1, za2, za3⟩ := szT_ev hb0 (a := 1000000) (by omega) (by omega)
  have HZ0 := Aside0.mk (hz0 kz0 (Nat.le_refl _))
  have HR0 := Aside0.mk hr0
  have HC0 := Aside0.mk hc0
  have HB := Aside0.mk (Below.refl w.heap.size w)
  have HZ := Aside0.mk (Nat.le_refl w.heap.size)
  clear hz0 hr0 hc0 hb0
  by_cases cz0 : z0 < 0
  · have cb : decide (z0 < 0) = true := decide_eq_true cz0
    clear cz0 za1 za2 za3
    go_enter Try.func12, Try.ntmps12
    go_wp2_with (first | ((with_reducible refine gate_callee (f := 53) rfl ?_); (try (refine gate_guard (by rfl) ?_; dsimp only)); refine goesL_ (some 13) rfl rfl Try.func53 (by kernel_rfl) rfl #[.slice A0 l0.length c0, .int .i64 1000000] rfl (by (try simp only [List.map_toArray, List.map_cons, List.map_nil]); first | done | rfl) ?_; (refine ((laws_szStringSS.calls kz0 _ _ l0 1000000 z0 _ (by exact Kd.C_below HR0.out (by repeat (first | (with_reducible first | exact HB.out | apply below_alloc | apply pw_below_drewN | apply below_drew1) | exact HB.out))) HC0.out HZ0.out).mono (fun e w' h => (⟨h.1, h.2.below⟩ : _ ∧ Below _ _ w'))).mono ?_); rintro e w1 ⟨rfl, hb⟩; refine ⟨_, rfl, ?_⟩; have nb_ := Aside0.mk (below_step (by repeat (first | (with_reducible first | exact HB.out | apply below_alloc | apply pw_below_drewN | apply below_drew1) | exact HB.out)) hb); have nz_ := Aside0.mk (Nat.le_trans (by exact HZ.out) (below_size hb)); clear HB HZ; have HB := nb_; have HZ := nz_; clear nb_ nz_ hb))
    go_ret
    exact ⟨rfl, HB.out⟩
  · have cb0 : decide (z0 < 0) = false := decide_eq_false cz0
    have Sm0 := Aside0.mk (za3 (by omega))
    clear cz0 za1 za2 za3
    obtain ⟨R, hR⟩ : ∃ R, packB l0 = R := ⟨_, rfl⟩
    obtain ⟨k1, h1⟩ := specPack_ev l0 Sm0.out.2
    obtain ⟨k2, h2⟩ := implPack_ev l0 Sm0.out.2
    have hRl := packB_len l0
    have hRo := packB_ok l0
    rw [hR] at h1 h2 hRl hRo
    have H1 := Aside0.mk (h1 k1 (Nat.le_refl _))
    have H2 := Aside0.mk (h2 k2 (Nat.le_refl _))
    clear hR h1 h2
    have hRd : ∀ x ∈ R, x.f1.length ≤ 1000000 ∧ ∀ y ∈ x.f1, y.f2.length ≤ 1000000 := fun x hx => ⟨(deltaB_Sm (hRo x hx)).1, fun y hy => ((deltaB_Sm (hRo x hx)).2 y hy).1⟩
    obtain ⟨ke, he⟩ := eqP_refl R (by omega) (fun x hx => ⟨by have := (hRd x hx).1; omega, fun y hy => by have := (hRd x hx).2 y hy; omega⟩)
    have HE := Aside0.mk (he ke (Nat.le_refl _))
    obtain ⟨mt, hmt⟩ := exists_mt
    have HMt := Aside0.mk hmt
    have HN0 := Aside0.mk (show FulN (fulSS false l0).1.length l0.length by
      rw [fulSS_false]
      exact ⟨by simp, Sm0.out.1⟩)
    have HEl0 := Aside0.mk (show ∀ i : Nat, i < l0.length → FulN (rd_SS (fulSS false l0).1 i).1.length (rd_SS (fulSS false l0).1 i).2 from fun i hi => rdSS_ful l0 Sm0.out i hi)
    have HQl0 := Aside0.mk (spareT_ev l0 Sm0.out)
    have hl0 := Sm0.out.1
    have hcs := cnSS_big l0 (fun x hx => (Sm0.out.2 x hx).1)
    have nns := cnSS_nn l0
    obtain ⟨k1_, hk1⟩ : ∃ k, 101 + cnSS l0 = k := ⟨_, rfl⟩
    obtain ⟨XP_, hXP⟩ : ∃ X, mkSS mt l0 101 = X := ⟨_, rfl⟩
    have HXPe := Aside0.mk hXP
    clear hXP
    have HMb := Aside0.mk (show 101 + cnSS l0 ≤ 4000000000000000000 ∧ 101 + cnSS l0 = k1_ from ⟨by omega, hk1⟩)
    have hcn := cnP_bigT R hRd
    have nn := cnP_nn R
    obtain ⟨m_, hm_⟩ : ∃ m, 101 + cnP R = m := ⟨_, rfl⟩
    have HGb := Aside0.mk (show R.length ≤ 1000000 ∧ (∀ x ∈ R, x.f1.length ≤ 1000000) ∧ 101 + cnP R ≤ 4000000000000000000 ∧ 101 + cnP R = m_ from ⟨by omega, fun x hx => (hRd x hx).1, by omega, hm_⟩)
    obtain ⟨kh, hh⟩ := heldP_ev hmt R 101 (by decide) (by omega) (fun x hx => by have := (hRd x hx).1; omega) (by omega)
    have hxl := mkP_len mt R 101
    obtain ⟨XG_, hXG⟩ : ∃ X, mkP mt R 101 = X := ⟨_, rfl⟩
    rw [hXG] at hh hxl
    have HXe := Aside0.mk hXG
    have HXl := Aside0.mk hxl
    rw [hm_] at hh
    have HH := Aside0.mk (hh kh (Nat.le_refl _))
    have e1 : decide (k1_ < 0) = false := decide_eq_false (by omega)
    have e2 : decide (m_ < 0) = false := decide_eq_false (by omega)
    have e3 : (m_ != m_) = false := by simp
    clear hk1 hXG he hRl hRo hRd hcs nns hcn nn hm_ hh hmt hl0 hxl
    go_enter Try.func12, Try.ntmps12
    go_wp2_with (first | ((with_reducible refine gate_callee (f := 53) rfl ?_); (try (refine gate_guard (by rfl) ?_; dsimp only)); refine goesL_ (some 13) rfl rfl Try.func53 (by kernel_rfl) rfl #[.slice A0 l0.length c0, .int .i64 1000000] rfl (by (try simp only [List.map_toArray, List.map_cons, List.map_nil]); first | done | rfl) ?_; (refine ((laws_szStringSS.calls kz0 _ _ l0 1000000 z0 _ (by exact Kd.C_below HR0.out (by repeat (first | (with_reducible first | exact HB.out | apply below_alloc | apply pw_below_drewN | apply below_drew1) | exact HB.out))) HC0.out HZ0.out).mono (fun e w' h => (⟨h.1, h.2.below⟩ : _ ∧ Below _ _ w'))).mono ?_); rintro e w1 ⟨rfl, hb⟩; refine ⟨_, rfl, ?_⟩; have nb_ := Aside0.mk (below_step (by repeat (first | (with_reducible first | exact HB.out | apply below_alloc | apply pw_below_drewN | apply below_drew1) | exact HB.out)) hb); have nz_ := Aside0.mk (Nat.le_trans (by exact HZ.out) (below_size hb)); clear HB HZ; have HB := nb_; have HZ := nz_; clear nb_ nz_ hb) | ((with_reducible refine gate_callee (f := 54) rfl ?_); (try (refine gate_guard (by rfl) ?_; dsimp only)); refine goesL_ (some 17) rfl rfl Try.func54 (by kernel_rfl) rfl #[.slice A0 l0.length c0, .bool false] rfl (by (try simp only [List.map_toArray, List.map_cons, List.map_nil]); first | done | rfl) ?_; (refine (toSSm A0 c0 l0 false _ (by exact Kd.C_below HR0.out (by repeat (first | (with_reducible first | exact HB.out | apply below_alloc | apply pw_below_drewN | apply below_drew1) | exact HB.out))) Sm0.out).mono ?_); rintro e w1 ⟨A_s0, c_s0, rfl, hl_, hrow_, hf_, hb⟩; refine ⟨_, rfl, ?_⟩; have nb_ := Aside0.mk (below_step (by repeat (first | (with_reducible first | exact HB.out | apply below_alloc | apply pw_below_drewN | apply below_drew1) | exact HB.out)) hb); obtain ⟨lo_s0, hi_s0, ord_, hz_, row_⟩ := S_span hrow_ (by exact HZ.out) (below_size (by repeat (first | (with_reducible first | exact HB.out | apply below_alloc | apply pw_below_drewN | apply below_drew1) | exact HB.out))) (below_size hb); have O_s0 := Aside0.mk ord_; have nz_ := Aside0.mk hz_; have n_s0 := Aside0.mk row_; clear HB HZ; have r_s0 := n_s0; clear n_s0; have L_s0 := Aside0.mk hl_; have HB := nb_; have HZ := nz_; clear nb_ nz_ hb) | ((with_reducible refine gate_callee (f := 49) rfl ?_); (try (refine gate_guard (by rfl) ?_; dsimp only)); refine goesL_ (some 18) rfl rfl Try.func49 (by kernel_rfl) rfl #[.slice A_s0 l0.length c_s0] rfl (by (try simp only [List.map_toArray, List.map_cons, List.map_nil]); first | done | rfl) ?_; (refine (spec_PackOf.calls k1 _ _ l0 R _ ((Kd.S_reads' (by (with_reducible repeat (first | apply Kd.S_alloc | apply Kd.S_drewN | apply Kd.S_drew)); exact r_s0.out)).2.2) L_s0.out H1.out).mono ?_); rintro e w1 ⟨v_w0, rfl, hrow_, hb⟩; refine ⟨_, rfl, ?_⟩; clear r_s0; have nb_ := Aside0.mk (below_step (by repeat (first | (with_reducible first | exact HB.out | apply below_alloc | apply pw_below_drewN | apply below_drew1) | exact HB.out)) hb); obtain ⟨lo_w0, hi_w0, ord_, hz_, row_⟩ := S_span hrow_ (by exact HZ.out) (below_size (by repeat (first | (with_reducible first | exact HB.out | apply below_alloc | apply pw_below_drewN | apply below_drew1) | exact HB.out))) (below_size hb); have O_w0 := Aside0.mk ord_; have nz_ := Aside0.mk hz_; have n_w0 := Aside0.mk row_; clear HB HZ; have r_w0 := n_w0; clear n_w0; have HB := nb_; have HZ := nz_; clear nb_ nz_ hb; obtain ⟨A_w0, c_w0, ev_⟩ := Kd.S_slice r_w0.out; subst ev_; have L_w0 := Aside0.mk (Kd.S_reads' r_w0.out).2.1) | ((with_reducible refine gate_callee (f := 54) rfl ?_); (try (refine gate_guard (by rfl) ?_; dsimp only)); refine goesL_ (some 20) rfl rfl Try.func54 (by kernel_rfl) rfl #[.slice A0 l0.length c0, .bool false] rfl (by (try simp only [List.map_toArray, List.map_cons, List.map_nil]); first | done | rfl) ?_; (refine (toSSm A0 c0 l0 false _ (by exact Kd.C_below HR0.out (by repeat (first | (with_reducible first | exact HB.out | apply below_alloc | apply pw_below_drewN | apply below_drew1) | exact HB.out))) Sm0.out).mono ?_); rintro e w1 ⟨A_x0, c_x0, rfl, hl_, hrow_, hf_, hb⟩; refine ⟨_, rfl, ?_⟩; have nb_ := Aside0.mk (below_step (by repeat (first | (with_reducible first | exact HB.out | apply below_alloc | apply pw_below_drewN | apply below_drew1) | exact HB.out)) hb); have n_w0 := Aside0.mk (Kd.S_below (by (with_reducible repeat (first | apply Kd.S_alloc | apply Kd.S_drewN | apply Kd.S_drew)); exact r_w0.out) hb); obtain ⟨lo_x0, hi_x0, ord_, hz_, row_⟩ := S_span hrow_ (by exact HZ.out) (below_size (by repeat (first | (with_reducible first | exact HB.out | apply below_alloc | apply pw_below_drewN | apply below_drew1) | exact HB.out))) (below_size hb); have O_x0 := Aside0.mk ord_; have nz_ := Aside0.mk hz_; have n_x0 := Aside0.mk row_; clear HB HZ; clear r_w0; have r_w0 := n_w0; clear n_w0; have r_x0 := n_x0; clear n_x0; have L_x0 := Aside0.mk hl_; have F_x0 := Aside0.mk (hf_ rfl).1; have G_x0 := Aside0.mk (hf_ rfl).2; have HB := nb_; have HZ := nz_; clear nb_ nz_ hb) | ((with_reducible refine gate_callee (f := 47) rfl ?_); (try (refine gate_guard (by rfl) ?_; dsimp only)); refine goesL_ (some 22) rfl rfl Try.func47 (by kernel_rfl) rfl #[.slice A_x0 l0.length c_x0] rfl (by (try simp only [List.map_toArray, List.map_cons, List.map_nil]); first | done | rfl) ?_; (refine (implPackOfS_calls k2 _ _ l0 R _ ((Kd.S_reads' (by (with_reducible repeat (first | apply Kd.S_alloc | apply Kd.S_drewN | apply Kd.S_drew)); exact r_x0.out)).2.2) L_x0.out H2.out).mono ?_); rintro e w1 ⟨v_g0, rfl, hrow_, hb⟩; refine ⟨_, rfl, ?_⟩; have nb_ := Aside0.mk (below_step (by repeat (first | (with_reducible first | exact HB.out | apply below_alloc | apply pw_below_drewN | apply below_drew1) | exact HB.out)) hb); have n_w0 := Aside0.mk (Kd.S_below (by (with_reducible repeat (first | apply Kd.S_alloc | apply Kd.S_drewN | apply Kd.S_drew)); exact r_w0.out) hb); have n_x0 := Aside0.mk (Kd.S_below (by (with_reducible repeat (first | apply Kd.S_alloc | apply Kd.S_drewN | apply Kd.S_drew)); exact r_x0.out) hb); have nF_x0 := Aside0.mk (Kd.C_below (by repeat (first | (with_reducible exact F_x0.out) | (with_reducible refine Kd.C_alloc ?_ _) | (with_reducible refine Kd.C_drewN ?_ _) | (with_reducible refine Kd.C_drew ?_) | exact F_x0.out)) hb); obtain ⟨lo_g0, hi_g0, ord_, hz_, row_⟩ := S_span hrow_ (by exact HZ.out) (below_size (by repeat (first | (with_reducible first | exact HB.out | apply below_alloc | apply pw_below_drewN | apply below_drew1) | exact HB.out))) (below_size hb); have O_g0 := Aside0.mk ord_; have nz_ := Aside0.mk hz_; have n_g0 := Aside0.mk row_; clear HB HZ; clear r_w0; have r_w0 := n_w0; clear n_w0; clear r_x0; have r_x0 := n_x0; clear n_x0; clear F_x0; have F_x0 := nF_x0; clear nF_x0; have r_g0 := n_g0; clear n_g0; have HB := nb_; have HZ := nz_; clear nb_ nz_ hb; obtain ⟨A_g0, c_g0, ev_⟩ := Kd.S_slice r_g0.out; subst ev_; have L_g0 := Aside0.mk (Kd.S_reads' r_g0.out).2.1) | ((with_reducible refine gate_callee (f := 55) rfl ?_); (try (refine gate_guard (by rfl) ?_; dsimp only)); refine goesL_ (some 25) rfl rfl Try.func55 (by kernel_rfl) rfl #[.slice A_g0 R.length c_g0, .slice A_w0 R.length c_w0] rfl (by (try simp only [List.map_toArray, List.map_cons, List.map_nil]); first | done | rfl) ?_; (refine (laws_eqPackedS.calls ke _ _ R _ _ R true _ (C_PQ ((Kd.S_reads' (by (with_reducible repeat (first | apply Kd.S_alloc | apply Kd.S_drewN | apply Kd.S_drew)); exact r_g0.out)).2.2)) L_g0.out ((Kd.S_reads' (by (with_reducible repeat (first | apply Kd.S_alloc | apply Kd.S_drewN | apply Kd.S_drew)); exact r_w0.out)).2.2) L_w0.out HE.out).mono ?_); rintro e w1 ⟨rfl, hb⟩; refine ⟨_, rfl, ?_⟩; have nb_ := Aside0.mk (below_step (by repeat (first | (with_reducible first | exact HB.out | apply below_alloc | apply pw_below_drewN | apply below_drew1) | exact HB.out)) hb); have n_w0 := Aside0.mk (Kd.S_below (by (with_reducible repeat (first | apply Kd.S_alloc | apply Kd.S_drewN | apply Kd.S_drew)); exact r_w0.out) hb); have n_x0 := Aside0.mk (Kd.S_below (by (with_reducible repeat (first | apply Kd.S_alloc | apply Kd.S_drewN | apply Kd.S_drew)); exact r_x0.out) hb); have n_g0 := Aside0.mk (Kd.S_below (by (with_reducible repeat (first | apply Kd.S_alloc | apply Kd.S_drewN | apply Kd.S_drew)); exact r_g0.out) hb); have nF_x0 := Aside0.mk (Kd.C_below (by repeat (first | (with_reducible exact F_x0.out) | (with_reducible refine Kd.C_alloc ?_ _) | (with_reducible refine Kd.C_drewN ?_ _) | (with_reducible refine Kd.C_drew ?_) | exact F_x0.out)) hb); have nz_ := Aside0.mk (Nat.le_trans (by exact HZ.out) (below_size hb)); clear HB HZ; clear r_w0; have r_w0 := n_w0; clear n_w0; clear r_x0; have r_x0 := n_x0; clear n_x0; clear r_g0; have r_g0 := n_g0; clear n_g0; clear F_x0; have F_x0 := nF_x0; clear nF_x0; have HB := nb_; have HZ := nz_; clear nb_ nz_ hb) | ((with_reducible refine gate_callee (f := 54) rfl ?_); (try (refine gate_guard (by rfl) ?_; dsimp only)); refine goesL_ (some 29) rfl rfl Try.func54 (by kernel_rfl) rfl #[.slice A0 l0.length c0, .bool false] rfl (by (try simp only [List.map_toArray, List.map_cons, List.map_nil]); first | done | rfl) ?_; (refine (toSSm A0 c0 l0 false _ (by exact Kd.C_below HR0.out (by repeat (first | (with_reducible first | exact HB.out | apply below_alloc | apply pw_below_drewN | apply below_drew1) | exact HB.out))) Sm0.out).mono ?_); rintro e w1 ⟨A_y0, c_y0, rfl, hl_, hrow_, hf_, hb⟩; refine ⟨_, rfl, ?_⟩; have nb_ := Aside0.mk (below_step (by repeat (first | (with_reducible first | exact HB.out | apply below_alloc | apply pw_below_drewN | apply below_drew1) | exact HB.out)) hb); have n_w0 := Aside0.mk (Kd.S_below (by (with_reducible repeat (first | apply Kd.S_alloc | apply Kd.S_drewN | apply Kd.S_drew)); exact r_w0.out) hb); have n_x0 := Aside0.mk (Kd.S_below (by (with_reducible repeat (first | apply Kd.S_alloc | apply Kd.S_drewN | apply Kd.S_drew)); exact r_x0.out) hb); have n_g0 := Aside0.mk (Kd.S_below (by (with_reducible repeat (first | apply Kd.S_alloc | apply Kd.S_drewN | apply Kd.S_drew)); exact r_g0.out) hb); have nF_x0 := Aside0.mk (Kd.C_below (by repeat (first | (with_reducible exact F_x0.out) | (with_reducible refine Kd.C_alloc ?_ _) | (with_reducible refine Kd.C_drewN ?_ _) | (with_reducible refine Kd.C_drew ?_) | exact F_x0.out)) hb); obtain ⟨lo_y0, hi_y0, ord_, hz_, row_⟩ := S_span hrow_ (by exact HZ.out) (below_size (by repeat (first | (with_reducible first | exact HB.out | apply below_alloc | apply pw_below_drewN | apply below_drew1) | exact HB.out))) (below_size hb); have O_y0 := Aside0.mk ord_; have nz_ := Aside0.mk hz_; have n_y0 := Aside0.mk row_; clear HB HZ; clear r_w0; have r_w0 := n_w0; clear n_w0; clear r_x0; have r_x0 := n_x0; clear n_x0; clear r_g0; have r_g0 := n_g0; clear n_g0; clear F_x0; have F_x0 := nF_x0; clear nF_x0; have r_y0 := n_y0; clear n_y0; have L_y0 := Aside0.mk hl_; have F_y0 := Aside0.mk (hf_ rfl).1; have G_y0 := Aside0.mk (hf_ rfl).2; have HB := nb_; have HZ := nz_; clear nb_ nz_ hb) | ((with_reducible refine gate_callee (f := 56) rfl ?_); (try (refine gate_guard (by rfl) ?_; dsimp only)); refine goesL_ (some 30) rfl rfl Try.func56 (by kernel_rfl) rfl #[.slice A_x0 l0.length c_x0, .slice A_y0 l0.length c_y0] rfl (by (try simp only [List.map_toArray, List.map_cons, List.map_nil]); first | done | rfl) ?_; (refine ((intSS_calls _ _ _ _ (fulSS false l0).1 l0.length _ (by repeat (first | (with_reducible exact F_x0.out) | (with_reducible refine Kd.C_alloc ?_ _) | (with_reducible refine Kd.C_drewN ?_ _) | (with_reducible refine Kd.C_drew ?_) | exact F_x0.out)) G_x0.out (by repeat (first | (with_reducible exact F_y0.out) | (with_reducible refine Kd.C_alloc ?_ _) | (with_reducible refine Kd.C_drewN ?_ _) | (with_reducible refine Kd.C_drew ?_) | exact F_y0.out)) G_y0.out HN0.out HEl0.out HQl0.out).mono (fun e w' h => (⟨h.1, h.2.below⟩ : _ ∧ Below _ _ w'))).mono ?_); rintro e w1 ⟨rfl, hb⟩; refine ⟨_, rfl, ?_⟩; clear r_y0; have nb_ := Aside0.mk (below_step (by repeat (first | (with_reducible first | exact HB.out | apply below_alloc | apply pw_below_drewN | apply below_drew1) | exact HB.out)) hb); have n_w0 := Aside0.mk (Kd.S_below (by (with_reducible repeat (first | apply Kd.S_alloc | apply Kd.S_drewN | apply Kd.S_drew)); exact r_w0.out) hb); have n_x0 := Aside0.mk (Kd.S_below (by (with_reducible repeat (first | apply Kd.S_alloc | apply Kd.S_drewN | apply Kd.S_drew)); exact r_x0.out) hb); have n_g0 := Aside0.mk (Kd.S_below (by (with_reducible repeat (first | apply Kd.S_alloc | apply Kd.S_drewN | apply Kd.S_drew)); exact r_g0.out) hb); have nF_x0 := Aside0.mk (Kd.C_below (by repeat (first | (with_reducible exact F_x0.out) | (with_reducible refine Kd.C_alloc ?_ _) | (with_reducible refine Kd.C_drewN ?_ _) | (with_reducible refine Kd.C_drew ?_) | exact F_x0.out)) hb); have nz_ := Aside0.mk (Nat.le_trans (by exact HZ.out) (below_size hb)); clear HB HZ; clear r_w0; have r_w0 := n_w0; clear n_w0; clear r_x0; have r_x0 := n_x0; clear n_x0; clear r_g0; have r_g0 := n_g0; clear n_g0; clear F_x0; have F_x0 := nF_x0; clear nF_x0; have HB := nb_; have HZ := nz_; clear nb_ nz_ hb) | ((with_reducible refine gate_callee (f := 57) rfl ?_); (try (refine gate_guard (by rfl) ?_; dsimp only)); refine goesL_ (some 34) rfl rfl Try.func57 (by kernel_rfl) rfl #[.slice A_x0 l0.length c_x0, .int .i64 101] rfl (by (try simp only [List.map_toArray, List.map_cons, List.map_nil]); first | done | rfl) ?_; (refine (markSSp HMt.out (fun k_ => lo_x0 ≤ k_ ∧ k_ < hi_x0) (.slice A_x0 l0.length c_x0) l0 101 k1_ w _ (by repeat (first | (with_reducible first | exact HB.out | apply below_alloc | apply pw_below_drewN | apply below_drew1) | exact HB.out)) (by (with_reducible repeat (first | apply Kd.S_alloc | apply Kd.S_drewN | apply Kd.S_drew)); exact r_x0.out) (by decide) Sm0.out.1 HMb.out.1 HMb.out.2 XP_ HXPe.out).mono ?_); rintro e w1 ⟨rfl, hr, hb, hk⟩; refine ⟨_, rfl, ?_⟩; have nb_ := Aside0.mk hb; have nz_ := Aside0.mk (Nat.le_trans HZ.out hk.1); have n_w0 := Aside0.mk (Kd.S_kept (by (with_reducible repeat (first | apply Kd.S_alloc | apply Kd.S_drewN | apply Kd.S_drew)); exact r_w0.out) hk (fun k_ h_ s_ => by have := O_s0.out; have := O_w0.out; have := O_x0.out; have := O_g0.out; have := O_y0.out; omega)); have n_g0 := Aside0.mk (Kd.S_kept (by (with_reducible repeat (first | apply Kd.S_alloc | apply Kd.S_drewN | apply Kd.S_drew)); exact r_g0.out) hk (fun k_ h_ s_ => by have := O_s0.out; have := O_w0.out; have := O_x0.out; have := O_g0.out; have := O_y0.out; omega)); clear r_x0 hr; clear F_x0 G_x0; clear HB HZ; clear r_w0; have r_w0 := n_w0; clear n_w0; clear r_g0; have r_g0 := n_g0; clear n_g0; have HB := nb_; have HZ := nz_; clear nb_ nz_ hb hk) | ((with_reducible refine gate_callee (f := 55) rfl ?_); (try (refine gate_guard (by rfl) ?_; dsimp only)); refine goesL_ (some 40) rfl rfl Try.func55 (by kernel_rfl) rfl #[.slice A_g0 R.length c_g0, .slice A_w0 R.length c_w0] rfl (by (try simp only [List.map_toArray, List.map_cons, List.map_nil]); first | done | rfl) ?_; (refine (laws_eqPackedS.calls ke _ _ R _ _ R true _ (C_PQ ((Kd.S_reads' (by (with_reducible repeat (first | apply Kd.S_alloc | apply Kd.S_drewN | apply Kd.S_drew)); exact r_g0.out)).2.2)) L_g0.out ((Kd.S_reads' (by (with_reducible repeat (first | apply Kd.S_alloc | apply Kd.S_drewN | apply Kd.S_drew)); exact r_w0.out)).2.2) L_w0.out HE.out).mono ?_); rintro e w1 ⟨rfl, hb⟩; refine ⟨_, rfl, ?_⟩; have nb_ := Aside0.mk (below_step (by repeat (first | (with_reducible first | exact HB.out | apply below_alloc | apply pw_below_drewN | apply below_drew1) | exact HB.out)) hb); have n_w0 := Aside0.mk (Kd.S_below (by (with_reducible repeat (first | apply Kd.S_alloc | apply Kd.S_drewN | apply Kd.S_drew)); exact r_w0.out) hb); have n_g0 := Aside0.mk (Kd.S_below (by (with_reducible repeat (first | apply Kd.S_alloc | apply Kd.S_drewN | apply Kd.S_drew)); exact r_g0.out) hb); have nz_ := Aside0.mk (Nat.le_trans (by exact HZ.out) (below_size hb)); clear HB HZ; clear r_w0; have r_w0 := n_w0; clear n_w0; clear r_g0; have r_g0 := n_g0; clear n_g0; have HB := nb_; have HZ := nz_; clear nb_ nz_ hb) | ((with_reducible refine gate_callee (f := 58) rfl ?_); (try (refine gate_guard (by rfl) ?_; dsimp only)); refine goesL_ (some 45) rfl rfl Try.func58 (by kernel_rfl) rfl #[.slice A_g0 R.length c_g0, .int .i64 101] rfl (by (try simp only [List.map_toArray, List.map_cons, List.map_nil]); first | done | rfl) ?_; (refine (markPSp HMt.out (fun k_ => lo_g0 ≤ k_ ∧ k_ < hi_g0) (.slice A_g0 R.length c_g0) R 101 m_ w _ (by repeat (first | (with_reducible first | exact HB.out | apply below_alloc | apply pw_below_drewN | apply below_drew1) | exact HB.out)) (by (with_reducible repeat (first | apply Kd.S_alloc | apply Kd.S_drewN | apply Kd.S_drew)); exact r_g0.out) (by decide) HGb.out.1 HGb.out.2.1 HGb.out.2.2.1 HGb.out.2.2.2 XG_ HXe.out).mono ?_); rintro e w1 ⟨rfl, hr, hb, hk⟩; refine ⟨_, rfl, ?_⟩; have nb_ := Aside0.mk hb; have nz_ := Aside0.mk (Nat.le_trans HZ.out hk.1); have n_w0 := Aside0.mk (Kd.S_kept (by (with_reducible repeat (first | apply Kd.S_alloc | apply Kd.S_drewN | apply Kd.S_drew)); exact r_w0.out) hk (fun k_ h_ s_ => by have := O_s0.out; have := O_w0.out; have := O_x0.out; have := O_g0.out; have := O_y0.out; omega)); have n_g0 := Aside0.mk hr; clear HB HZ; clear r_w0; have r_w0 := n_w0; clear n_w0; clear r_g0; have r_g0 := n_g0; clear n_g0; have HB := nb_; have HZ := nz_; clear nb_ nz_ hb hk) | ((with_reducible refine gate_callee (f := 59) rfl ?_); (try (refine gate_guard (by rfl) ?_; dsimp only)); refine goesL_ (some 48) rfl rfl Try.func59 (by kernel_rfl) rfl #[.slice A_g0 R.length c_g0, .int .i64 101] rfl (by (try simp only [List.map_toArray, List.map_cons, List.map_nil]); first | done | rfl) ?_; (refine (heldPp kh A_g0 c_g0 XG_ R.length 101 m_ _ HXl.out (C_PQ ((Kd.S_reads' (by (with_reducible repeat (first | apply Kd.S_alloc | apply Kd.S_drewN | apply Kd.S_drew)); exact r_g0.out)).2.2)) L_g0.out HH.out).mono ?_); rintro e w1 ⟨rfl, hb⟩; refine ⟨_, rfl, ?_⟩; have nb_ := Aside0.mk (below_step (by repeat (first | (with_reducible first | exact HB.out | apply below_alloc | apply pw_below_drewN | apply below_drew1) | exact HB.out)) hb); have n_w0 := Aside0.mk (Kd.S_below (by (with_reducible repeat (first | apply Kd.S_alloc | apply Kd.S_drewN | apply Kd.S_drew)); exact r_w0.out) hb); have n_g0 := Aside0.mk (Kd.S_below (by (with_reducible repeat (first | apply Kd.S_alloc | apply Kd.S_drewN | apply Kd.S_drew)); exact r_g0.out) hb); have nz_ := Aside0.mk (Nat.le_trans (by exact HZ.out) (below_size hb)); clear HB HZ; clear r_w0; have r_w0 := n_w0; clear n_w0; clear r_g0; have r_g0 := n_g0; clear n_g0; have HB := nb_; have HZ := nz_; clear nb_ nz_ hb) | ((with_reducible refine gate_callee (f := 54) rfl ?_); (try (refine gate_guard (by rfl) ?_; dsimp only)); refine goesL_ (some 55) rfl rfl Try.func54 (by kernel_rfl) rfl #[.slice A0 l0.length c0, .bool true] rfl (by (try simp only [List.map_toArray, List.map_cons, List.map_nil]); first | done | rfl) ?_; (refine (toSSm A0 c0 l0 true _ (by exact Kd.C_below HR0.out (by repeat (first | (with_reducible first | exact HB.out | apply below_alloc | apply pw_below_drewN | apply below_drew1) | exact HB.out))) Sm0.out).mono ?_); rintro e w1 ⟨A_t0, c_t0, rfl, hl_, hrow_, hf_, hb⟩; refine ⟨_, rfl, ?_⟩; have nb_ := Aside0.mk (below_step (by repeat (first | (with_reducible first | exact HB.out | apply below_alloc | apply pw_below_drewN | apply below_drew1) | exact HB.out)) hb); have n_w0 := Aside0.mk (Kd.S_below (by (with_reducible repeat (first | apply Kd.S_alloc | apply Kd.S_drewN | apply Kd.S_drew)); exact r_w0.out) hb); have n_g0 := Aside0.mk (Kd.S_below (by (with_reducible repeat (first | apply Kd.S_alloc | apply Kd.S_drewN | apply Kd.S_drew)); exact r_g0.out) hb); obtain ⟨lo_t0, hi_t0, ord_, hz_, row_⟩ := S_span hrow_ (by exact HZ.out) (below_size (by repeat (first | (with_reducible first | exact HB.out | apply below_alloc | apply pw_below_drewN | apply below_drew1) | exact HB.out))) (below_size hb); have O_t0 := Aside0.mk ord_; have nz_ := Aside0.mk hz_; have n_t0 := Aside0.mk row_; clear HB HZ; clear r_w0; have r_w0 := n_w0; clear n_w0; clear r_g0; have r_g0 := n_g0; clear n_g0; have r_t0 := n_t0; clear n_t0; have L_t0 := Aside0.mk hl_; have HB := nb_; have HZ := nz_; clear nb_ nz_ hb) | ((with_reducible refine gate_callee (f := 47) rfl ?_); (try (refine gate_guard (by rfl) ?_; dsimp only)); refine goesL_ (some 56) rfl rfl Try.func47 (by kernel_rfl) rfl #[.slice A_t0 l0.length c_t0] rfl (by (try simp only [List.map_toArray, List.map_cons, List.map_nil]); first | done | rfl) ?_; (refine (implPackOfS_calls k2 _ _ l0 R _ ((Kd.S_reads' (by (with_reducible repeat (first | apply Kd.S_alloc | apply Kd.S_drewN | apply Kd.S_drew)); exact r_t0.out)).2.2) L_t0.out H2.out).mono ?_); rintro e w1 ⟨v_h0, rfl, hrow_, hb⟩; refine ⟨_, rfl, ?_⟩; clear r_t0; have nb_ := Aside0.mk (below_step (by repeat (first | (with_reducible first | exact HB.out | apply below_alloc | apply pw_below_drewN | apply below_drew1) | exact HB.out)) hb); have n_w0 := Aside0.mk (Kd.S_below (by (with_reducible repeat (first | apply Kd.S_alloc | apply Kd.S_drewN | apply Kd.S_drew)); exact r_w0.out) hb); have n_g0 := Aside0.mk (Kd.S_below (by (with_reducible repeat (first | apply Kd.S_alloc | apply Kd.S_drewN | apply Kd.S_drew)); exact r_g0.out) hb); obtain ⟨lo_h0, hi_h0, ord_, hz_, row_⟩ := S_span hrow_ (by exact HZ.out) (below_size (by repeat (first | (with_reducible first | exact HB.out | apply below_alloc | apply pw_below_drewN | apply below_drew1) | exact HB.out))) (below_size hb); have O_h0 := Aside0.mk ord_; have nz_ := Aside0.mk hz_; have n_h0 := Aside0.mk row_; clear HB HZ; clear r_w0; have r_w0 := n_w0; clear n_w0; clear r_g0; have r_g0 := n_g0; clear n_g0; have r_h0 := n_h0; clear n_h0; have HB := nb_; have HZ := nz_; clear nb_ nz_ hb; obtain ⟨A_h0, c_h0, ev_⟩ := Kd.S_slice r_h0.out; subst ev_; have L_h0 := Aside0.mk (Kd.S_reads' r_h0.out).2.1) | ((with_reducible refine gate_callee (f := 55) rfl ?_); (try (refine gate_guard (by rfl) ?_; dsimp only)); refine goesL_ (some 59) rfl rfl Try.func55 (by kernel_rfl) rfl #[.slice A_h0 R.length c_h0, .slice A_w0 R.length c_w0] rfl (by (try simp only [List.map_toArray, List.map_cons, List.map_nil]); first | done | rfl) ?_; (refine (laws_eqPackedS.calls ke _ _ R _ _ R true _ (C_PQ ((Kd.S_reads' (by (with_reducible repeat (first | apply Kd.S_alloc | apply Kd.S_drewN | apply Kd.S_drew)); exact r_h0.out)).2.2)) L_h0.out ((Kd.S_reads' (by (with_reducible repeat (first | apply Kd.S_alloc | apply Kd.S_drewN | apply Kd.S_drew)); exact r_w0.out)).2.2) L_w0.out HE.out).mono ?_); rintro e w1 ⟨rfl, hb⟩; refine ⟨_, rfl, ?_⟩; have nb_ := Aside0.mk (below_step (by repeat (first | (with_reducible first | exact HB.out | apply below_alloc | apply pw_below_drewN | apply below_drew1) | exact HB.out)) hb); have n_w0 := Aside0.mk (Kd.S_below (by (with_reducible repeat (first | apply Kd.S_alloc | apply Kd.S_drewN | apply Kd.S_drew)); exact r_w0.out) hb); have n_g0 := Aside0.mk (Kd.S_below (by (with_reducible repeat (first | apply Kd.S_alloc | apply Kd.S_drewN | apply Kd.S_drew)); exact r_g0.out) hb); have n_h0 := Aside0.mk (Kd.S_below (by (with_reducible repeat (first | apply Kd.S_alloc | apply Kd.S_drewN | apply Kd.S_drew)); exact r_h0.out) hb); have nz_ := Aside0.mk (Nat.le_trans (by exact HZ.out) (below_size hb)); clear HB HZ; clear r_w0; have r_w0 := n_w0; clear n_w0; clear r_g0; have r_g0 := n_g0; clear n_g0; clear r_h0; have r_h0 := n_h0; clear n_h0; have HB := nb_; have HZ := nz_; clear nb_ nz_ hb) | ((with_reducible refine gate_callee (f := 59) rfl ?_); (try (refine gate_guard (by rfl) ?_; dsimp only)); refine goesL_ (some 63) rfl rfl Try.func59 (by kernel_rfl) rfl #[.slice A_g0 R.length c_g0, .int .i64 101] rfl (by (try simp only [List.map_toArray, List.map_cons, List.map_nil]); first | done | rfl) ?_; (refine (heldPp kh A_g0 c_g0 XG_ R.length 101 m_ _ HXl.out (C_PQ ((Kd.S_reads' (by (with_reducible repeat (first | apply Kd.S_alloc | apply Kd.S_drewN | apply Kd.S_drew)); exact r_g0.out)).2.2)) L_g0.out HH.out).mono ?_); rintro e w1 ⟨rfl, hb⟩; refine ⟨_, rfl, ?_⟩; have nb_ := Aside0.mk (below_step (by repeat (first | (with_reducible first | exact HB.out | apply below_alloc | apply pw_below_drewN | apply below_drew1) | exact HB.out)) hb); have n_w0 := Aside0.mk (Kd.S_below (by (with_reducible repeat (first | apply Kd.S_alloc | apply Kd.S_drewN | apply Kd.S_drew)); exact r_w0.out) hb); have n_g0 := Aside0.mk (Kd.S_below (by (with_reducible repeat (first | apply Kd.S_alloc | apply Kd.S_drewN | apply Kd.S_drew)); exact r_g0.out) hb); have n_h0 := Aside0.mk (Kd.S_below (by (with_reducible repeat (first | apply Kd.S_alloc | apply Kd.S_drewN | apply Kd.S_drew)); exact r_h0.out) hb); have nz_ := Aside0.mk (Nat.le_trans (by exact HZ.out) (below_size hb)); clear HB HZ; clear r_w0; have r_w0 := n_w0; clear n_w0; clear r_g0; have r_g0 := n_g0; clear n_g0; clear r_h0; have r_h0 := n_h0; clear n_h0; have HB := nb_; have HZ := nz_; clear nb_ nz_ hb))
    go_ret
    exact ⟨rfl, HB.out⟩
end Go.Proofs.Ytfnhjaiioojbkaa.Q
end
section
/- FnExactPackOf: for every argument the law returns true, and its arguments read behind the call as they read before. No conditions. -/
namespace Go.Proofs.Ytfnhjaiioojbkaa.fnExactPackOf
open Go.ChangeShapes Go.WideShapes Go.ChangeAt Go.RowKit
set_option linter.unusedVariables false
theorem own : ownKnob Try.prog.godebug = none := by kernel_rfl
theorem laidOut : laidOutB Try.prog = true := by kernel_rfl
set_option maxRecDepth 100000 in
theorem lifted (os : Os) (started : os.Started) (H : Type) (enc : TypeId × Value → H) :
    ReturnsInHanded {} Try.checked os 12 .any (Rows.fnExactPackOfSpec.pre6 enc Try.prog Try.f12 Rows.fnExactPackOfRow.domain false) (Rows.fnExactPackOfSpec.post enc Try.prog Try.f12 false true false false) := by
  refine returnsInHanded_of_change_sized (C := Try.checked) own started (by kernel_rfl) Try.func12
    (ChangeSpec.witness6 (enc := enc) (C := Try.checked) false ⟨#[], #[.slice none 0 0], []⟩ 12 (by kernel_rfl) (by kernel_rfl) (by kernel_rfl) (by kernel_rfl)) ?_
  intro W base args ds gs before hval0 hW hcnd hsz0 _
  have hval : ∀ (j : Nat) t v, Try.f12.params[j]? = some t → args[j]? = some v → Value.okWide Try.prog W .any base t v := hval0
  have hW' := hW
  obtain ⟨p, q, hA0, hV, rfl, hfz, hnd⟩ := hW
  have hA : DataW.TrodAll enc Try.prog W 0 (fun _ => true) true Try.f12.params.toList args.toList ds p := hA0
  rw [Try.params12] at hA hval
  obtain ⟨v0, vs0, d0, ds0, p0, q0, hargs, rfl, rfl, h0, r0⟩ := trodAll_cons hA
  obtain ⟨rfl, rfl, rfl⟩ := trodAll_nil r0
  obtain rfl : args = #[v0] := by cases args; simp_all
  obtain ⟨rfl, rfl⟩ := trodVars_none hV
  obtain ⟨a0, len0, cap0, rfl⟩ := okWide_slice Try.underlying57 (hval 0 57 v0 rfl rfl)
  have k0 := h0
  have lt0 : ∀ x ∈ p0, x.block < W.heap.size := by obtain ⟨m, hm⟩ := k0; exact DataW.trod_lt m _ _ _ hm
  obtain ⟨l0, e0, hc0, hr0, hb0⟩ := Q.opened Q.opens_TT h0
  subst e0
  clear hA0 hval0 hsz0
  refine (Q.fnExactPackOf_walk a0 cap0 l0 W hr0 hc0 hb0).mono fun e W' ⟨he, bel⟩ => ?_
  subst he
  exact ⟨_, rfl, _, _, _, [], _, [], hW', trodAll_mk1 (shut_bool Try.underlying4 _), (trodAll_cons_mk (Below.trod laidOut (by kernel_rfl) (of_decide_eq_true (by kernel_rfl)) k0 bel lt0) trodAll_mk0), rfl, bel.frame _, fun h => by cases h⟩
theorem over : Rows.fnExactPackOfRow.holds Try.pinned (OpenSpec.ofChange Rows.fnExactPackOfSpec) :=
  OpenClaim.holds_of_wide 12 Try.f12 rfl rfl rfl rfl rfl rfl rfl ⟨rfl, rfl, rfl, rfl, rfl⟩ rfl rfl rfl rfl rfl (by kernel_rfl) Try.func12 (by kernel_rfl)
    (of_decide_eq_true (by kernel_rfl)) (by unfold Func.isWrapper; first | (rw [if_pos (by decide +kernel)]; kernel_rfl) | (rw [if_neg (by decide +kernel)]; exact ⟨rfl, rfl⟩))
    (fun os started H enc _ => lifted os started H enc)
theorem proved : Rows.FnExactPackOfSaid := over
#print axioms proved
end Go.Proofs.Ytfnhjaiioojbkaa.fnExactPackOf
namespace Go.Proofs.Ytfnhjaiioojbkaa
/-- The row, under a short name, for the claim. -/
theorem fnExactPackOf_holds : Rows.FnExactPackOfSaid := fnExactPackOf.proved
end Go.Proofs.Ytfnhjaiioojbkaa
end
