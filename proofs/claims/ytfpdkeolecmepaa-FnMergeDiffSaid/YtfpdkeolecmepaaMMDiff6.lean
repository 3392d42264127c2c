/- FnMDiff: for every argument the law returns true, and its arguments read behind the call as they read before. No conditions. -/
import Derived.SizedLaws
import Derived.ChangeSlices
import Derived.Test.YtfpdkeolecmepaaRows
import Derived.WalkKit
import Derived.ProofKit
import Derived.OpenShut
import Derived.ShutString
import Derived.ChangeOld
import Derived.Below
import Derived.Test.YtfpdkeolecmepaaMMDiff0
import Derived.Test.YtfpdkeolecmepaaMMDiff1
import Derived.Test.YtfpdkeolecmepaaMMDiff2
import Derived.Test.YtfpdkeolecmepaaMMDiff3
import Derived.Test.YtfpdkeolecmepaaMMDiff4
import Derived.Test.YtfpdkeolecmepaaMMDiff5
set_option linter.unusedVariables false
set_option linter.unusedSimpArgs false
section
namespace Go.Proofs.Ytfpdkeolecmepaa.Q
open Go.RowKit Go.Proofs.YtfpdkeolecmepaaW.PrintWords Go.Proofs.YtfpdkeolecmepaaW.PrintLast Go.Proofs.YtfpdkeolecmepaaW.PrintMore
attribute [local go_sem] max2_int min2_int max_two min_two max_three min_three max_four min_four   -- for this text's walks alone
set_option linter.unusedVariables false
set_option linter.unusedSimpArgs false
def laws_FnMergeDiff.j0 : Nat → List ByteArray → List ByteArray → List ByteArray → List ByteArray → Bool → List ByteArray → Bool → Bool → Option (Bool)
 | 0, _, _, _, _, _, _, _, _ => none
 | k + 1, x3, x4, x5, x6, x7, x8, x9, x50 => if x50 = true then (if (x7 == x9) = true then ((laws_smTexts.f k x6 x8).bind fun t947 => (some t947)) else (some false)) else ((impl_DiffOf.f k x3 x4).bind fun t948 => ((impl_PatchDo.f k x3 t948).bind fun bt951 => ((impl_MergeText.f k x3 bt951.1 x3).bind fun bt955 => ((impl_DiffMany.f k x3 x6).bind fun t959 => (if bt955.2 = true then ((laws_smTexts.f k bt955.1 x4).bind fun t960 => (if t960 = true then ((impl_DiffMany.f k x3 x4).bind fun t961 => ((impl_DiffMany.f k x3 x5).bind fun t962 => (some (decide (t959 ≤ (wrap64 (t961 + t962))))))) else (some false))) else (some false))))))
def laws_FnMergeDiff.f (k : Nat) (l0 : List Int) : Option (Bool) := if (l0.length : Int) > 1048576 then (some true) else ((spec_DrawMergeText.f k l0).bind fun bt929 => ((impl_MergeText.f k bt929.1 bt929.2.1 bt929.2.2).bind fun bt938 => ((spec_MergeText.f k bt929.1 bt929.2.1 bt929.2.2).bind fun bt942 => (if (bt938.2 != bt942.2) = true then (laws_FnMergeDiff.j0 k bt929.1 bt929.2.1 bt929.2.2 bt938.1 bt938.2 bt942.1 bt942.2 true) else ((laws_smTexts.f k bt938.1 bt942.1).bind fun t946 => (if t946 = true then (laws_FnMergeDiff.j0 k bt929.1 bt929.2.1 bt929.2.2 bt938.1 bt938.2 bt942.1 bt942.2 (!bt938.2)) else (laws_FnMergeDiff.j0 k bt929.1 bt929.2.1 bt929.2.2 bt938.1 bt938.2 bt942.1 bt942.2 true)))))))
set_option maxHeartbeats 8000000 in
set_option maxRecDepth 100000 in
theorem laws_FnMergeDiff.calls (k : Nat) (A0 : Option Addr) (c0 : Nat) (l0 : List Int) (r : Bool) (w : World) (hr0 : Kd.C (Kd.int .u8) w A0 l0.length l0) (hc0 : l0.length ≤ c0) (h : laws_FnMergeDiff.f k l0 = some r) :
 Calls Try.prog 11 #[.slice A0 l0.length c0] w fun e w' => e = .returned (.bool r) ∧ Below w.heap.size w w' := by
 have HR0 := Aside0.mk hr0; have HC0 := Aside0.mk hc0; clear hr0 hc0; have HB := Aside0.mk (Below.refl w.heap.size w); have H : (if (l0.length : Int) > 1048576 then (some true) else ((spec_DrawMergeText.f k l0).bind fun bt929 => ((impl_MergeText.f k bt929.1 bt929.2.1 bt929.2.2).bind fun bt938 => ((spec_MergeText.f k bt929.1 bt929.2.1 bt929.2.2).bind fun bt942 => (if (bt938.2 != bt942.2) = true then (laws_FnMergeDiff.j0 k bt929.1 bt929.2.1 bt929.2.2 bt938.1 bt938.2 bt942.1 bt942.2 true) else ((laws_smTexts.f k bt938.1 bt942.1).bind fun t946 => (if t946 = true then (laws_FnMergeDiff.j0 k bt929.1 bt929.2.1 bt929.2.2 bt938.1 bt938.2 bt942.1 bt942.2 (!bt938.2)) else (laws_FnMergeDiff.j0 k bt929.1 bt929.2.1 bt929.2.2 bt938.1 bt938.2 bt942.1 bt942.2 true)))))))) = some r := h; clear h; by_cases c2 : (l0.length : Int) > 1048576
 ·rw [if_pos c2] at H; have c2b0 : decide (1048576 < (l0.length : Int)) = true := decide_eq_true c2; have c2b1 : decide (1048576 < l0.length) = true := decide_eq_true (by omega); clear c2; obtain rfl := Option.some.inj H; go_enter Try.func11, Try.ntmps11; go_wp2; go_ret; exact ⟨by first | rfl | (simp <;> rfl) | (simp [*] <;> rfl), by repeat (first | (with_reducible first | exact HB.out | apply below_alloc | apply pw_below_drewN | apply below_drew1) | exact HB.out)⟩
 ·rw [if_neg c2] at H; have c2b0 : decide (1048576 < (l0.length : Int)) = false := decide_eq_false c2; have c2b1 : decide (1048576 < l0.length) = false := decide_eq_false (by omega); clear c2; replace H := Option.bind_eq_some_iff.mp H; obtain ⟨⟨t929, t932, t935⟩, A30, H⟩ := H; replace H : ((impl_MergeText.f k t929 t932 t935).bind fun bt938 => ((spec_MergeText.f k t929 t932 t935).bind fun bt942 => (if (bt938.2 != bt942.2) = true then (laws_FnMergeDiff.j0 k t929 t932 t935 bt938.1 bt938.2 bt942.1 bt942.2 true) else ((laws_smTexts.f k bt938.1 bt942.1).bind fun t946 => (if t946 = true then (laws_FnMergeDiff.j0 k t929 t932 t935 bt938.1 bt938.2 bt942.1 bt942.2 (!bt938.2)) else (laws_FnMergeDiff.j0 k t929 t932 t935 bt938.1 bt938.2 bt942.1 bt942.2 true)))))) = some r := H; have A3 := Aside0.mk A30; clear A30; replace H := Option.bind_eq_some_iff.mp H; obtain ⟨⟨t938, t939⟩, A40, H⟩ := H; replace H : ((spec_MergeText.f k t929 t932 t935).bind fun bt942 => (if (t939 != bt942.2) = true then (laws_FnMergeDiff.j0 k t929 t932 t935 t938 t939 bt942.1 bt942.2 true) else ((laws_smTexts.f k t938 bt942.1).bind fun t946 => (if t946 = true then (laws_FnMergeDiff.j0 k t929 t932 t935 t938 t939 bt942.1 bt942.2 (!t939)) else (laws_FnMergeDiff.j0 k t929 t932 t935 t938 t939 bt942.1 bt942.2 true))))) = some r := H; have A4 := Aside0.mk A40; clear A40; replace H := Option.bind_eq_some_iff.mp H; obtain ⟨⟨t942, t943⟩, A50, H⟩ := H; replace H : (if (t939 != t943) = true then (laws_FnMergeDiff.j0 k t929 t932 t935 t938 t939 t942 t943 true) else ((laws_smTexts.f k t938 t942).bind fun t946 => (if t946 = true then (laws_FnMergeDiff.j0 k t929 t932 t935 t938 t939 t942 t943 (!t939)) else (laws_FnMergeDiff.j0 k t929 t932 t935 t938 t939 t942 t943 true)))) = some r := H; have A5 := Aside0.mk A50; clear A50; have HC6 := Aside0.mk H; clear H; go_enter Try.func11, Try.ntmps11; (go_upto_region 6 with (first | ((with_reducible refine gate_callee (f := 24) rfl ?_); refine goesL_ (some 20) rfl rfl Try.func24 (by kernel_rfl) rfl #[.slice A0 l0.length c0] rfl (by (try simp only [List.map_toArray, List.map_cons, List.map_nil]); first | done | rfl | (simp only [List.length_drop, List.length_take]; rfl)) ?_; (with_reducible refine (spec_DrawMergeText.calls k _ _ l0 t929 t932 t935 _ ?side1 ?side2 A3.out).mono ?_); (case side1 => repeat (first | exact HR0.out | (with_reducible refine Kd.C_alloc ?_ _) | (with_reducible refine Kd.C_drewN ?_ _) | (with_reducible refine Kd.C_drew ?_))); (case side2 => exact HC0.out); rintro e w7 ⟨v930, v933, v936, rfl, ho0, ho1, ho2, hb⟩; refine ⟨_, rfl, ?_⟩; have n0_ := Aside0.mk (Kd.R_lower (Kd.R_mono (ok' := fun k_ => True) ho0 (fun _ hk_ => trivial)) (below_size (by repeat (first | (with_reducible first | exact HB.out | apply below_alloc | apply pw_below_drewN | apply below_drew1) | exact HB.out)))); have n1_ := Aside0.mk (Kd.V_lower (Kd.V_mono (ok' := fun k_ => some k_ ≠ (v930 : Value).ownBlock) ho1 (fun k_ hk_ => hk_.2)) (below_size (by repeat (first | (with_reducible first | exact HB.out | apply below_alloc | apply pw_below_drewN | apply below_drew1) | exact HB.out)))); have n2_ := Aside0.mk (Kd.V_lower (Kd.V_mono (ok' := fun k_ => some k_ ≠ (v930 : Value).ownBlock) ho2 (fun k_ hk_ => hk_.2)) (below_size (by repeat (first | (with_reducible first | exact HB.out | apply below_alloc | apply pw_below_drewN | apply below_drew1) | exact HB.out)))); have n3_ := Aside0.mk (below_step (by repeat (first | (with_reducible first | exact HB.out | apply below_alloc | apply pw_below_drewN | apply below_drew1) | exact HB.out)) hb); clear HB; have HO931 := n0_; have HO934 := n1_; have HO937 := n2_; have HB := n3_; clear n0_ n1_ n2_ n3_; (try clear hb); (try clear hb2); (try clear hk); (try clear hi); (try clear ho0); (try clear ho1); (try clear ho2); obtain ⟨Ao8, co8, eo8⟩ := Kd.R_slice HO931.out; subst eo8; obtain ⟨Ao9, co9, eo9⟩ := Kd.V_slice HO934.out; subst eo9; obtain ⟨Ao10, co10, eo10⟩ := Kd.V_slice HO937.out; subst eo10) | ((with_reducible refine gate_callee (f := 25) rfl ?_); refine goesL_ (some 28) rfl rfl Try.func25 (by kernel_rfl) rfl #[.slice Ao8 t929.length co8, .slice Ao9 t932.length co9, .slice Ao10 t935.length co10] rfl (by (try simp only [List.map_toArray, List.map_cons, List.map_nil]); first | done | rfl | (simp only [List.length_drop, List.length_take]; rfl)) ?_; (with_reducible refine (impl_MergeText.calls k _ _ t929 _ _ t932 _ _ t935 t938 t939 _ ?side1 ?side2 ?side3 ?side4 ?side5 ?side6 A4.out).mono ?_); (case side1 => repeat (first | exact (Kd.R_reads' HO931.out).2.2 | (with_reducible refine Kd.C_alloc ?_ _) | (with_reducible refine Kd.C_drewN ?_ _) | (with_reducible refine Kd.C_drew ?_))); (case side2 => exact (Kd.R_reads' HO931.out).2.1); (case side3 => repeat (first | exact (Kd.V_reads' HO934.out).2.2 | (with_reducible refine Kd.C_alloc ?_ _) | (with_reducible refine Kd.C_drewN ?_ _) | (with_reducible refine Kd.C_drew ?_))); (case side4 => exact (Kd.V_reads' HO934.out).2.1); (case side5 => repeat (first | exact (Kd.V_reads' HO937.out).2.2 | (with_reducible refine Kd.C_alloc ?_ _) | (with_reducible refine Kd.C_drewN ?_ _) | (with_reducible refine Kd.C_drew ?_))); (case side6 => exact (Kd.V_reads' HO937.out).2.1); rintro e w11 ⟨v940, rfl, ho0, hb⟩; refine ⟨_, rfl, ?_⟩; have n0_ := Aside0.mk (Kd.R_elder' (by (with_reducible repeat (first | apply Kd.R_alloc | apply Kd.R_drewN | apply Kd.R_drew)); exact HO931.out) (Kd.R_base ho0) hb); have n1_ := Aside0.mk (Kd.V_elder' (by (with_reducible repeat (first | apply Kd.V_alloc | apply Kd.V_drewN | apply Kd.V_drew)); exact HO934.out) (Kd.R_base ho0) hb); have n2_ := Aside0.mk (Kd.V_elder' (by (with_reducible repeat (first | apply Kd.V_alloc | apply Kd.V_drewN | apply Kd.V_drew)); exact HO937.out) (Kd.R_base ho0) hb); have n3_ := Aside0.mk (Kd.R_lower (Kd.R_new' ho0 (Kd.R_lt (by (with_reducible repeat (first | apply Kd.R_alloc | apply Kd.R_drewN | apply Kd.R_drew)); exact HO931.out))) (below_size (by repeat (first | (with_reducible first | exact HB.out | apply below_alloc | apply pw_below_drewN | apply below_drew1) | exact HB.out)))); have n4_ := Aside0.mk (below_step (by repeat (first | (with_reducible first | exact HB.out | apply below_alloc | apply pw_below_drewN | apply below_drew1) | exact HB.out)) hb); clear HO931; clear HO934; clear HO937; clear HB; have HO931 := n0_; have HO934 := n1_; have HO937 := n2_; have HO941 := n3_; have HB := n4_; clear n0_ n1_ n2_ n3_ n4_; (try clear hb); (try clear hb2); (try clear hk); (try clear hi); (try clear ho0)) | ((with_reducible refine gate_callee (f := 26) rfl ?_); refine goesL_ (some 35) rfl rfl Try.func26 (by kernel_rfl) rfl #[.slice Ao8 t929.length co8, .slice Ao9 t932.length co9, .slice Ao10 t935.length co10] rfl (by (try simp only [List.map_toArray, List.map_cons, List.map_nil]); first | done | rfl | (simp only [List.length_drop, List.length_take]; rfl)) ?_; (with_reducible refine (spec_MergeText.calls k _ _ t929 _ _ t932 _ _ t935 t942 t943 _ ?side1 ?side2 ?side3 ?side4 ?side5 ?side6 A5.out).mono ?_); (case side1 => repeat (first | exact (Kd.R_reads' HO931.out).2.2 | (with_reducible refine Kd.C_alloc ?_ _) | (with_reducible refine Kd.C_drewN ?_ _) | (with_reducible refine Kd.C_drew ?_))); (case side2 => exact (Kd.R_reads' HO931.out).2.1); (case side3 => repeat (first | exact (Kd.V_reads' HO934.out).2.2 | (with_reducible refine Kd.C_alloc ?_ _) | (with_reducible refine Kd.C_drewN ?_ _) | (with_reducible refine Kd.C_drew ?_))); (case side4 => exact (Kd.V_reads' HO934.out).2.1); (case side5 => repeat (first | exact (Kd.V_reads' HO937.out).2.2 | (with_reducible refine Kd.C_alloc ?_ _) | (with_reducible refine Kd.C_drewN ?_ _) | (with_reducible refine Kd.C_drew ?_))); (case side6 => exact (Kd.V_reads' HO937.out).2.1); rintro e w12 ⟨v944, rfl, ho0, hb⟩; refine ⟨_, rfl, ?_⟩; have n0_ := Aside0.mk (Kd.R_elder' (by (with_reducible repeat (first | apply Kd.R_alloc | apply Kd.R_drewN | apply Kd.R_drew)); exact HO931.out) (Kd.R_base ho0) hb); have n1_ := Aside0.mk (Kd.V_elder' (by (with_reducible repeat (first | apply Kd.V_alloc | apply Kd.V_drewN | apply Kd.V_drew)); exact HO934.out) (Kd.R_base ho0) hb); have n2_ := Aside0.mk (Kd.V_elder' (by (with_reducible repeat (first | apply Kd.V_alloc | apply Kd.V_drewN | apply Kd.V_drew)); exact HO937.out) (Kd.R_base ho0) hb); have n3_ := Aside0.mk (Kd.R_elder' (by (with_reducible repeat (first | apply Kd.R_alloc | apply Kd.R_drewN | apply Kd.R_drew)); exact HO941.out) (Kd.R_base ho0) hb); have n4_ := Aside0.mk (Kd.R_lower (Kd.R_new' (Kd.R_new' ho0 (Kd.R_lt (by (with_reducible repeat (first | apply Kd.R_alloc | apply Kd.R_drewN | apply Kd.R_drew)); exact HO931.out))) (Kd.R_lt (by (with_reducible repeat (first | apply Kd.R_alloc | apply Kd.R_drewN | apply Kd.R_drew)); exact HO941.out))) (below_size (by repeat (first | (with_reducible first | exact HB.out | apply below_alloc | apply pw_below_drewN | apply below_drew1) | exact HB.out)))); have n5_ := Aside0.mk (below_step (by repeat (first | (with_reducible first | exact HB.out | apply below_alloc | apply pw_below_drewN | apply below_drew1) | exact HB.out)) hb); clear HO931; clear HO934; clear HO937; clear HO941; clear HB; have HO931 := n0_; have HO934 := n1_; have HO937 := n2_; have HO941 := n3_; have HO945 := n4_; have HB := n5_; clear n0_ n1_ n2_ n3_ n4_ n5_; (try clear hb); (try clear hb2); (try clear hk); (try clear hi); (try clear ho0))))
  (try simp only [Act.put, List.setIfInBounds_toArray, List.set_cons_zero, List.set_cons_succ])
  go_cut [50] (fun v50 wc => ∃ (kq : Nat) (x50_5 : Bool), v50 = .bool x50_5 ∧ Aside0 (laws_FnMergeDiff.j0 kq t929 t932 t935 t938 t939 t942 t943 x50_5 = some r) ∧ Aside0 (kq ≤ k) ∧ Aside0 (Kd.R Kd.string 9 wc w.heap.size (fun k_ => some k_ ≠ (v940 : Value).ownBlock ∧ some k_ ≠ (v944 : Value).ownBlock) (.slice Ao8 t929.length co8) t929) ∧ Aside0 (Kd.V Kd.string 9 wc w.heap.size (fun k_ => some k_ ≠ ((.slice Ao8 t929.length co8) : Value).ownBlock ∧ some k_ ≠ (v940 : Value).ownBlock ∧ some k_ ≠ (v944 : Value).ownBlock) (.slice Ao9 t932.length co9) t932) ∧ Aside0 (Kd.V Kd.string 9 wc w.heap.size (fun k_ => some k_ ≠ ((.slice Ao8 t929.length co8) : Value).ownBlock ∧ some k_ ≠ (v940 : Value).ownBlock ∧ some k_ ≠ (v944 : Value).ownBlock) (.slice Ao10 t935.length co10) t935) ∧ Aside0 (Kd.R Kd.string 9 wc w.heap.size (fun k_ => some k_ ≠ ((.slice Ao8 t929.length co8) : Value).ownBlock ∧ some k_ ≠ (v944 : Value).ownBlock) v940 t938) ∧ Aside0 (Kd.R Kd.string 9 wc w.heap.size (fun k_ => some k_ ≠ ((.slice Ao8 t929.length co8) : Value).ownBlock ∧ some k_ ≠ (v940 : Value).ownBlock) v944 t942) ∧ Aside0 (Below w.heap.size w wc))
  case first =>
   have H := HC6.out; clear HC6; by_cases c13 : (t939 != t943) = true
   ·rw [if_pos c13] at H; have c13b0 : (t939 != t943) = true := c13
    (try (have c13b1 : decide (t939 = t943) = false := by simpa using c13))
    (try (have c13b2 : (t939 == t943) = false := by simpa using c13))
    (try (have c13b3 : ¬ (t939 = t943) := by simpa using c13))
    clear c13
    (first | rw [c13b0] | (simp only [i64_w, i32_w]; rw [c13b0]) | skip)
    have H' := Aside0.mk H; clear H; go_wp2; go_meet
    case rel => exact ⟨_, (true), (by first | rfl | (simp; done) | (simp [*]; done)), H', ⟨by first | omega | exact Nat.le_refl _⟩, ⟨by (with_reducible repeat (first | apply Kd.R_alloc | apply Kd.R_drewN | apply Kd.R_drew)); exact Kd.R_mono HO931.out (fun _ hk => ⟨hk.1.2, hk.2⟩)⟩, ⟨by (with_reducible repeat (first | apply Kd.V_alloc | apply Kd.V_drewN | apply Kd.V_drew)); exact Kd.V_mono HO934.out (fun _ hk => ⟨hk.1.1, ⟨hk.1.2, hk.2⟩⟩)⟩, ⟨by (with_reducible repeat (first | apply Kd.V_alloc | apply Kd.V_drewN | apply Kd.V_drew)); exact Kd.V_mono HO937.out (fun _ hk => ⟨hk.1.1, ⟨hk.1.2, hk.2⟩⟩)⟩, ⟨by (with_reducible repeat (first | apply Kd.R_alloc | apply Kd.R_drewN | apply Kd.R_drew)); exact Kd.R_mono HO941.out (fun _ hk => ⟨hk.1.2, hk.2⟩)⟩, ⟨by (with_reducible repeat (first | apply Kd.R_alloc | apply Kd.R_drewN | apply Kd.R_drew)); exact Kd.R_mono HO945.out (fun _ hk => ⟨hk.1.2, hk.2⟩)⟩, ⟨by repeat (first | (with_reducible first | exact HB.out | apply below_alloc | apply pw_below_drewN | apply below_drew1) | exact HB.out)⟩⟩
   ·rw [if_neg c13] at H; (have c13b0 : (t939 != t943) = false := by simpa using c13)
    (try (have c13b1 : decide (t939 = t943) = true := by simpa using c13))
    (try (have c13b2 : (t939 == t943) = true := by simpa using c13))
    clear c13
    (first | rw [c13b0] | (simp only [i64_w, i32_w]; rw [c13b0]) | skip)
    replace H := Option.bind_eq_some_iff.mp H; obtain ⟨t946, A140, H⟩ := H; replace H : (if t946 = true then (laws_FnMergeDiff.j0 k t929 t932 t935 t938 t939 t942 t943 (!t939)) else (laws_FnMergeDiff.j0 k t929 t932 t935 t938 t939 t942 t943 true)) = some r := H; have A14 := Aside0.mk A140; clear A140; by_cases c15 : t946 = true
    ·subst c15; (have H1 : (laws_FnMergeDiff.j0 k t929 t932 t935 t938 t939 t942 t943 (!t939)) = some r := by rw [if_pos rfl] at H; exact H); clear H; have H := H1; clear H1; have H' := Aside0.mk H; clear H; obtain ⟨Ao16, co16, eo16⟩ := Kd.R_slice HO941.out; subst eo16; obtain ⟨Ao17, co17, eo17⟩ := Kd.R_slice HO945.out; subst eo17; go_wp2_with (first | (go_at_call 20; (with_reducible refine (laws_smTexts.calls k _ _ t938 _ _ t942 true _ ?side1 ?side2 ?side3 ?side4 A14.out).mono ?_); (case side1 => repeat (first | exact (Kd.R_reads' HO941.out).2.2 | (with_reducible refine Kd.C_alloc ?_ _) | (with_reducible refine Kd.C_drewN ?_ _) | (with_reducible refine Kd.C_drew ?_))); (case side2 => exact (Kd.R_reads' HO941.out).2.1); (case side3 => repeat (first | exact (Kd.R_reads' HO945.out).2.2 | (with_reducible refine Kd.C_alloc ?_ _) | (with_reducible refine Kd.C_drewN ?_ _) | (with_reducible refine Kd.C_drew ?_))); (case side4 => exact (Kd.R_reads' HO945.out).2.1); rintro e w' ⟨rfl, ⟨nd, rfl⟩⟩)); go_meet
     case rel => exact ⟨_, (!t939), (by first | rfl | (simp; done) | (simp [*]; done)), H', ⟨by first | omega | exact Nat.le_refl _⟩, ⟨by (with_reducible repeat (first | apply Kd.R_alloc | apply Kd.R_drewN | apply Kd.R_drew)); exact Kd.R_mono HO931.out (fun _ hk => ⟨hk.1.2, hk.2⟩)⟩, ⟨by (with_reducible repeat (first | apply Kd.V_alloc | apply Kd.V_drewN | apply Kd.V_drew)); exact Kd.V_mono HO934.out (fun _ hk => ⟨hk.1.1, ⟨hk.1.2, hk.2⟩⟩)⟩, ⟨by (with_reducible repeat (first | apply Kd.V_alloc | apply Kd.V_drewN | apply Kd.V_drew)); exact Kd.V_mono HO937.out (fun _ hk => ⟨hk.1.1, ⟨hk.1.2, hk.2⟩⟩)⟩, ⟨by (with_reducible repeat (first | apply Kd.R_alloc | apply Kd.R_drewN | apply Kd.R_drew)); exact Kd.R_mono HO941.out (fun _ hk => ⟨hk.1.2, hk.2⟩)⟩, ⟨by (with_reducible repeat (first | apply Kd.R_alloc | apply Kd.R_drewN | apply Kd.R_drew)); exact Kd.R_mono HO945.out (fun _ hk => ⟨hk.1.2, hk.2⟩)⟩, ⟨by repeat (first | (with_reducible first | exact HB.out | apply below_alloc | apply pw_below_drewN | apply below_drew1) | exact HB.out)⟩⟩
    ·replace c15 := Bool.eq_false_iff.mpr c15; subst c15; (have H1 : (laws_FnMergeDiff.j0 k t929 t932 t935 t938 t939 t942 t943 true) = some r := by rw [if_neg (show ¬ (false = true) by decide)] at H; exact H); clear H; have H := H1; clear H1; have H' := Aside0.mk H; clear H; obtain ⟨Ao18, co18, eo18⟩ := Kd.R_slice HO941.out; subst eo18; obtain ⟨Ao19, co19, eo19⟩ := Kd.R_slice HO945.out; subst eo19; go_wp2_with (first | (go_at_call 20; (with_reducible refine (laws_smTexts.calls k _ _ t938 _ _ t942 false _ ?side1 ?side2 ?side3 ?side4 A14.out).mono ?_); (case side1 => repeat (first | exact (Kd.R_reads' HO941.out).2.2 | (with_reducible refine Kd.C_alloc ?_ _) | (with_reducible refine Kd.C_drewN ?_ _) | (with_reducible refine Kd.C_drew ?_))); (case side2 => exact (Kd.R_reads' HO941.out).2.1); (case side3 => repeat (first | exact (Kd.R_reads' HO945.out).2.2 | (with_reducible refine Kd.C_alloc ?_ _) | (with_reducible refine Kd.C_drewN ?_ _) | (with_reducible refine Kd.C_drew ?_))); (case side4 => exact (Kd.R_reads' HO945.out).2.1); rintro e w' ⟨rfl, ⟨nd, rfl⟩⟩)); go_meet
     case rel => exact ⟨_, (true), (by first | rfl | (simp; done) | (simp [*]; done)), H', ⟨by first | omega | exact Nat.le_refl _⟩, ⟨by (with_reducible repeat (first | apply Kd.R_alloc | apply Kd.R_drewN | apply Kd.R_drew)); exact Kd.R_mono HO931.out (fun _ hk => ⟨hk.1.2, hk.2⟩)⟩, ⟨by (with_reducible repeat (first | apply Kd.V_alloc | apply Kd.V_drewN | apply Kd.V_drew)); exact Kd.V_mono HO934.out (fun _ hk => ⟨hk.1.1, ⟨hk.1.2, hk.2⟩⟩)⟩, ⟨by (with_reducible repeat (first | apply Kd.V_alloc | apply Kd.V_drewN | apply Kd.V_drew)); exact Kd.V_mono HO937.out (fun _ hk => ⟨hk.1.1, ⟨hk.1.2, hk.2⟩⟩)⟩, ⟨by (with_reducible repeat (first | apply Kd.R_alloc | apply Kd.R_drewN | apply Kd.R_drew)); exact Kd.R_mono HO941.out (fun _ hk => ⟨hk.1.2, hk.2⟩)⟩, ⟨by (with_reducible repeat (first | apply Kd.R_alloc | apply Kd.R_drewN | apply Kd.R_drew)); exact Kd.R_mono HO945.out (fun _ hk => ⟨hk.1.2, hk.2⟩)⟩, ⟨by repeat (first | (with_reducible first | exact HB.out | apply below_alloc | apply pw_below_drewN | apply below_drew1) | exact HB.out)⟩⟩
  case rest =>
   clear HC6; (try clear c1); (try clear c2); (try clear c2b0); (try clear c2b1); (try clear p2); (try clear c11); (try clear c13); (try clear c13b0); (try clear c13b1); (try clear c13b2); (try clear c15); obtain ⟨kq, x50_5, rfl, HA, HJ5, HO_3, HO_4, HO_5, HO_6, HO_8, HB⟩ := hcut
   cases kq with
   | zero => exact absurd HA.out (by simp [laws_FnMergeDiff.j0])
   | succ kj5 =>
    have H := HA.out; clear HA; simp only [laws_FnMergeDiff.j0] at H; by_cases c20 : x50_5 = true
    ·subst c20; (have H1 : (if (t939 == t943) = true then ((laws_smTexts.f kj5 t938 t942).bind fun t947 => (some t947)) else (some false)) = some r := by rw [if_pos rfl] at H; exact H); clear H; have H := H1; clear H1; by_cases c21 : (t939 == t943) = true
     ·rw [if_pos c21] at H; have c21b0 : (t939 == t943) = true := c21
      (try (have c21b1 : decide (t939 = t943) = true := by simpa using c21))
      (try (have c21b2 : (t939 == t943) = true := by simpa using c21))
      clear c21; replace H := Option.bind_eq_some_iff.mp H; obtain ⟨t947, A220, H⟩ := H; replace H : (some t947) = some r := H; have A22 := Aside0.mk A220; clear A220; obtain rfl := Option.some.inj H; obtain ⟨Ao23, co23, eo23⟩ := Kd.R_slice HO_6.out; subst eo23; obtain ⟨Ao24, co24, eo24⟩ := Kd.R_slice HO_8.out; subst eo24; go_wp2_with (first | (go_at_call 20; (with_reducible refine (laws_smTexts.calls kj5 _ _ t938 _ _ t942 t947 _ ?side1 ?side2 ?side3 ?side4 A22.out).mono ?_); (case side1 => repeat (first | exact (Kd.R_reads' HO_6.out).2.2 | (with_reducible refine Kd.C_alloc ?_ _) | (with_reducible refine Kd.C_drewN ?_ _) | (with_reducible refine Kd.C_drew ?_))); (case side2 => exact (Kd.R_reads' HO_6.out).2.1); (case side3 => repeat (first | exact (Kd.R_reads' HO_8.out).2.2 | (with_reducible refine Kd.C_alloc ?_ _) | (with_reducible refine Kd.C_drewN ?_ _) | (with_reducible refine Kd.C_drew ?_))); (case side4 => exact (Kd.R_reads' HO_8.out).2.1); rintro e w' ⟨rfl, ⟨nd, rfl⟩⟩)); go_ret; exact ⟨by first | rfl | (simp <;> rfl) | (simp [*] <;> rfl), by repeat (first | (with_reducible first | exact HB.out | apply below_alloc | apply pw_below_drewN | apply below_drew1) | exact HB.out)⟩
     ·rw [if_neg c21] at H; (have c21b0 : (t939 == t943) = false := by simpa using c21)
      (try (have c21b1 : decide (t939 = t943) = false := by simpa using c21))
      (try (have c21b2 : (t939 == t943) = false := by simpa using c21))
      (try (have c21b3 : ¬ (t939 = t943) := by simpa using c21))
      clear c21; obtain rfl := Option.some.inj H; go_wp2; go_ret; exact ⟨by first | rfl | (simp <;> rfl) | (simp [*] <;> rfl), by repeat (first | (with_reducible first | exact HB.out | apply below_alloc | apply pw_below_drewN | apply below_drew1) | exact HB.out)⟩
    ·replace c20 := Bool.eq_false_iff.mpr c20; subst c20; (have H1 : ((impl_DiffOf.f kj5 t929 t932).bind fun t948 => ((impl_PatchDo.f kj5 t929 t948).bind fun bt951 => ((impl_MergeText.f kj5 t929 bt951.1 t929).bind fun bt955 => ((impl_DiffMany.f kj5 t929 t938).bind fun t959 => (if bt955.2 = true then ((laws_smTexts.f kj5 bt955.1 t932).bind fun t960 => (if t960 = true then ((impl_DiffMany.f kj5 t929 t932).bind fun t961 => ((impl_DiffMany.f kj5 t929 t935).bind fun t962 => (some (decide (t959 ≤ (wrap64 (t961 + t962))))))) else (some false))) else (some false)))))) = some r := by rw [if_neg (show ¬ (false = true) by decide)] at H; exact H); clear H; have H := H1; clear H1; replace H := Option.bind_eq_some_iff.mp H; obtain ⟨t948, A250, H⟩ := H; replace H : ((impl_PatchDo.f kj5 t929 t948).bind fun bt951 => ((impl_MergeText.f kj5 t929 bt951.1 t929).bind fun bt955 => ((impl_DiffMany.f kj5 t929 t938).bind fun t959 => (if bt955.2 = true then ((laws_smTexts.f kj5 bt955.1 t932).bind fun t960 => (if t960 = true then ((impl_DiffMany.f kj5 t929 t932).bind fun t961 => ((impl_DiffMany.f kj5 t929 t935).bind fun t962 => (some (decide (t959 ≤ (wrap64 (t961 + t962))))))) else (some false))) else (some false))))) = some r := H; have A25 := Aside0.mk A250; clear A250; replace H := Option.bind_eq_some_iff.mp H; obtain ⟨⟨t951, t952⟩, A260, H⟩ := H; replace H : ((impl_MergeText.f kj5 t929 t951 t929).bind fun bt955 => ((impl_DiffMany.f kj5 t929 t938).bind fun t959 => (if bt955.2 = true then ((laws_smTexts.f kj5 bt955.1 t932).bind fun t960 => (if t960 = true then ((impl_DiffMany.f kj5 t929 t932).bind fun t961 => ((impl_DiffMany.f kj5 t929 t935).bind fun t962 => (some (decide (t959 ≤ (wrap64 (t961 + t962))))))) else (some false))) else (some false)))) = some r := H; have A26 := Aside0.mk A260; clear A260; replace H := Option.bind_eq_some_iff.mp H; obtain ⟨⟨t955, t956⟩, A270, H⟩ := H; replace H : ((impl_DiffMany.f kj5 t929 t938).bind fun t959 => (if t956 = true then ((laws_smTexts.f kj5 t955 t932).bind fun t960 => (if t960 = true then ((impl_DiffMany.f kj5 t929 t932).bind fun t961 => ((impl_DiffMany.f kj5 t929 t935).bind fun t962 => (some (decide (t959 ≤ (wrap64 (t961 + t962))))))) else (some false))) else (some false))) = some r := H; have A27 := Aside0.mk A270; clear A270; replace H := Option.bind_eq_some_iff.mp H; obtain ⟨t959, A280, H⟩ := H; replace H : (if t956 = true then ((laws_smTexts.f kj5 t955 t932).bind fun t960 => (if t960 = true then ((impl_DiffMany.f kj5 t929 t932).bind fun t961 => ((impl_DiffMany.f kj5 t929 t935).bind fun t962 => (some (decide (t959 ≤ (wrap64 (t961 + t962))))))) else (some false))) else (some false)) = some r := H; have A28 := Aside0.mk A280; clear A280; by_cases c29 : t956 = true
     ·subst c29; (have H1 : ((laws_smTexts.f kj5 t955 t932).bind fun t960 => (if t960 = true then ((impl_DiffMany.f kj5 t929 t932).bind fun t961 => ((impl_DiffMany.f kj5 t929 t935).bind fun t962 => (some (decide (t959 ≤ (wrap64 (t961 + t962))))))) else (some false))) = some r := by rw [if_pos rfl] at H; exact H); clear H; have H := H1; clear H1; replace H := Option.bind_eq_some_iff.mp H; obtain ⟨t960, A300, H⟩ := H; replace H : (if t960 = true then ((impl_DiffMany.f kj5 t929 t932).bind fun t961 => ((impl_DiffMany.f kj5 t929 t935).bind fun t962 => (some (decide (t959 ≤ (wrap64 (t961 + t962))))))) else (some false)) = some r := H; have A30 := Aside0.mk A300; clear A300; by_cases c31 : t960 = true
      ·subst c31; (have H1 : ((impl_DiffMany.f kj5 t929 t932).bind fun t961 => ((impl_DiffMany.f kj5 t929 t935).bind fun t962 => (some (decide (t959 ≤ (wrap64 (t961 + t962))))))) = some r := by rw [if_pos rfl] at H; exact H); clear H; have H := H1; clear H1; replace H := Option.bind_eq_some_iff.mp H; obtain ⟨t961, A320, H⟩ := H; replace H : ((impl_DiffMany.f kj5 t929 t935).bind fun t962 => (some (decide (t959 ≤ (wrap64 (t961 + t962)))))) = some r := H; have A32 := Aside0.mk A320; clear A320; replace H := Option.bind_eq_some_iff.mp H; obtain ⟨t962, A330, H⟩ := H; replace H : (some (decide (t959 ≤ (wrap64 (t961 + t962))))) = some r := H; have A33 := Aside0.mk A330; clear A330; obtain rfl := Option.some.inj H; go_wp2_with (first | ((with_reducible refine gate_callee (f := 45) rfl ?_); refine goesL_ (some 63) rfl rfl Try.func45 (by kernel_rfl) rfl #[.slice Ao8 t929.length co8, .slice Ao9 t932.length co9] rfl (by (try simp only [List.map_toArray, List.map_cons, List.map_nil]); first | done | rfl | (simp only [List.length_drop, List.length_take]; rfl)) ?_; (with_reducible refine (impl_DiffOf.calls kj5 _ _ t929 _ _ t932 t948 _ ?side1 ?side2 ?side3 ?side4 A25.out).mono ?_); (case side1 => repeat (first | exact (Kd.R_reads' HO_3.out).2.2 | (with_reducible refine Kd.C_alloc ?_ _) | (with_reducible refine Kd.C_drewN ?_ _) | (with_reducible refine Kd.C_drew ?_))); (case side2 => exact (Kd.R_reads' HO_3.out).2.1); (case side3 => repeat (first | exact (Kd.V_reads' HO_4.out).2.2 | (with_reducible refine Kd.C_alloc ?_ _) | (with_reducible refine Kd.C_drewN ?_ _) | (with_reducible refine Kd.C_drew ?_))); (case side4 => exact (Kd.V_reads' HO_4.out).2.1); rintro e w34 ⟨v949, rfl, ho0, hb⟩; refine ⟨_, rfl, ?_⟩; have n0_ := Aside0.mk (Kd.R_below (by (with_reducible repeat (first | apply Kd.R_alloc | apply Kd.R_drewN | apply Kd.R_drew)); exact HO_3.out) hb); have n1_ := Aside0.mk (Kd.V_elder' (by (with_reducible repeat (first | apply Kd.V_alloc | apply Kd.V_drewN | apply Kd.V_drew)); exact HO_4.out) (Kd.S_base ho0) hb); have n2_ := Aside0.mk (Kd.V_elder' (by (with_reducible repeat (first | apply Kd.V_alloc | apply Kd.V_drewN | apply Kd.V_drew)); exact HO_5.out) (Kd.S_base ho0) hb); have n3_ := Aside0.mk (Kd.R_below (by (with_reducible repeat (first | apply Kd.R_alloc | apply Kd.R_drewN | apply Kd.R_drew)); exact HO_6.out) hb); have n4_ := Aside0.mk (Kd.R_below (by (with_reducible repeat (first | apply Kd.R_alloc | apply Kd.R_drewN | apply Kd.R_drew)); exact HO_8.out) hb); have n5_ := Aside0.mk (Kd.S_lower (Kd.S_new' (Kd.S_new' (Kd.S_new' ho0 (Kd.R_lt (by (with_reducible repeat (first | apply Kd.R_alloc | apply Kd.R_drewN | apply Kd.R_drew)); exact HO_3.out))) (Kd.R_lt (by (with_reducible repeat (first | apply Kd.R_alloc | apply Kd.R_drewN | apply Kd.R_drew)); exact HO_6.out))) (Kd.R_lt (by (with_reducible repeat (first | apply Kd.R_alloc | apply Kd.R_drewN | apply Kd.R_drew)); exact HO_8.out))) (below_size (by repeat (first | (with_reducible first | exact HB.out | apply below_alloc | apply pw_below_drewN | apply below_drew1) | exact HB.out)))); have n6_ := Aside0.mk (below_step (by repeat (first | (with_reducible first | exact HB.out | apply below_alloc | apply pw_below_drewN | apply below_drew1) | exact HB.out)) hb); clear HO_3; clear HO_4; clear HO_5; clear HO_6; clear HO_8; clear HB; have HO_3 := n0_; have HO_4 := n1_; have HO_5 := n2_; have HO_6 := n3_; have HO_8 := n4_; have HO950 := n5_; have HB := n6_; clear n0_ n1_ n2_ n3_ n4_ n5_ n6_; (try clear hb); (try clear hb2); (try clear hk); (try clear hi); (try clear ho0); obtain ⟨Ao35, co35, eo35⟩ := Kd.S_slice HO950.out; subst eo35) | ((with_reducible refine gate_callee (f := 18) rfl ?_); refine goesL_ (some 64) rfl rfl Try.func18 (by kernel_rfl) rfl #[.slice Ao8 t929.length co8, .slice Ao35 t948.length co35] rfl (by (try simp only [List.map_toArray, List.map_cons, List.map_nil]); first | done | rfl | (simp only [List.length_drop, List.length_take]; rfl)) ?_; (with_reducible refine (impl_PatchDo.calls kj5 _ _ t929 _ _ t948 t951 t952 _ ?side1 ?side2 ?side3 ?side4 A26.out).mono ?_); (case side1 => repeat (first | exact (Kd.R_reads' HO_3.out).2.2 | (with_reducible refine Kd.C_alloc ?_ _) | (with_reducible refine Kd.C_drewN ?_ _) | (with_reducible refine Kd.C_drew ?_))); (case side2 => exact (Kd.R_reads' HO_3.out).2.1); (case side3 => repeat (first | exact (Kd.S_reads' HO950.out).2.2 | (with_reducible refine Kd.C_alloc ?_ _) | (with_reducible refine Kd.C_drewN ?_ _) | (with_reducible refine Kd.C_drew ?_))); (case side4 => exact (Kd.S_reads' HO950.out).2.1); rintro e w36 ⟨v953, rfl, ho0, hb⟩; refine ⟨_, rfl, ?_⟩; have n0_ := Aside0.mk (Kd.R_elder' (by (with_reducible repeat (first | apply Kd.R_alloc | apply Kd.R_drewN | apply Kd.R_drew)); exact HO_3.out) (Kd.R_base ho0) hb); have n1_ := Aside0.mk (Kd.V_elder' (by (with_reducible repeat (first | apply Kd.V_alloc | apply Kd.V_drewN | apply Kd.V_drew)); exact HO_4.out) (Kd.R_base ho0) hb); have n2_ := Aside0.mk (Kd.V_elder' (by (with_reducible repeat (first | apply Kd.V_alloc | apply Kd.V_drewN | apply Kd.V_drew)); exact HO_5.out) (Kd.R_base ho0) hb); have n3_ := Aside0.mk (Kd.R_elder' (by (with_reducible repeat (first | apply Kd.R_alloc | apply Kd.R_drewN | apply Kd.R_drew)); exact HO_6.out) (Kd.R_base ho0) hb); have n4_ := Aside0.mk (Kd.R_elder' (by (with_reducible repeat (first | apply Kd.R_alloc | apply Kd.R_drewN | apply Kd.R_drew)); exact HO_8.out) (Kd.R_base ho0) hb); have n5_ := Aside0.mk (Kd.S_elder' (by (with_reducible repeat (first | apply Kd.S_alloc | apply Kd.S_drewN | apply Kd.S_drew)); exact HO950.out) (Kd.R_base ho0) hb); have n6_ := Aside0.mk (Kd.R_lower (Kd.R_new' (Kd.R_new' (Kd.R_new' ho0 (Kd.R_lt (by (with_reducible repeat (first | apply Kd.R_alloc | apply Kd.R_drewN | apply Kd.R_drew)); exact HO_3.out))) (Kd.R_lt (by (with_reducible repeat (first | apply Kd.R_alloc | apply Kd.R_drewN | apply Kd.R_drew)); exact HO_6.out))) (Kd.R_lt (by (with_reducible repeat (first | apply Kd.R_alloc | apply Kd.R_drewN | apply Kd.R_drew)); exact HO_8.out))) (below_size (by repeat (first | (with_reducible first | exact HB.out | apply below_alloc | apply pw_below_drewN | apply below_drew1) | exact HB.out)))); have n7_ := Aside0.mk (below_step (by repeat (first | (with_reducible first | exact HB.out | apply below_alloc | apply pw_below_drewN | apply below_drew1) | exact HB.out)) hb); clear HO_3; clear HO_4; clear HO_5; clear HO_6; clear HO_8; clear HO950; clear HB; have HO_3 := n0_; have HO_4 := n1_; have HO_5 := n2_; have HO_6 := n3_; have HO_8 := n4_; have HO950 := n5_; have HO954 := n6_; have HB := n7_; clear n0_ n1_ n2_ n3_ n4_ n5_ n6_ n7_; (try clear hb); (try clear hb2); (try clear hk); (try clear hi); (try clear ho0); obtain ⟨Ao37, co37, eo37⟩ := Kd.R_slice HO954.out; subst eo37) | ((with_reducible refine gate_callee (f := 25) rfl ?_); refine goesL_ (some 71) rfl rfl Try.func25 (by kernel_rfl) rfl #[.slice Ao8 t929.length co8, .slice Ao37 t951.length co37, .slice Ao8 t929.length co8] rfl (by (try simp only [List.map_toArray, List.map_cons, List.map_nil]); first | done | rfl | (simp only [List.length_drop, List.length_take]; rfl)) ?_; (with_reducible refine (impl_MergeText.calls kj5 _ _ t929 _ _ t951 _ _ t929 t955 true _ ?side1 ?side2 ?side3 ?side4 ?side5 ?side6 A27.out).mono ?_); (case side1 => repeat (first | exact (Kd.R_reads' HO_3.out).2.2 | (with_reducible refine Kd.C_alloc ?_ _) | (with_reducible refine Kd.C_drewN ?_ _) | (with_reducible refine Kd.C_drew ?_))); (case side2 => exact (Kd.R_reads' HO_3.out).2.1); (case side3 => repeat (first | exact (Kd.R_reads' HO954.out).2.2 | (with_reducible refine Kd.C_alloc ?_ _) | (with_reducible refine Kd.C_drewN ?_ _) | (with_reducible refine Kd.C_drew ?_))); (case side4 => exact (Kd.R_reads' HO954.out).2.1); (case side5 => repeat (first | exact (Kd.R_reads' HO_3.out).2.2 | (with_reducible refine Kd.C_alloc ?_ _) | (with_reducible refine Kd.C_drewN ?_ _) | (with_reducible refine Kd.C_drew ?_))); (case side6 => exact (Kd.R_reads' HO_3.out).2.1); rintro e w38 ⟨v957, rfl, ho0, hb⟩; refine ⟨_, rfl, ?_⟩; have n0_ := Aside0.mk (Kd.R_elder' (by (with_reducible repeat (first | apply Kd.R_alloc | apply Kd.R_drewN | apply Kd.R_drew)); exact HO_3.out) (Kd.R_base ho0) hb); have n1_ := Aside0.mk (Kd.V_elder' (by (with_reducible repeat (first | apply Kd.V_alloc | apply Kd.V_drewN | apply Kd.V_drew)); exact HO_4.out) (Kd.R_base ho0) hb); have n2_ := Aside0.mk (Kd.V_elder' (by (with_reducible repeat (first | apply Kd.V_alloc | apply Kd.V_drewN | apply Kd.V_drew)); exact HO_5.out) (Kd.R_base ho0) hb); have n3_ := Aside0.mk (Kd.R_elder' (by (with_reducible repeat (first | apply Kd.R_alloc | apply Kd.R_drewN | apply Kd.R_drew)); exact HO_6.out) (Kd.R_base ho0) hb); have n4_ := Aside0.mk (Kd.R_elder' (by (with_reducible repeat (first | apply Kd.R_alloc | apply Kd.R_drewN | apply Kd.R_drew)); exact HO_8.out) (Kd.R_base ho0) hb); have n5_ := Aside0.mk (Kd.S_elder' (by (with_reducible repeat (first | apply Kd.S_alloc | apply Kd.S_drewN | apply Kd.S_drew)); exact HO950.out) (Kd.R_base ho0) hb); have n6_ := Aside0.mk (Kd.R_elder' (by (with_reducible repeat (first | apply Kd.R_alloc | apply Kd.R_drewN | apply Kd.R_drew)); exact HO954.out) (Kd.R_base ho0) hb); have n7_ := Aside0.mk (Kd.R_lower (Kd.R_new' (Kd.R_new' (Kd.R_new' (Kd.R_new' ho0 (Kd.R_lt (by (with_reducible repeat (first | apply Kd.R_alloc | apply Kd.R_drewN | apply Kd.R_drew)); exact HO_3.out))) (Kd.R_lt (by (with_reducible repeat (first | apply Kd.R_alloc | apply Kd.R_drewN | apply Kd.R_drew)); exact HO_6.out))) (Kd.R_lt (by (with_reducible repeat (first | apply Kd.R_alloc | apply Kd.R_drewN | apply Kd.R_drew)); exact HO_8.out))) (Kd.R_lt (by (with_reducible repeat (first | apply Kd.R_alloc | apply Kd.R_drewN | apply Kd.R_drew)); exact HO954.out))) (below_size (by repeat (first | (with_reducible first | exact HB.out | apply below_alloc | apply pw_below_drewN | apply below_drew1) | exact HB.out)))); have n8_ := Aside0.mk (below_step (by repeat (first | (with_reducible first | exact HB.out | apply below_alloc | apply pw_below_drewN | apply below_drew1) | exact HB.out)) hb); clear HO_3; clear HO_4; clear HO_5; clear HO_6; clear HO_8; clear HO950; clear HO954; clear HB; have HO_3 := n0_; have HO_4 := n1_; have HO_5 := n2_; have HO_6 := n3_; have HO_8 := n4_; have HO950 := n5_; have HO954 := n6_; have HO958 := n7_; have HB := n8_; clear n0_ n1_ n2_ n3_ n4_ n5_ n6_ n7_ n8_; (try clear hb); (try clear hb2); (try clear hk); (try clear hi); (try clear ho0); obtain ⟨Ao39, co39, eo39⟩ := Kd.R_slice HO_6.out; subst eo39) | ((with_reducible refine gate_callee (f := 46) rfl ?_); refine goesL_ (some 76) rfl rfl Try.func46 (by kernel_rfl) rfl #[.slice Ao8 t929.length co8, .slice Ao39 t938.length co39] rfl (by (try simp only [List.map_toArray, List.map_cons, List.map_nil]); first | done | rfl | (simp only [List.length_drop, List.length_take]; rfl)) ?_; (with_reducible refine (impl_DiffMany.calls kj5 _ _ t929 _ _ t938 t959 _ ?side1 ?side2 ?side3 ?side4 A28.out).mono ?_); (case side1 => repeat (first | exact (Kd.R_reads' HO_3.out).2.2 | (with_reducible refine Kd.C_alloc ?_ _) | (with_reducible refine Kd.C_drewN ?_ _) | (with_reducible refine Kd.C_drew ?_))); (case side2 => exact (Kd.R_reads' HO_3.out).2.1); (case side3 => repeat (first | exact (Kd.R_reads' HO_6.out).2.2 | (with_reducible refine Kd.C_alloc ?_ _) | (with_reducible refine Kd.C_drewN ?_ _) | (with_reducible refine Kd.C_drew ?_))); (case side4 => exact (Kd.R_reads' HO_6.out).2.1); rintro e w40 ⟨rfl, hb⟩; refine ⟨_, rfl, ?_⟩; have n0_ := Aside0.mk (Kd.R_below (by (with_reducible repeat (first | apply Kd.R_alloc | apply Kd.R_drewN | apply Kd.R_drew)); exact HO_3.out) hb); have n1_ := Aside0.mk (Kd.V_below (by (with_reducible repeat (first | apply Kd.V_alloc | apply Kd.V_drewN | apply Kd.V_drew)); exact HO_4.out) hb); have n2_ := Aside0.mk (Kd.V_below (by (with_reducible repeat (first | apply Kd.V_alloc | apply Kd.V_drewN | apply Kd.V_drew)); exact HO_5.out) hb); have n3_ := Aside0.mk (Kd.R_below (by (with_reducible repeat (first | apply Kd.R_alloc | apply Kd.R_drewN | apply Kd.R_drew)); exact HO_6.out) hb); have n4_ := Aside0.mk (Kd.R_below (by (with_reducible repeat (first | apply Kd.R_alloc | apply Kd.R_drewN | apply Kd.R_drew)); exact HO_8.out) hb); have n5_ := Aside0.mk (Kd.S_below (by (with_reducible repeat (first | apply Kd.S_alloc | apply Kd.S_drewN | apply Kd.S_drew)); exact HO950.out) hb); have n6_ := Aside0.mk (Kd.R_below (by (with_reducible repeat (first | apply Kd.R_alloc | apply Kd.R_drewN | apply Kd.R_drew)); exact HO954.out) hb); have n7_ := Aside0.mk (Kd.R_below (by (with_reducible repeat (first | apply Kd.R_alloc | apply Kd.R_drewN | apply Kd.R_drew)); exact HO958.out) hb); have n8_ := Aside0.mk (below_step (by repeat (first | (with_reducible first | exact HB.out | apply below_alloc | apply pw_below_drewN | apply below_drew1) | exact HB.out)) hb); clear HO_3; clear HO_4; clear HO_5; clear HO_6; clear HO_8; clear HO950; clear HO954; clear HO958; clear HB; have HO_3 := n0_; have HO_4 := n1_; have HO_5 := n2_; have HO_6 := n3_; have HO_8 := n4_; have HO950 := n5_; have HO954 := n6_; have HO958 := n7_; have HB := n8_; clear n0_ n1_ n2_ n3_ n4_ n5_ n6_ n7_ n8_; (try clear hb); (try clear hb2); (try clear hk); (try clear hi); obtain ⟨Ao41, co41, eo41⟩ := Kd.R_slice HO958.out; subst eo41) | (go_at_call 20; (with_reducible refine (laws_smTexts.calls kj5 _ _ t955 _ _ t932 true _ ?side1 ?side2 ?side3 ?side4 A30.out).mono ?_); (case side1 => repeat (first | exact (Kd.R_reads' HO958.out).2.2 | (with_reducible refine Kd.C_alloc ?_ _) | (with_reducible refine Kd.C_drewN ?_ _) | (with_reducible refine Kd.C_drew ?_))); (case side2 => exact (Kd.R_reads' HO958.out).2.1); (case side3 => repeat (first | exact (Kd.V_reads' HO_4.out).2.2 | (with_reducible refine Kd.C_alloc ?_ _) | (with_reducible refine Kd.C_drewN ?_ _) | (with_reducible refine Kd.C_drew ?_))); (case side4 => exact (Kd.V_reads' HO_4.out).2.1); rintro e w' ⟨rfl, ⟨nd, rfl⟩⟩) | (go_at_call 46; (with_reducible refine (impl_DiffMany.calls kj5 _ _ t929 _ _ t932 t961 _ ?side1 ?side2 ?side3 ?side4 A32.out).mono ?_); (case side1 => repeat (first | exact (Kd.R_reads' HO_3.out).2.2 | (with_reducible refine Kd.C_alloc ?_ _) | (with_reducible refine Kd.C_drewN ?_ _) | (with_reducible refine Kd.C_drew ?_))); (case side2 => exact (Kd.R_reads' HO_3.out).2.1); (case side3 => repeat (first | exact (Kd.V_reads' HO_4.out).2.2 | (with_reducible refine Kd.C_alloc ?_ _) | (with_reducible refine Kd.C_drewN ?_ _) | (with_reducible refine Kd.C_drew ?_))); (case side4 => exact (Kd.V_reads' HO_4.out).2.1); rintro e w42 ⟨rfl, hb⟩; have n0_ := Aside0.mk (Kd.R_below (by (with_reducible repeat (first | apply Kd.R_alloc | apply Kd.R_drewN | apply Kd.R_drew)); exact HO_3.out) hb); have n1_ := Aside0.mk (Kd.V_below (by (with_reducible repeat (first | apply Kd.V_alloc | apply Kd.V_drewN | apply Kd.V_drew)); exact HO_4.out) hb); have n2_ := Aside0.mk (Kd.V_below (by (with_reducible repeat (first | apply Kd.V_alloc | apply Kd.V_drewN | apply Kd.V_drew)); exact HO_5.out) hb); have n3_ := Aside0.mk (Kd.R_below (by (with_reducible repeat (first | apply Kd.R_alloc | apply Kd.R_drewN | apply Kd.R_drew)); exact HO_6.out) hb); have n4_ := Aside0.mk (Kd.R_below (by (with_reducible repeat (first | apply Kd.R_alloc | apply Kd.R_drewN | apply Kd.R_drew)); exact HO_8.out) hb); have n5_ := Aside0.mk (Kd.S_below (by (with_reducible repeat (first | apply Kd.S_alloc | apply Kd.S_drewN | apply Kd.S_drew)); exact HO950.out) hb); have n6_ := Aside0.mk (Kd.R_below (by (with_reducible repeat (first | apply Kd.R_alloc | apply Kd.R_drewN | apply Kd.R_drew)); exact HO954.out) hb); have n7_ := Aside0.mk (Kd.R_below (by (with_reducible repeat (first | apply Kd.R_alloc | apply Kd.R_drewN | apply Kd.R_drew)); exact HO958.out) hb); have n8_ := Aside0.mk (below_step (by repeat (first | (with_reducible first | exact HB.out | apply below_alloc | apply pw_below_drewN | apply below_drew1) | exact HB.out)) hb); clear HO_3; clear HO_4; clear HO_5; clear HO_6; clear HO_8; clear HO950; clear HO954; clear HO958; clear HB; have HO_3 := n0_; have HO_4 := n1_; have HO_5 := n2_; have HO_6 := n3_; have HO_8 := n4_; have HO950 := n5_; have HO954 := n6_; have HO958 := n7_; have HB := n8_; clear n0_ n1_ n2_ n3_ n4_ n5_ n6_ n7_ n8_; (try clear hb); (try clear hb2); (try clear hk); (try clear hi)) | (go_at_call 46; (with_reducible refine (impl_DiffMany.calls kj5 _ _ t929 _ _ t935 t962 _ ?side1 ?side2 ?side3 ?side4 A33.out).mono ?_); (case side1 => repeat (first | exact (Kd.R_reads' HO_3.out).2.2 | (with_reducible refine Kd.C_alloc ?_ _) | (with_reducible refine Kd.C_drewN ?_ _) | (with_reducible refine Kd.C_drew ?_))); (case side2 => exact (Kd.R_reads' HO_3.out).2.1); (case side3 => repeat (first | exact (Kd.V_reads' HO_5.out).2.2 | (with_reducible refine Kd.C_alloc ?_ _) | (with_reducible refine Kd.C_drewN ?_ _) | (with_reducible refine Kd.C_drew ?_))); (case side4 => exact (Kd.V_reads' HO_5.out).2.1); rintro e w43 ⟨rfl, hb⟩; have n0_ := Aside0.mk (Kd.R_below (by (with_reducible repeat (first | apply Kd.R_alloc | apply Kd.R_drewN | apply Kd.R_drew)); exact HO_3.out) hb); have n1_ := Aside0.mk (Kd.V_below (by (with_reducible repeat (first | apply Kd.V_alloc | apply Kd.V_drewN | apply Kd.V_drew)); exact HO_4.out) hb); have n2_ := Aside0.mk (Kd.V_below (by (with_reducible repeat (first | apply Kd.V_alloc | apply Kd.V_drewN | apply Kd.V_drew)); exact HO_5.out) hb); have n3_ := Aside0.mk (Kd.R_below (by (with_reducible repeat (first | apply Kd.R_alloc | apply Kd.R_drewN | apply Kd.R_drew)); exact HO_6.out) hb); have n4_ := Aside0.mk (Kd.R_below (by (with_reducible repeat (first | apply Kd.R_alloc | apply Kd.R_drewN | apply Kd.R_drew)); exact HO_8.out) hb); have n5_ := Aside0.mk (Kd.S_below (by (with_reducible repeat (first | apply Kd.S_alloc | apply Kd.S_drewN | apply Kd.S_drew)); exact HO950.out) hb); have n6_ := Aside0.mk (Kd.R_below (by (with_reducible repeat (first | apply Kd.R_alloc | apply Kd.R_drewN | apply Kd.R_drew)); exact HO954.out) hb); have n7_ := Aside0.mk (Kd.R_below (by (with_reducible repeat (first | apply Kd.R_alloc | apply Kd.R_drewN | apply Kd.R_drew)); exact HO958.out) hb); have n8_ := Aside0.mk (below_step (by repeat (first | (with_reducible first | exact HB.out | apply below_alloc | apply pw_below_drewN | apply below_drew1) | exact HB.out)) hb); clear HO_3; clear HO_4; clear HO_5; clear HO_6; clear HO_8; clear HO950; clear HO954; clear HO958; clear HB; have HO_3 := n0_; have HO_4 := n1_; have HO_5 := n2_; have HO_6 := n3_; have HO_8 := n4_; have HO950 := n5_; have HO954 := n6_; have HO958 := n7_; have HB := n8_; clear n0_ n1_ n2_ n3_ n4_ n5_ n6_ n7_ n8_; (try clear hb); (try clear hb2); (try clear hk); (try clear hi)))
       go_ret; exact ⟨by first | rfl | (simp <;> rfl) | (simp [*] <;> rfl), by repeat (first | (with_reducible first | exact HB.out | apply below_alloc | apply pw_below_drewN | apply below_drew1) | exact HB.out)⟩
      ·replace c31 := Bool.eq_false_iff.mpr c31; subst c31; (have H1 : (some false) = some r := by rw [if_neg (show ¬ (false = true) by decide)] at H; exact H); clear H; have H := H1; clear H1; obtain rfl := Option.some.inj H; go_wp2_with (first | ((with_reducible refine gate_callee (f := 45) rfl ?_); refine goesL_ (some 63) rfl rfl Try.func45 (by kernel_rfl) rfl #[.slice Ao8 t929.length co8, .slice Ao9 t932.length co9] rfl (by (try simp only [List.map_toArray, List.map_cons, List.map_nil]); first | done | rfl | (simp only [List.length_drop, List.length_take]; rfl)) ?_; (with_reducible refine (impl_DiffOf.calls kj5 _ _ t929 _ _ t932 t948 _ ?side1 ?side2 ?side3 ?side4 A25.out).mono ?_); (case side1 => repeat (first | exact (Kd.R_reads' HO_3.out).2.2 | (with_reducible refine Kd.C_alloc ?_ _) | (with_reducible refine Kd.C_drewN ?_ _) | (with_reducible refine Kd.C_drew ?_))); (case side2 => exact (Kd.R_reads' HO_3.out).2.1); (case side3 => repeat (first | exact (Kd.V_reads' HO_4.out).2.2 | (with_reducible refine Kd.C_alloc ?_ _) | (with_reducible refine Kd.C_drewN ?_ _) | (with_reducible refine Kd.C_drew ?_))); (case side4 => exact (Kd.V_reads' HO_4.out).2.1); rintro e w44 ⟨v949, rfl, ho0, hb⟩; refine ⟨_, rfl, ?_⟩; have n0_ := Aside0.mk (Kd.R_below (by (with_reducible repeat (first | apply Kd.R_alloc | apply Kd.R_drewN | apply Kd.R_drew)); exact HO_3.out) hb); have n1_ := Aside0.mk (Kd.V_elder' (by (with_reducible repeat (first | apply Kd.V_alloc | apply Kd.V_drewN | apply Kd.V_drew)); exact HO_4.out) (Kd.S_base ho0) hb); have n2_ := Aside0.mk (Kd.V_elder' (by (with_reducible repeat (first | apply Kd.V_alloc | apply Kd.V_drewN | apply Kd.V_drew)); exact HO_5.out) (Kd.S_base ho0) hb); have n3_ := Aside0.mk (Kd.R_below (by (with_reducible repeat (first | apply Kd.R_alloc | apply Kd.R_drewN | apply Kd.R_drew)); exact HO_6.out) hb); have n4_ := Aside0.mk (Kd.R_below (by (with_reducible repeat (first | apply Kd.R_alloc | apply Kd.R_drewN | apply Kd.R_drew)); exact HO_8.out) hb); have n5_ := Aside0.mk (Kd.S_lower (Kd.S_new' (Kd.S_new' (Kd.S_new' ho0 (Kd.R_lt (by (with_reducible repeat (first | apply Kd.R_alloc | apply Kd.R_drewN | apply Kd.R_drew)); exact HO_3.out))) (Kd.R_lt (by (with_reducible repeat (first | apply Kd.R_alloc | apply Kd.R_drewN | apply Kd.R_drew)); exact HO_6.out))) (Kd.R_lt (by (with_reducible repeat (first | apply Kd.R_alloc | apply Kd.R_drewN | apply Kd.R_drew)); exact HO_8.out))) (below_size (by repeat (first | (with_reducible first | exact HB.out | apply below_alloc | apply pw_below_drewN | apply below_drew1) | exact HB.out)))); have n6_ := Aside0.mk (below_step (by repeat (first | (with_reducible first | exact HB.out | apply below_alloc | apply pw_below_drewN | apply below_drew1) | exact HB.out)) hb); clear HO_3; clear HO_4; clear HO_5; clear HO_6; clear HO_8; clear HB; have HO_3 := n0_; have HO_4 := n1_; have HO_5 := n2_; have HO_6 := n3_; have HO_8 := n4_; have HO950 := n5_; have HB := n6_; clear n0_ n1_ n2_ n3_ n4_ n5_ n6_; (try clear hb); (try clear hb2); (try clear hk); (try clear hi); (try clear ho0); obtain ⟨Ao45, co45, eo45⟩ := Kd.S_slice HO950.out; subst eo45) | ((with_reducible refine gate_callee (f := 18) rfl ?_); refine goesL_ (some 64) rfl rfl Try.func18 (by kernel_rfl) rfl #[.slice Ao8 t929.length co8, .slice Ao45 t948.length co45] rfl (by (try simp only [List.map_toArray, List.map_cons, List.map_nil]); first | done | rfl | (simp only [List.length_drop, List.length_take]; rfl)) ?_; (with_reducible refine (impl_PatchDo.calls kj5 _ _ t929 _ _ t948 t951 t952 _ ?side1 ?side2 ?side3 ?side4 A26.out).mono ?_); (case side1 => repeat (first | exact (Kd.R_reads' HO_3.out).2.2 | (with_reducible refine Kd.C_alloc ?_ _) | (with_reducible refine Kd.C_drewN ?_ _) | (with_reducible refine Kd.C_drew ?_))); (case side2 => exact (Kd.R_reads' HO_3.out).2.1); (case side3 => repeat (first | exact (Kd.S_reads' HO950.out).2.2 | (with_reducible refine Kd.C_alloc ?_ _) | (with_reducible refine Kd.C_drewN ?_ _) | (with_reducible refine Kd.C_drew ?_))); (case side4 => exact (Kd.S_reads' HO950.out).2.1); rintro e w46 ⟨v953, rfl, ho0, hb⟩; refine ⟨_, rfl, ?_⟩; have n0_ := Aside0.mk (Kd.R_elder' (by (with_reducible repeat (first | apply Kd.R_alloc | apply Kd.R_drewN | apply Kd.R_drew)); exact HO_3.out) (Kd.R_base ho0) hb); have n1_ := Aside0.mk (Kd.V_elder' (by (with_reducible repeat (first | apply Kd.V_alloc | apply Kd.V_drewN | apply Kd.V_drew)); exact HO_4.out) (Kd.R_base ho0) hb); have n2_ := Aside0.mk (Kd.V_elder' (by (with_reducible repeat (first | apply Kd.V_alloc | apply Kd.V_drewN | apply Kd.V_drew)); exact HO_5.out) (Kd.R_base ho0) hb); have n3_ := Aside0.mk (Kd.R_elder' (by (with_reducible repeat (first | apply Kd.R_alloc | apply Kd.R_drewN | apply Kd.R_drew)); exact HO_6.out) (Kd.R_base ho0) hb); have n4_ := Aside0.mk (Kd.R_elder' (by (with_reducible repeat (first | apply Kd.R_alloc | apply Kd.R_drewN | apply Kd.R_drew)); exact HO_8.out) (Kd.R_base ho0) hb); have n5_ := Aside0.mk (Kd.S_elder' (by (with_reducible repeat (first | apply Kd.S_alloc | apply Kd.S_drewN | apply Kd.S_drew)); exact HO950.out) (Kd.R_base ho0) hb); have n6_ := Aside0.mk (Kd.R_lower (Kd.R_new' (Kd.R_new' (Kd.R_new' ho0 (Kd.R_lt (by (with_reducible repeat (first | apply Kd.R_alloc | apply Kd.R_drewN | apply Kd.R_drew)); exact HO_3.out))) (Kd.R_lt (by (with_reducible repeat (first | apply Kd.R_alloc | apply Kd.R_drewN | apply Kd.R_drew)); exact HO_6.out))) (Kd.R_lt (by (with_reducible repeat (first | apply Kd.R_alloc | apply Kd.R_drewN | apply Kd.R_drew)); exact HO_8.out))) (below_size (by repeat (first | (with_reducible first | exact HB.out | apply below_alloc | apply pw_below_drewN | apply below_drew1) | exact HB.out)))); have n7_ := Aside0.mk (below_step (by repeat (first | (with_reducible first | exact HB.out | apply below_alloc | apply pw_below_drewN | apply below_drew1) | exact HB.out)) hb); clear HO_3; clear HO_4; clear HO_5; clear HO_6; clear HO_8; clear HO950; clear HB; have HO_3 := n0_; have HO_4 := n1_; have HO_5 := n2_; have HO_6 := n3_; have HO_8 := n4_; have HO950 := n5_; have HO954 := n6_; have HB := n7_; clear n0_ n1_ n2_ n3_ n4_ n5_ n6_ n7_; (try clear hb); (try clear hb2); (try clear hk); (try clear hi); (try clear ho0); obtain ⟨Ao47, co47, eo47⟩ := Kd.R_slice HO954.out; subst eo47) | ((with_reducible refine gate_callee (f := 25) rfl ?_); refine goesL_ (some 71) rfl rfl Try.func25 (by kernel_rfl) rfl #[.slice Ao8 t929.length co8, .slice Ao47 t951.length co47, .slice Ao8 t929.length co8] rfl (by (try simp only [List.map_toArray, List.map_cons, List.map_nil]); first | done | rfl | (simp only [List.length_drop, List.length_take]; rfl)) ?_; (with_reducible refine (impl_MergeText.calls kj5 _ _ t929 _ _ t951 _ _ t929 t955 true _ ?side1 ?side2 ?side3 ?side4 ?side5 ?side6 A27.out).mono ?_); (case side1 => repeat (first | exact (Kd.R_reads' HO_3.out).2.2 | (with_reducible refine Kd.C_alloc ?_ _) | (with_reducible refine Kd.C_drewN ?_ _) | (with_reducible refine Kd.C_drew ?_))); (case side2 => exact (Kd.R_reads' HO_3.out).2.1); (case side3 => repeat (first | exact (Kd.R_reads' HO954.out).2.2 | (with_reducible refine Kd.C_alloc ?_ _) | (with_reducible refine Kd.C_drewN ?_ _) | (with_reducible refine Kd.C_drew ?_))); (case side4 => exact (Kd.R_reads' HO954.out).2.1); (case side5 => repeat (first | exact (Kd.R_reads' HO_3.out).2.2 | (with_reducible refine Kd.C_alloc ?_ _) | (with_reducible refine Kd.C_drewN ?_ _) | (with_reducible refine Kd.C_drew ?_))); (case side6 => exact (Kd.R_reads' HO_3.out).2.1); rintro e w48 ⟨v957, rfl, ho0, hb⟩; refine ⟨_, rfl, ?_⟩; have n0_ := Aside0.mk (Kd.R_elder' (by (with_reducible repeat (first | apply Kd.R_alloc | apply Kd.R_drewN | apply Kd.R_drew)); exact HO_3.out) (Kd.R_base ho0) hb); have n1_ := Aside0.mk (Kd.V_elder' (by (with_reducible repeat (first | apply Kd.V_alloc | apply Kd.V_drewN | apply Kd.V_drew)); exact HO_4.out) (Kd.R_base ho0) hb); have n2_ := Aside0.mk (Kd.V_elder' (by (with_reducible repeat (first | apply Kd.V_alloc | apply Kd.V_drewN | apply Kd.V_drew)); exact HO_5.out) (Kd.R_base ho0) hb); have n3_ := Aside0.mk (Kd.R_elder' (by (with_reducible repeat (first | apply Kd.R_alloc | apply Kd.R_drewN | apply Kd.R_drew)); exact HO_6.out) (Kd.R_base ho0) hb); have n4_ := Aside0.mk (Kd.R_elder' (by (with_reducible repeat (first | apply Kd.R_alloc | apply Kd.R_drewN | apply Kd.R_drew)); exact HO_8.out) (Kd.R_base ho0) hb); have n5_ := Aside0.mk (Kd.S_elder' (by (with_reducible repeat (first | apply Kd.S_alloc | apply Kd.S_drewN | apply Kd.S_drew)); exact HO950.out) (Kd.R_base ho0) hb); have n6_ := Aside0.mk (Kd.R_elder' (by (with_reducible repeat (first | apply Kd.R_alloc | apply Kd.R_drewN | apply Kd.R_drew)); exact HO954.out) (Kd.R_base ho0) hb); have n7_ := Aside0.mk (Kd.R_lower (Kd.R_new' (Kd.R_new' (Kd.R_new' (Kd.R_new' ho0 (Kd.R_lt (by (with_reducible repeat (first | apply Kd.R_alloc | apply Kd.R_drewN | apply Kd.R_drew)); exact HO_3.out))) (Kd.R_lt (by (with_reducible repeat (first | apply Kd.R_alloc | apply Kd.R_drewN | apply Kd.R_drew)); exact HO_6.out))) (Kd.R_lt (by (with_reducible repeat (first | apply Kd.R_alloc | apply Kd.R_drewN | apply Kd.R_drew)); exact HO_8.out))) (Kd.R_lt (by (with_reducible repeat (first | apply Kd.R_alloc | apply Kd.R_drewN | apply Kd.R_drew)); exact HO954.out))) (below_size (by repeat (first | (with_reducible first | exact HB.out | apply below_alloc | apply pw_below_drewN | apply below_drew1) | exact HB.out)))); have n8_ := Aside0.mk (below_step (by repeat (first | (with_reducible first | exact HB.out | apply below_alloc | apply pw_below_drewN | apply below_drew1) | exact HB.out)) hb); clear HO_3; clear HO_4; clear HO_5; clear HO_6; clear HO_8; clear HO950; clear HO954; clear HB; have HO_3 := n0_; have HO_4 := n1_; have HO_5 := n2_; have HO_6 := n3_; have HO_8 := n4_; have HO950 := n5_; have HO954 := n6_; have HO958 := n7_; have HB := n8_; clear n0_ n1_ n2_ n3_ n4_ n5_ n6_ n7_ n8_; (try clear hb); (try clear hb2); (try clear hk); (try clear hi); (try clear ho0); obtain ⟨Ao49, co49, eo49⟩ := Kd.R_slice HO_6.out; subst eo49) | ((with_reducible refine gate_callee (f := 46) rfl ?_); refine goesL_ (some 76) rfl rfl Try.func46 (by kernel_rfl) rfl #[.slice Ao8 t929.length co8, .slice Ao49 t938.length co49] rfl (by (try simp only [List.map_toArray, List.map_cons, List.map_nil]); first | done | rfl | (simp only [List.length_drop, List.length_take]; rfl)) ?_; (with_reducible refine (impl_DiffMany.calls kj5 _ _ t929 _ _ t938 t959 _ ?side1 ?side2 ?side3 ?side4 A28.out).mono ?_); (case side1 => repeat (first | exact (Kd.R_reads' HO_3.out).2.2 | (with_reducible refine Kd.C_alloc ?_ _) | (with_reducible refine Kd.C_drewN ?_ _) | (with_reducible refine Kd.C_drew ?_))); (case side2 => exact (Kd.R_reads' HO_3.out).2.1); (case side3 => repeat (first | exact (Kd.R_reads' HO_6.out).2.2 | (with_reducible refine Kd.C_alloc ?_ _) | (with_reducible refine Kd.C_drewN ?_ _) | (with_reducible refine Kd.C_drew ?_))); (case side4 => exact (Kd.R_reads' HO_6.out).2.1); rintro e w50 ⟨rfl, hb⟩; refine ⟨_, rfl, ?_⟩; have n0_ := Aside0.mk (Kd.R_below (by (with_reducible repeat (first | apply Kd.R_alloc | apply Kd.R_drewN | apply Kd.R_drew)); exact HO_3.out) hb); have n1_ := Aside0.mk (Kd.V_below (by (with_reducible repeat (first | apply Kd.V_alloc | apply Kd.V_drewN | apply Kd.V_drew)); exact HO_4.out) hb); have n2_ := Aside0.mk (Kd.V_below (by (with_reducible repeat (first | apply Kd.V_alloc | apply Kd.V_drewN | apply Kd.V_drew)); exact HO_5.out) hb); have n3_ := Aside0.mk (Kd.R_below (by (with_reducible repeat (first | apply Kd.R_alloc | apply Kd.R_drewN | apply Kd.R_drew)); exact HO_6.out) hb); have n4_ := Aside0.mk (Kd.R_below (by (with_reducible repeat (first | apply Kd.R_alloc | apply Kd.R_drewN | apply Kd.R_drew)); exact HO_8.out) hb); have n5_ := Aside0.mk (Kd.S_below (by (with_reducible repeat (first | apply Kd.S_alloc | apply Kd.S_drewN | apply Kd.S_drew)); exact HO950.out) hb); have n6_ := Aside0.mk (Kd.R_below (by (with_reducible repeat (first | apply Kd.R_alloc | apply Kd.R_drewN | apply Kd.R_drew)); exact HO954.out) hb); have n7_ := Aside0.mk (Kd.R_below (by (with_reducible repeat (first | apply Kd.R_alloc | apply Kd.R_drewN | apply Kd.R_drew)); exact HO958.out) hb); have n8_ := Aside0.mk (below_step (by repeat (first | (with_reducible first | exact HB.out | apply below_alloc | apply pw_below_drewN | apply below_drew1) | exact HB.out)) hb); clear HO_3; clear HO_4; clear HO_5; clear HO_6; clear HO_8; clear HO950; clear HO954; clear HO958; clear HB; have HO_3 := n0_; have HO_4 := n1_; have HO_5 := n2_; have HO_6 := n3_; have HO_8 := n4_; have HO950 := n5_; have HO954 := n6_; have HO958 := n7_; have HB := n8_; clear n0_ n1_ n2_ n3_ n4_ n5_ n6_ n7_ n8_; (try clear hb); (try clear hb2); (try clear hk); (try clear hi); obtain ⟨Ao51, co51, eo51⟩ := Kd.R_slice HO958.out; subst eo51) | (go_at_call 20; (with_reducible refine (laws_smTexts.calls kj5 _ _ t955 _ _ t932 false _ ?side1 ?side2 ?side3 ?side4 A30.out).mono ?_); (case side1 => repeat (first | exact (Kd.R_reads' HO958.out).2.2 | (with_reducible refine Kd.C_alloc ?_ _) | (with_reducible refine Kd.C_drewN ?_ _) | (with_reducible refine Kd.C_drew ?_))); (case side2 => exact (Kd.R_reads' HO958.out).2.1); (case side3 => repeat (first | exact (Kd.V_reads' HO_4.out).2.2 | (with_reducible refine Kd.C_alloc ?_ _) | (with_reducible refine Kd.C_drewN ?_ _) | (with_reducible refine Kd.C_drew ?_))); (case side4 => exact (Kd.V_reads' HO_4.out).2.1); rintro e w' ⟨rfl, ⟨nd, rfl⟩⟩))
       go_ret; exact ⟨by first | rfl | (simp <;> rfl) | (simp [*] <;> rfl), by repeat (first | (with_reducible first | exact HB.out | apply below_alloc | apply pw_below_drewN | apply below_drew1) | exact HB.out)⟩
     ·replace c29 := Bool.eq_false_iff.mpr c29; subst c29; (have H1 : (some false) = some r := by rw [if_neg (show ¬ (false = true) by decide)] at H; exact H); clear H; have H := H1; clear H1; obtain rfl := Option.some.inj H; go_wp2_with (first | ((with_reducible refine gate_callee (f := 45) rfl ?_); refine goesL_ (some 63) rfl rfl Try.func45 (by kernel_rfl) rfl #[.slice Ao8 t929.length co8, .slice Ao9 t932.length co9] rfl (by (try simp only [List.map_toArray, List.map_cons, List.map_nil]); first | done | rfl | (simp only [List.length_drop, List.length_take]; rfl)) ?_; (with_reducible refine (impl_DiffOf.calls kj5 _ _ t929 _ _ t932 t948 _ ?side1 ?side2 ?side3 ?side4 A25.out).mono ?_); (case side1 => repeat (first | exact (Kd.R_reads' HO_3.out).2.2 | (with_reducible refine Kd.C_alloc ?_ _) | (with_reducible refine Kd.C_drewN ?_ _) | (with_reducible refine Kd.C_drew ?_))); (case side2 => exact (Kd.R_reads' HO_3.out).2.1); (case side3 => repeat (first | exact (Kd.V_reads' HO_4.out).2.2 | (with_reducible refine Kd.C_alloc ?_ _) | (with_reducible refine Kd.C_drewN ?_ _) | (with_reducible refine Kd.C_drew ?_))); (case side4 => exact (Kd.V_reads' HO_4.out).2.1); rintro e w52 ⟨v949, rfl, ho0, hb⟩; refine ⟨_, rfl, ?_⟩; have n0_ := Aside0.mk (Kd.R_below (by (with_reducible repeat (first | apply Kd.R_alloc | apply Kd.R_drewN | apply Kd.R_drew)); exact HO_3.out) hb); have n1_ := Aside0.mk (Kd.V_elder' (by (with_reducible repeat (first | apply Kd.V_alloc | apply Kd.V_drewN | apply Kd.V_drew)); exact HO_4.out) (Kd.S_base ho0) hb); have n2_ := Aside0.mk (Kd.V_elder' (by (with_reducible repeat (first | apply Kd.V_alloc | apply Kd.V_drewN | apply Kd.V_drew)); exact HO_5.out) (Kd.S_base ho0) hb); have n3_ := Aside0.mk (Kd.R_below (by (with_reducible repeat (first | apply Kd.R_alloc | apply Kd.R_drewN | apply Kd.R_drew)); exact HO_6.out) hb); have n4_ := Aside0.mk (Kd.R_below (by (with_reducible repeat (first | apply Kd.R_alloc | apply Kd.R_drewN | apply Kd.R_drew)); exact HO_8.out) hb); have n5_ := Aside0.mk (Kd.S_lower (Kd.S_new' (Kd.S_new' (Kd.S_new' ho0 (Kd.R_lt (by (with_reducible repeat (first | apply Kd.R_alloc | apply Kd.R_drewN | apply Kd.R_drew)); exact HO_3.out))) (Kd.R_lt (by (with_reducible repeat (first | apply Kd.R_alloc | apply Kd.R_drewN | apply Kd.R_drew)); exact HO_6.out))) (Kd.R_lt (by (with_reducible repeat (first | apply Kd.R_alloc | apply Kd.R_drewN | apply Kd.R_drew)); exact HO_8.out))) (below_size (by repeat (first | (with_reducible first | exact HB.out | apply below_alloc | apply pw_below_drewN | apply below_drew1) | exact HB.out)))); have n6_ := Aside0.mk (below_step (by repeat (first | (with_reducible first | exact HB.out | apply below_alloc | apply pw_below_drewN | apply below_drew1) | exact HB.out)) hb); clear HO_3; clear HO_4; clear HO_5; clear HO_6; clear HO_8; clear HB; have HO_3 := n0_; have HO_4 := n1_; have HO_5 := n2_; have HO_6 := n3_; have HO_8 := n4_; have HO950 := n5_; have HB := n6_; clear n0_ n1_ n2_ n3_ n4_ n5_ n6_; (try clear hb); (try clear hb2); (try clear hk); (try clear hi); (try clear ho0); obtain ⟨Ao53, co53, eo53⟩ := Kd.S_slice HO950.out; subst eo53) | ((with_reducible refine gate_callee (f := 18) rfl ?_); refine goesL_ (some 64) rfl rfl Try.func18 (by kernel_rfl) rfl #[.slice Ao8 t929.length co8, .slice Ao53 t948.length co53] rfl (by (try simp only [List.map_toArray, List.map_cons, List.map_nil]); first | done | rfl | (simp only [List.length_drop, List.length_take]; rfl)) ?_; (with_reducible refine (impl_PatchDo.calls kj5 _ _ t929 _ _ t948 t951 t952 _ ?side1 ?side2 ?side3 ?side4 A26.out).mono ?_); (case side1 => repeat (first | exact (Kd.R_reads' HO_3.out).2.2 | (with_reducible refine Kd.C_alloc ?_ _) | (with_reducible refine Kd.C_drewN ?_ _) | (with_reducible refine Kd.C_drew ?_))); (case side2 => exact (Kd.R_reads' HO_3.out).2.1); (case side3 => repeat (first | exact (Kd.S_reads' HO950.out).2.2 | (with_reducible refine Kd.C_alloc ?_ _) | (with_reducible refine Kd.C_drewN ?_ _) | (with_reducible refine Kd.C_drew ?_))); (case side4 => exact (Kd.S_reads' HO950.out).2.1); rintro e w54 ⟨v953, rfl, ho0, hb⟩; refine ⟨_, rfl, ?_⟩; have n0_ := Aside0.mk (Kd.R_elder' (by (with_reducible repeat (first | apply Kd.R_alloc | apply Kd.R_drewN | apply Kd.R_drew)); exact HO_3.out) (Kd.R_base ho0) hb); have n1_ := Aside0.mk (Kd.V_elder' (by (with_reducible repeat (first | apply Kd.V_alloc | apply Kd.V_drewN | apply Kd.V_drew)); exact HO_4.out) (Kd.R_base ho0) hb); have n2_ := Aside0.mk (Kd.V_elder' (by (with_reducible repeat (first | apply Kd.V_alloc | apply Kd.V_drewN | apply Kd.V_drew)); exact HO_5.out) (Kd.R_base ho0) hb); have n3_ := Aside0.mk (Kd.R_elder' (by (with_reducible repeat (first | apply Kd.R_alloc | apply Kd.R_drewN | apply Kd.R_drew)); exact HO_6.out) (Kd.R_base ho0) hb); have n4_ := Aside0.mk (Kd.R_elder' (by (with_reducible repeat (first | apply Kd.R_alloc | apply Kd.R_drewN | apply Kd.R_drew)); exact HO_8.out) (Kd.R_base ho0) hb); have n5_ := Aside0.mk (Kd.S_elder' (by (with_reducible repeat (first | apply Kd.S_alloc | apply Kd.S_drewN | apply Kd.S_drew)); exact HO950.out) (Kd.R_base ho0) hb); have n6_ := Aside0.mk (Kd.R_lower (Kd.R_new' (Kd.R_new' (Kd.R_new' ho0 (Kd.R_lt (by (with_reducible repeat (first | apply Kd.R_alloc | apply Kd.R_drewN | apply Kd.R_drew)); exact HO_3.out))) (Kd.R_lt (by (with_reducible repeat (first | apply Kd.R_alloc | apply Kd.R_drewN | apply Kd.R_drew)); exact HO_6.out))) (Kd.R_lt (by (with_reducible repeat (first | apply Kd.R_alloc | apply Kd.R_drewN | apply Kd.R_drew)); exact HO_8.out))) (below_size (by repeat (first | (with_reducible first | exact HB.out | apply below_alloc | apply pw_below_drewN | apply below_drew1) | exact HB.out)))); have n7_ := Aside0.mk (below_step (by repeat (first | (with_reducible first | exact HB.out | apply below_alloc | apply pw_below_drewN | apply below_drew1) | exact HB.out)) hb); clear HO_3; clear HO_4; clear HO_5; clear HO_6; clear HO_8; clear HO950; clear HB; have HO_3 := n0_; have HO_4 := n1_; have HO_5 := n2_; have HO_6 := n3_; have HO_8 := n4_; have HO950 := n5_; have HO954 := n6_; have HB := n7_; clear n0_ n1_ n2_ n3_ n4_ n5_ n6_ n7_; (try clear hb); (try clear hb2); (try clear hk); (try clear hi); (try clear ho0); obtain ⟨Ao55, co55, eo55⟩ := Kd.R_slice HO954.out; subst eo55) | ((with_reducible refine gate_callee (f := 25) rfl ?_); refine goesL_ (some 71) rfl rfl Try.func25 (by kernel_rfl) rfl #[.slice Ao8 t929.length co8, .slice Ao55 t951.length co55, .slice Ao8 t929.length co8] rfl (by (try simp only [List.map_toArray, List.map_cons, List.map_nil]); first | done | rfl | (simp only [List.length_drop, List.length_take]; rfl)) ?_; (with_reducible refine (impl_MergeText.calls kj5 _ _ t929 _ _ t951 _ _ t929 t955 false _ ?side1 ?side2 ?side3 ?side4 ?side5 ?side6 A27.out).mono ?_); (case side1 => repeat (first | exact (Kd.R_reads' HO_3.out).2.2 | (with_reducible refine Kd.C_alloc ?_ _) | (with_reducible refine Kd.C_drewN ?_ _) | (with_reducible refine Kd.C_drew ?_))); (case side2 => exact (Kd.R_reads' HO_3.out).2.1); (case side3 => repeat (first | exact (Kd.R_reads' HO954.out).2.2 | (with_reducible refine Kd.C_alloc ?_ _) | (with_reducible refine Kd.C_drewN ?_ _) | (with_reducible refine Kd.C_drew ?_))); (case side4 => exact (Kd.R_reads' HO954.out).2.1); (case side5 => repeat (first | exact (Kd.R_reads' HO_3.out).2.2 | (with_reducible refine Kd.C_alloc ?_ _) | (with_reducible refine Kd.C_drewN ?_ _) | (with_reducible refine Kd.C_drew ?_))); (case side6 => exact (Kd.R_reads' HO_3.out).2.1); rintro e w56 ⟨v957, rfl, ho0, hb⟩; refine ⟨_, rfl, ?_⟩; have n0_ := Aside0.mk (Kd.R_elder' (by (with_reducible repeat (first | apply Kd.R_alloc | apply Kd.R_drewN | apply Kd.R_drew)); exact HO_3.out) (Kd.R_base ho0) hb); have n1_ := Aside0.mk (Kd.V_elder' (by (with_reducible repeat (first | apply Kd.V_alloc | apply Kd.V_drewN | apply Kd.V_drew)); exact HO_4.out) (Kd.R_base ho0) hb); have n2_ := Aside0.mk (Kd.V_elder' (by (with_reducible repeat (first | apply Kd.V_alloc | apply Kd.V_drewN | apply Kd.V_drew)); exact HO_5.out) (Kd.R_base ho0) hb); have n3_ := Aside0.mk (Kd.R_elder' (by (with_reducible repeat (first | apply Kd.R_alloc | apply Kd.R_drewN | apply Kd.R_drew)); exact HO_6.out) (Kd.R_base ho0) hb); have n4_ := Aside0.mk (Kd.R_elder' (by (with_reducible repeat (first | apply Kd.R_alloc | apply Kd.R_drewN | apply Kd.R_drew)); exact HO_8.out) (Kd.R_base ho0) hb); have n5_ := Aside0.mk (Kd.S_elder' (by (with_reducible repeat (first | apply Kd.S_alloc | apply Kd.S_drewN | apply Kd.S_drew)); exact HO950.out) (Kd.R_base ho0) hb); have n6_ := Aside0.mk (Kd.R_elder' (by (with_reducible repeat (first | apply Kd.R_alloc | apply Kd.R_drewN | apply Kd.R_drew)); exact HO954.out) (Kd.R_base ho0) hb); have n7_ := Aside0.mk (Kd.R_lower (Kd.R_new' (Kd.R_new' (Kd.R_new' (Kd.R_new' ho0 (Kd.R_lt (by (with_reducible repeat (first | apply Kd.R_alloc | apply Kd.R_drewN | apply Kd.R_drew)); exact HO_3.out))) (Kd.R_lt (by (with_reducible repeat (first | apply Kd.R_alloc | apply Kd.R_drewN | apply Kd.R_drew)); exact HO_6.out))) (Kd.R_lt (by (with_reducible repeat (first | apply Kd.R_alloc | apply Kd.R_drewN | apply Kd.R_drew)); exact HO_8.out))) (Kd.R_lt (by (with_reducible repeat (first | apply Kd.R_alloc | apply Kd.R_drewN | apply Kd.R_drew)); exact HO954.out))) (below_size (by repeat (first | (with_reducible first | exact HB.out | apply below_alloc | apply pw_below_drewN | apply below_drew1) | exact HB.out)))); have n8_ := Aside0.mk (below_step (by repeat (first | (with_reducible first | exact HB.out | apply below_alloc | apply pw_below_drewN | apply below_drew1) | exact HB.out)) hb); clear HO_3; clear HO_4; clear HO_5; clear HO_6; clear HO_8; clear HO950; clear HO954; clear HB; have HO_3 := n0_; have HO_4 := n1_; have HO_5 := n2_; have HO_6 := n3_; have HO_8 := n4_; have HO950 := n5_; have HO954 := n6_; have HO958 := n7_; have HB := n8_; clear n0_ n1_ n2_ n3_ n4_ n5_ n6_ n7_ n8_; (try clear hb); (try clear hb2); (try clear hk); (try clear hi); (try clear ho0); obtain ⟨Ao57, co57, eo57⟩ := Kd.R_slice HO_6.out; subst eo57) | ((with_reducible refine gate_callee (f := 46) rfl ?_); refine goesL_ (some 76) rfl rfl Try.func46 (by kernel_rfl) rfl #[.slice Ao8 t929.length co8, .slice Ao57 t938.length co57] rfl (by (try simp only [List.map_toArray, List.map_cons, List.map_nil]); first | done | rfl | (simp only [List.length_drop, List.length_take]; rfl)) ?_; (with_reducible refine (impl_DiffMany.calls kj5 _ _ t929 _ _ t938 t959 _ ?side1 ?side2 ?side3 ?side4 A28.out).mono ?_); (case side1 => repeat (first | exact (Kd.R_reads' HO_3.out).2.2 | (with_reducible refine Kd.C_alloc ?_ _) | (with_reducible refine Kd.C_drewN ?_ _) | (with_reducible refine Kd.C_drew ?_))); (case side2 => exact (Kd.R_reads' HO_3.out).2.1); (case side3 => repeat (first | exact (Kd.R_reads' HO_6.out).2.2 | (with_reducible refine Kd.C_alloc ?_ _) | (with_reducible refine Kd.C_drewN ?_ _) | (with_reducible refine Kd.C_drew ?_))); (case side4 => exact (Kd.R_reads' HO_6.out).2.1); rintro e w58 ⟨rfl, hb⟩; refine ⟨_, rfl, ?_⟩; have n0_ := Aside0.mk (Kd.R_below (by (with_reducible repeat (first | apply Kd.R_alloc | apply Kd.R_drewN | apply Kd.R_drew)); exact HO_3.out) hb); have n1_ := Aside0.mk (Kd.V_below (by (with_reducible repeat (first | apply Kd.V_alloc | apply Kd.V_drewN | apply Kd.V_drew)); exact HO_4.out) hb); have n2_ := Aside0.mk (Kd.V_below (by (with_reducible repeat (first | apply Kd.V_alloc | apply Kd.V_drewN | apply Kd.V_drew)); exact HO_5.out) hb); have n3_ := Aside0.mk (Kd.R_below (by (with_reducible repeat (first | apply Kd.R_alloc | apply Kd.R_drewN | apply Kd.R_drew)); exact HO_6.out) hb); have n4_ := Aside0.mk (Kd.R_below (by (with_reducible repeat (first | apply Kd.R_alloc | apply Kd.R_drewN | apply Kd.R_drew)); exact HO_8.out) hb); have n5_ := Aside0.mk (Kd.S_below (by (with_reducible repeat (first | apply Kd.S_alloc | apply Kd.S_drewN | apply Kd.S_drew)); exact HO950.out) hb); have n6_ := Aside0.mk (Kd.R_below (by (with_reducible repeat (first | apply Kd.R_alloc | apply Kd.R_drewN | apply Kd.R_drew)); exact HO954.out) hb); have n7_ := Aside0.mk (Kd.R_below (by (with_reducible repeat (first | apply Kd.R_alloc | apply Kd.R_drewN | apply Kd.R_drew)); exact HO958.out) hb); have n8_ := Aside0.mk (below_step (by repeat (first | (with_reducible first | exact HB.out | apply below_alloc | apply pw_below_drewN | apply below_drew1) | exact HB.out)) hb); clear HO_3; clear HO_4; clear HO_5; clear HO_6; clear HO_8; clear HO950; clear HO954; clear HO958; clear HB; have HO_3 := n0_; have HO_4 := n1_; have HO_5 := n2_; have HO_6 := n3_; have HO_8 := n4_; have HO950 := n5_; have HO954 := n6_; have HO958 := n7_; have HB := n8_; clear n0_ n1_ n2_ n3_ n4_ n5_ n6_ n7_ n8_; (try clear hb); (try clear hb2); (try clear hk); (try clear hi)))
      go_ret; exact ⟨by first | rfl | (simp <;> rfl) | (simp [*] <;> rfl), by repeat (first | (with_reducible first | exact HB.out | apply below_alloc | apply pw_below_drewN | apply below_drew1) | exact HB.out)⟩
/-- THE ONE PURE STATEMENT of laws_FnMergeDiff: yours. -/
def laws_FnMergeDiff.Pure : Prop := ∀ (l0 : List Int), l0.length ≤ maxLen → l0.length * 1 ≤ 140737488351232 → (∀ x ∈ l0, (Lit.int .u8 x).wf = true) → ∃ k, laws_FnMergeDiff.f k l0 = some true
theorem laws_FnMergeDiff.walk (P : laws_FnMergeDiff.Pure) (a0 : Option Addr) (len0 cap0 : Nat) (z0 : List Int) (w : World) (w0 : (a0 = none ∧ len0 = 0 ∧ cap0 = 0 ∧ z0 = []) ∨ ∃ x, a0 = some x ∧ len0 ≤ cap0 ∧ cap0 ≤ maxLen ∧ z0.length = cap0 ∧ (∀ i, i < z0.length → w.cell? (x.add i) = some (.int .u8 (z0.getD i 0))) ∧ ∀ n ∈ z0, (Lit.int .u8 n).wf = true) (y0 : len0 * 1 ≤ 140737488351232) :
 Calls Try.prog 11 #[.slice a0 len0 cap0] w fun e w' => e = .returned (.bool true) ∧ Below w.heap.size w w' := by
 obtain ⟨l0, rfl, hr0, hm0, hw0, hc0⟩ := ReadsInt.ofRowC w0; obtain ⟨k, h⟩ := P l0 hm0 y0 hw0; refine (laws_FnMergeDiff.calls k _ _ l0 true w (Kd.C_of_reads (d := (0 : Int)) (h1 := fun _ => rfl) hr0) hc0 h).mono ?_; rintro e w' ⟨rfl, hd⟩; exact ⟨rfl, hd⟩
end Go.Proofs.Ytfpdkeolecmepaa.Q
end
section
namespace Go.Proofs.Ytfpdkeolecmepaa.Q
set_option linter.unusedVariables false
set_option linter.unusedSimpArgs false
section
variable {α : Type} [DecidableEq α]
def L : List α → List α → Nat
  | [], _ => 0
  | _ :: _, [] => 0
  | a :: x, b :: y => if a = b then L x y + 1 else max (L x (b :: y)) (L (a :: x) y)
termination_by x y => x.length + y.length
theorem L_nil_left (y : List α) : L [] y = 0 := by rw [L]
theorem L_nil_right (x : List α) : L x [] = 0 := by cases x <;> rw [L]
theorem L_same (a : α) (x y : List α) : L (a :: x) (a :: y) = L x y + 1 := by rw [L, if_pos rfl]
theorem L_diff {a b : α} (h : a ≠ b) (x y : List α) : L (a :: x) (b :: y) = max (L x (b :: y)) (L (a :: x) y) := by rw [L, if_neg h]
theorem L_upper : ∀ (n : Nat) (x y z : List α), x.length + y.length ≤ n → z.Sublist x → z.Sublist y → z.length ≤ L x y
  | n, [], y, z, hn, hx, hy => by rw [List.sublist_nil.mp hx]; simp
  | n, a :: x, [], z, hn, hx, hy => by rw [List.sublist_nil.mp hy]; simp
  | 0, a :: x, b :: y, z, hn, hx, hy => by simp at hn
  | n + 1, a :: x, b :: y, z, hn, hx, hy => by
    simp only [List.length_cons] at hn
    by_cases e : a = b
    · subst e
      rw [L_same]
      cases z with
      | nil => simp
      | cons c z =>
        have h1 : z.Sublist x := by
          cases hx with
          | cons _ h => exact (List.sublist_cons_self c z).trans h
          | cons_cons _ h => exact h
        have h2 : z.Sublist y := by
          cases hy with
          | cons _ h => exact (List.sublist_cons_self c z).trans h
          | cons_cons _ h => exact h
        have := L_upper n x y z (by omega) h1 h2
        simp only [List.length_cons]; omega
    · rw [L_diff e]
      cases hx with
      | cons _ h => exact Nat.le_trans (L_upper n x (b :: y) z (by simp only [List.length_cons]; omega) h hy) (Nat.le_max_left _ _)
      | cons_cons _ h =>
        cases hy with
        | cons _ h' => exact Nat.le_trans (L_upper n (a :: x) y _ (by simp only [List.length_cons]; omega) (h.cons_cons a) h') (Nat.le_max_right _ _)
        | cons_cons _ h' => exact absurd rfl e
theorem L_attain : ∀ (n : Nat) (x y : List α), x.length + y.length ≤ n → ∃ z : List α, z.Sublist x ∧ z.Sublist y ∧ z.length = L x y
  | n, [], y, hn => ⟨[], List.nil_sublist _, List.nil_sublist _, by rw [L_nil_left]; rfl⟩
  | n, a :: x, [], hn => ⟨[], List.nil_sublist _, List.nil_sublist _, by rw [L_nil_right]; rfl⟩
  | 0, a :: x, b :: y, hn => by simp at hn
  | n + 1, a :: x, b :: y, hn => by
    simp only [List.length_cons] at hn
    by_cases e : a = b
    · subst e
      obtain ⟨z, h1, h2, h3⟩ := L_attain n x y (by omega)
      exact ⟨a :: z, h1.cons_cons a, h2.cons_cons a, by rw [L_same, List.length_cons, h3]⟩
    · obtain ⟨z1, p1, p2, p3⟩ := L_attain n x (b :: y) (by simp only [List.length_cons]; omega)
      obtain ⟨z2, q1, q2, q3⟩ := L_attain n (a :: x) y (by simp only [List.length_cons]; omega)
      rw [L_diff e]
      by_cases c : L (a :: x) y ≤ L x (b :: y)
      · exact ⟨z1, p1.cons a, p2, by omega⟩
      · exact ⟨z2, q1, q2.cons b, by omega⟩
theorem L_le_rev (x y : List α) : L x y ≤ L x.reverse y.reverse := by
  obtain ⟨z, h1, h2, h3⟩ := L_attain _ x y (Nat.le_refl _)
  rw [← h3, ← List.length_reverse]
  exact L_upper _ _ _ _ (Nat.le_refl _) h1.reverse h2.reverse
theorem L_rev (x y : List α) : L x.reverse y.reverse = L x y := by
  refine Nat.le_antisymm ?_ (L_le_rev x y)
  have := L_le_rev x.reverse y.reverse
  rwa [List.reverse_reverse, List.reverse_reverse] at this
theorem L_snoc_same (a : α) (x y : List α) : L (x ++ [a]) (y ++ [a]) = L x y + 1 := by
  rw [← L_rev, List.reverse_append, List.reverse_append]
  show L (a :: x.reverse) (a :: y.reverse) = _
  rw [L_same, L_rev]
theorem L_snoc_diff {a b : α} (h : a ≠ b) (x y : List α) : L (x ++ [a]) (y ++ [b]) = max (L x (y ++ [b])) (L (x ++ [a]) y) := by
  rw [← L_rev, List.reverse_append, List.reverse_append]
  show L (a :: x.reverse) (b :: y.reverse) = _
  rw [L_diff h]
  have e1 : L x.reverse (b :: y.reverse) = L x (y ++ [b]) := by rw [← L_rev x (y ++ [b]), List.reverse_append]; rfl
  have e2 : L (a :: x.reverse) y.reverse = L (x ++ [a]) y := by rw [← L_rev (x ++ [a]) y, List.reverse_append]; rfl
  rw [e1, e2]
theorem L_le (x y : List α) : L x y ≤ x.length ∧ L x y ≤ y.length := by
  obtain ⟨z, h1, h2, h3⟩ := L_attain _ x y (Nat.le_refl _)
  rw [← h3]
  exact ⟨h1.length_le, h2.length_le⟩
/-- Of each line of a which of b's it is; -1, if it is none. -/
def mtc : List α → List α → Nat → List Int
  | [], _, _ => []
  | a :: x, [], j => -1 :: mtc x [] j
  | a :: x, b :: y, j => if a = b then (j : Int) :: mtc x y (j + 1) else if L (a :: x) y ≤ L x (b :: y) then -1 :: mtc x (b :: y) j else mtc (a :: x) y (j + 1)
termination_by x y => x.length + y.length
theorem mtc_len : ∀ (n : Nat) (x y : List α) (j : Nat), x.length + y.length ≤ n → (mtc x y j).length = x.length
  | n, [], y, j, hn => by rw [mtc]; rfl
  | 0, a :: x, y, j, hn => by simp at hn
  | n + 1, a :: x, [], j, hn => by rw [mtc, List.length_cons, mtc_len n x [] j (by simp at hn ⊢; omega)]; rfl
  | n + 1, a :: x, b :: y, j, hn => by
    simp only [List.length_cons] at hn
    rw [mtc]
    split
    · rw [List.length_cons, mtc_len n x y (j + 1) (by omega)]; rfl
    · split
      · rw [List.length_cons, mtc_len n x (b :: y) j (by simp; omega)]; rfl
      · rw [mtc_len n (a :: x) y (j + 1) (by simp; omega)]
theorem mtc_self : ∀ (x : List α) (j : Nat), mtc x x j = (List.range x.length).map (fun i => ((j + i : Nat) : Int))
  | [], j => by rw [mtc]; rfl
  | a :: x, j => by
    rw [mtc, if_pos rfl, mtc_self x (j + 1), List.length_cons, List.range_succ_eq_map]
    simp only [List.map_cons, List.map_map, Nat.add_zero]
    congr 1
    apply List.map_congr_left
    intro i _
    show ((j + 1 + i : Nat) : Int) = ((j + (i + 1) : Nat) : Int)
    omega
end
end Go.Proofs.Ytfpdkeolecmepaa.Q
end
section
namespace Go.Proofs.Ytfpdkeolecmepaa.Q
set_option linter.unusedVariables false
set_option linter.unusedSimpArgs false
abbrev Tl := List ByteArray
/-- One side for the other. -/
def swp (p : Pt) : Pt := ⟨p.f0, p.f1, p.f2, p.f4, p.f3⟩
theorem res_swp (ps : List Pt) (l : Tl) : res (ps.map swp) l = (res ps l).map swp := by
  unfold res
  by_cases h : l = []
  · rw [if_pos h, if_pos h]
  · rw [if_neg h, if_neg h]
    rcases List.eq_nil_or_concat ps with rfl | ⟨q, p, hqp⟩
    · rw [if_neg (by simp), if_neg (by simp)]; rfl
    · rw [List.concat_eq_append] at hqp
      subst hqp
      have e : (List.map swp (q ++ [p])).getLastD z31 = swp p := by simp [List.getLastD_eq_getLast?]
      have e2 : (q ++ [p]).getLastD z31 = p := by simp [List.getLastD_eq_getLast?]
      rw [e, e2]
      by_cases c : p.f0 = false
      · rw [if_pos ⟨by simp, c⟩, if_pos ⟨by simp, c⟩]
        simp [swp, addL]
      · rw [if_neg (fun h => c h.2), if_neg (fun h => c h.2)]
        simp [swp]
theorem reg_swp (ps : List Pt) (o a b : Tl) : reg (ps.map swp) o b a = (reg ps o a b).map swp := by
  unfold reg
  by_cases h1 : a = b
  · subst h1
    rw [if_pos (.inr rfl), if_pos (.inr rfl), res_swp]
  · by_cases h2 : a = o
    · subst h2
      rw [if_neg (fun h => h.elim (fun e => h1 e.symm) (fun e => h1 e.symm)), if_pos rfl, if_pos (.inl rfl), res_swp]
    · by_cases h3 : b = o
      · rw [if_pos (.inl h3), if_neg (fun h => h.elim h2 h1), if_pos h3, res_swp]
      · rw [if_neg (fun h => h.elim h3 (fun e => h1 e.symm)), if_neg h2, if_neg (fun h => h.elim h2 h1), if_neg h3]
        simp [swp]
/-- All parts, between lines that both sides still have. -/
def mg (o a b : Tl) (mA mB : List Int) : Nat → Nat → Nat → Nat → List Pt → List Pt
  | 0, i, j, k, ps => reg ps (o.drop i) (a.drop j) (b.drop k)
  | d + 1, i, j, k, ps =>
    let n := o.length - (d + 1)
    if mA.getD n 0 < 0 ∨ mB.getD n 0 < 0 then mg o a b mA mB d i j k ps
    else mg o a b mA mB d (n + 1) ((mA.getD n 0).toNat + 1) ((mB.getD n 0).toNat + 1) (res (reg ps (seg2 o i n) (seg2 a j (mA.getD n 0).toNat) (seg2 b k (mB.getD n 0).toNat)) [o.getD n ByteArray.empty])
theorem mg_swp (o a b : Tl) (mA mB : List Int) : ∀ (d i j k : Nat) (ps : List Pt), mg o b a mB mA d i k j (ps.map swp) = (mg o a b mA mB d i j k ps).map swp
  | 0, i, j, k, ps => by rw [mg, mg, reg_swp]
  | d + 1, i, j, k, ps => by
    simp only [mg]
    by_cases h : mA.getD (o.length - (d + 1)) 0 < 0 ∨ mB.getD (o.length - (d + 1)) 0 < 0
    · rw [if_pos h, if_pos (Or.comm.mp h), mg_swp o a b mA mB d]
    · rw [if_neg h, if_neg (fun e => h (Or.comm.mp e)), reg_swp, res_swp, mg_swp o a b mA mB d]
def mrg (o a b : Tl) : List Pt := mg o a b (mtc o a 0) (mtc o b 0) o.length 0 0 0 []
theorem mrg_swp (o a b : Tl) : mrg o b a = (mrg o a b).map swp := mg_swp o a b _ _ _ _ _ _ []
theorem mtc_in {α : Type} [DecidableEq α] : ∀ (n : Nat) (x y : List α) (j : Nat), x.length + y.length ≤ n → ∀ v ∈ mtc x y j, v = -1 ∨ ((j : Int) ≤ v ∧ v < j + y.length)
  | n, [], y, j, hn, v, hv => by rw [mtc] at hv; cases hv
  | 0, a :: x, y, j, hn, v, hv => by simp at hn
  | n + 1, a :: x, [], j, hn, v, hv => by
    rw [mtc] at hv
    rcases List.mem_cons.mp hv with e | h
    · exact .inl e
    · exact mtc_in n x [] j (by simp at hn ⊢; omega) v h
  | n + 1, a :: x, b :: y, j, hn, v, hv => by
    simp only [List.length_cons] at hn
    rw [mtc] at hv
    simp only [List.length_cons]
    split at hv
    · rcases List.mem_cons.mp hv with e | h
      · exact .inr (by omega)
      · rcases mtc_in n x y (j + 1) (by omega) v h with e | e
        · exact .inl e
        · exact .inr (by omega)
    · split at hv
      · rcases List.mem_cons.mp hv with e | h
        · exact .inl e
        · have := mtc_in n x (b :: y) j (by simp; omega) v h
          simpa only [List.length_cons] using this
      · rcases mtc_in n (a :: x) y (j + 1) (by simp; omega) v hv with e | e
        · exact .inl e
        · exact .inr (by omega)
theorem mtc_inc {α : Type} [DecidableEq α] : ∀ (n : Nat) (x y : List α) (j : Nat), x.length + y.length ≤ n → (mtc x y j).Pairwise (fun u v => 0 ≤ u → 0 ≤ v → u < v)
  | n, [], y, j, hn => by rw [mtc]; exact List.Pairwise.nil
  | 0, a :: x, y, j, hn => by simp at hn
  | n + 1, a :: x, [], j, hn => by
    rw [mtc]
    exact List.Pairwise.cons (fun v hv h => absurd h (by decide)) (mtc_inc n x [] j (by simp at hn ⊢; omega))
  | n + 1, a :: x, b :: y, j, hn => by
    simp only [List.length_cons] at hn
    rw [mtc]
    split
    · refine List.Pairwise.cons (fun v hv h0 h1 => ?_) (mtc_inc n x y (j + 1) (by omega))
      rcases mtc_in _ x y (j + 1) (Nat.le_refl _) v hv with e | e <;> omega
    · split
      · exact List.Pairwise.cons (fun v hv h => absurd h (by decide)) (mtc_inc n x (b :: y) j (by simp; omega))
      · exact mtc_inc n (a :: x) y (j + 1) (by simp; omega)
theorem getD_in {m : List Int} {n : Nat} (h : n < m.length) : m.getD n 0 ∈ m := by
  rw [List.getD_eq_getElem?_getD, List.getElem?_eq_getElem h]
  exact List.getElem_mem h
theorem pw_at {m : List Int} (h : m.Pairwise (fun u v => 0 ≤ u → 0 ≤ v → u < v)) {n n' : Nat} (hn : n < n') (hl : n' < m.length) (h0 : 0 ≤ m.getD n 0) (h1 : 0 ≤ m.getD n' 0) : m.getD n 0 < m.getD n' 0 := by
  have := List.pairwise_iff_getElem.mp h n n' (by omega) hl hn
  rw [List.getD_eq_getElem?_getD, List.getElem?_eq_getElem (by omega : n < m.length)] at h0 ⊢
  rw [List.getD_eq_getElem?_getD, List.getElem?_eq_getElem hl] at h1 ⊢
  exact this h0 h1
theorem mgO_mg {o a b : Tl} {mA mB : List Int} (lA : mA.length = o.length) (lB : mB.length = o.length) (pA : mA.Pairwise (fun u v => 0 ≤ u → 0 ≤ v → u < v)) (pB : mB.Pairwise (fun u v => 0 ≤ u → 0 ≤ v → u < v))
    (iA : ∀ v ∈ mA, v < (a.length : Int)) (iB : ∀ v ∈ mB, v < (b.length : Int)) : ∀ (d i j k : Nat) (ps : List Pt), d ≤ o.length → j ≤ a.length → k ≤ b.length →
    (∀ n, o.length - d ≤ n → n < o.length → 0 ≤ mA.getD n 0 → (j : Int) ≤ mA.getD n 0) → (∀ n, o.length - d ≤ n → n < o.length → 0 ≤ mB.getD n 0 → (k : Int) ≤ mB.getD n 0) → mgO o a b mA mB d i j k ps = some (mg o a b mA mB d i j k ps)
  | 0, i, j, k, ps, hd, hj, hk, jA, kB => by rw [mgO, mg, if_pos ⟨hj, hk⟩]
  | d + 1, i, j, k, ps, hd, hj, hk, jA, kB => by
    simp only [mg]
    rw [mgO]
    by_cases h : mA.getD (o.length - (d + 1)) 0 < 0 ∨ mB.getD (o.length - (d + 1)) 0 < 0
    · rw [if_pos h, if_pos h]
      exact mgO_mg lA lB pA pB iA iB d i j k ps (by omega) hj hk (fun n h1 h2 => jA n (by omega) h2) (fun n h1 h2 => kB n (by omega) h2)
    · rw [if_neg h, if_neg h]
      have hA : 0 ≤ mA.getD (o.length - (d + 1)) 0 := by omega
      have hB : 0 ≤ mB.getD (o.length - (d + 1)) 0 := by omega
      have g1 := jA _ (Nat.le_refl _) (by omega) hA
      have g2 := kB _ (Nat.le_refl _) (by omega) hB
      have g3 := iA _ (getD_in (by omega : o.length - (d + 1) < mA.length))
      have g4 := iB _ (getD_in (by omega : o.length - (d + 1) < mB.length))
      rw [if_pos ⟨by omega, by omega, by omega, by omega⟩]
      refine mgO_mg lA lB pA pB iA iB d _ _ _ _ (by omega) (by omega) (by omega) (fun n h1 h2 h3 => ?_) (fun n h1 h2 h3 => ?_)
      · have := pw_at pA (n := o.length - (d + 1)) (n' := n) (by omega) (by omega) hA h3
        omega
      · have := pw_at pB (n := o.length - (d + 1)) (n' := n) (by omega) (by omega) hB h3
        omega
theorem mgG_mrg {o a b : Tl} (ho : o.length ≤ 1000) (ha : a.length ≤ 1000) (hb : b.length ≤ 1000) : mgG o a b (mtc o a 0) (mtc o b 0) = some (mrg o a b) := by
  have lA := mtc_len _ o a 0 (Nat.le_refl _)
  have lB := mtc_len _ o b 0 (Nat.le_refl _)
  unfold mgG
  rw [if_pos ⟨lA, lB, ho, ha, hb⟩]
  exact mgO_mg lA lB (mtc_inc _ o a 0 (Nat.le_refl _)) (mtc_inc _ o b 0 (Nat.le_refl _)) (fun v hv => by rcases mtc_in _ o a 0 (Nat.le_refl _) v hv with e | e <;> omega) (fun v hv => by rcases mtc_in _ o b 0 (Nat.le_refl _) v hv with e | e <;> omega)
    o.length 0 0 0 [] (Nat.le_refl _) (Nat.zero_le _) (Nat.zero_le _) (fun n h1 h2 h3 => by omega) (fun n h1 h2 h3 => by omega)
end Go.Proofs.Ytfpdkeolecmepaa.Q
end
section
namespace Go.Proofs.Ytfpdkeolecmepaa.Q
open Go.RowKit Go.Proofs.YtfpdkeolecmepaaW.PrintWords Go.Proofs.YtfpdkeolecmepaaW.PrintMore
set_option linter.unusedVariables false
set_option linter.unusedSimpArgs false
/-- A row by its places. -/
def tab {α : Type} (n : Nat) (f : Nat → α) : List α := (List.range n).map f
theorem tab_len {α : Type} (n : Nat) (f : Nat → α) : (tab n f).length = n := by simp [tab]
theorem tab_at {α : Type} (n : Nat) (f : Nat → α) (i : Nat) : (tab n f)[i]? = if i < n then some (f i) else none := by
  unfold tab
  rw [List.getElem?_map]
  by_cases h : i < n
  · rw [List.getElem?_range h, if_pos h]; rfl
  · rw [List.getElem?_eq_none (by simp; omega), if_neg h]; rfl
theorem tab_rd {n : Nat} {f : Nat → Int} {i : Nat} (h : i < n) : rd (tab n f) (i : Int) = f i := by
  unfold rd
  rw [List.getD_eq_getElem?_getD, Int.toNat_natCast, tab_at, if_pos h]; rfl
theorem tab_rdL {n : Nat} {f : Nat → List Int} {i : Nat} (h : i < n) : rd_L7 (tab n f) (i : Int) = f i := by
  unfold rd_L7
  rw [List.getD_eq_getElem?_getD, Int.toNat_natCast, tab_at, if_pos h]; rfl
theorem tab_set {α : Type} {n : Nat} {f : Nat → α} {i : Nat} (v : α) : (tab n f).set i v = tab n (fun j => if j = i then v else f j) := by
  apply List.ext_getElem?
  intro j
  rw [List.getElem?_set, tab_len, tab_at, tab_at]
  by_cases h1 : i = j
  · subst h1
    by_cases h2 : i < n <;> simp [h2]
  · rw [if_neg h1]
    by_cases h2 : j < n
    · rw [if_pos h2, if_pos h2, if_neg (fun e => h1 e.symm)]
    · rw [if_neg h2, if_neg h2]
theorem tab_same {α : Type} {n : Nat} {f g : Nat → α} (h : ∀ i, i < n → f i = g i) : tab n f = tab n g := by
  unfold tab
  exact List.map_congr_left (fun i hi => h i (List.mem_range.mp hi))
theorem tab_const {α : Type} (n : Nat) (c : α) : List.replicate n c = tab n (fun _ => c) := by
  unfold tab
  rw [List.map_const', List.length_range]
theorem drop_at {α : Type} {l : List α} {i : Nat} (h : i < l.length) : l.drop i = l[i] :: l.drop (i + 1) := List.drop_eq_getElem_cons h
theorem take_at {α : Type} {l : List α} {i : Nat} (h : i < l.length) : l.take (i + 1) = l.take i ++ [l[i]] := by
  rw [List.take_add_one, List.getElem?_eq_getElem h]; rfl
theorem L_take_le (x y : List ByteArray) (i k : Nat) : L (x.take i) (y.take k) ≤ x.length := Nat.le_trans (L_le _ _).1 (by simp; omega)
theorem L_drop_le (x y : List ByteArray) (i k : Nat) : L (x.drop i) (y.drop k) ≤ x.length := Nat.le_trans (L_le _ _).1 (by simp)
def lrow (x y : List ByteArray) (i : Nat) : List Int := tab (y.length + 1) (fun j => (L (x.take i) (y.take j) : Int))
def lmid (x y : List ByteArray) (i k : Nat) : List Int := tab (y.length + 1) (fun j => if j ≤ k then (L (x.take (i + 1)) (y.take j) : Int) else (L (x.take i) (y.take j) : Int))
theorem lmid_first (x y : List ByteArray) (i : Nat) : lmid x y i 0 = lrow x y i := tab_same (fun j hj => by
  show (if j ≤ 0 then _ else _) = _
  by_cases h : j ≤ 0
  · rw [if_pos h]
    obtain rfl : j = 0 := by omega
    rw [List.take_zero, L_nil_right, L_nil_right]
  · rw [if_neg h])
theorem lmid_last (x y : List ByteArray) (i : Nat) : lmid x y i y.length = lrow x y (i + 1) := tab_same (fun j hj => by
  show (if j ≤ y.length then _ else _) = _
  rw [if_pos (by omega)])
theorem lmid_step (x y : List ByteArray) (i k : Nat) (v : Int) (hv : v = (L (x.take (i + 1)) (y.take (k + 1)) : Int)) : (lmid x y i k).set (k + 1) v = lmid x y i (k + 1) := by
  unfold lmid
  rw [tab_set]
  refine tab_same (fun j hj => ?_)
  by_cases h : j = k + 1
  · subst h
    rw [if_pos rfl, if_pos (Nat.le_refl _), hv]
  · rw [if_neg h]
    by_cases h2 : j ≤ k
    · rw [if_pos h2, if_pos (by omega)]
    · rw [if_neg h2, if_neg (by omega)]
theorem lcs1_ev {x y : List ByteArray} (hx : x.length ≤ 1000000) (hy : y.length ≤ 1000000) (i : Nat) (hi : i < x.length) (r : Int) : ∀ (d k : Nat), k ≤ y.length → y.length - k = d →
    Ev (fun K => impl_lcs.l0 K y (lrow x y (i + 1)) x x.length ((i + 1 : Nat) : Int)) r → Ev (fun K => impl_lcs.l1 K y (lmid x y i k) x[i] (L (x.take i) (y.take k)) x x.length i y y.length k) r
  | 0, k, hk, hd, H => by
    obtain rfl : k = y.length := by omega
    refine Ev.step' ?_
    simp only [impl_lcs.l1]
    rw [w64_succ i (by omega), lmid_last]
    exact Ev.negf (by omega) H
  | d + 1, k, hk, hd, H => by
    have ih := lcs1_ev hx hy i hi r d (k + 1) (by omega) (by omega) H
    have hkl : k < y.length := by omega
    have hL := L_take_le x y i k
    refine Ev.step' ?_
    simp only [impl_lcs.l1]
    rw [w64_succ k (by omega)]
    have hlen : ((lmid x y i k).length : Int) = (y.length : Int) + 1 := by unfold lmid; rw [tab_len]; omega
    have hr1 : rd (lmid x y i k) ((k + 1 : Nat) : Int) = (L (x.take i) (y.take (k + 1)) : Int) := by
      unfold lmid; rw [tab_rd (by omega), if_neg (by omega)]
    have hr0 : rd (lmid x y i k) (k : Int) = (L (x.take (i + 1)) (y.take k) : Int) := by
      unfold lmid; rw [tab_rd (by omega), if_pos (Nat.le_refl _)]
    rw [rdAt hkl, hr1, hr0, hlen]
    refine Ev.posf (by omega) (Ev.posf (by omega) (Ev.posf (by omega) (Ev.posf (by omega) (Ev.posf (by omega) ?_))))
    by_cases c : x[i].toList = y[k].toList
    · refine Ev.posf c ?_
      rw [w64 (by omega) (by omega), Int.toNat_natCast, lmid_step x y i k _ (by rw [take_at hi, take_at hkl, bstr.mp c, L_snoc_same]; omega)]
      exact ih
    · refine Ev.negf c (Ev.posf (by omega) ?_)
      rw [Int.toNat_natCast, lmid_step x y i k _ (by
        have e1 := L_snoc_diff (fun e => c (bstr.mpr e)) (x.take i) (y.take k)
        rw [← take_at hi, ← take_at hkl] at e1
        rw [e1]; unfold mx; split <;> omega)]
      exact ih
theorem lcs0_ev {x y : List ByteArray} (hx : x.length ≤ 1000000) (hy : y.length ≤ 1000000) : ∀ (d i : Nat), i ≤ x.length → x.length - i = d → Ev (fun K => impl_lcs.l0 K y (lrow x y i) x x.length i) (L x y : Int)
  | 0, i, hi, hd => by
    obtain rfl : i = x.length := by omega
    refine Ev.step' ?_
    simp only [impl_lcs.l0]
    have hlen : ((lrow x y x.length).length : Int) = (y.length : Int) + 1 := by unfold lrow; rw [tab_len]; omega
    rw [hlen]
    refine Ev.negf (by omega) (Ev.posf (by omega) (Ev.posf (by omega) (EvT (Ev.now _) ?_)))
    unfold lrow
    rw [tab_rd (by omega), List.take_length, List.take_length]
  | d + 1, i, hi, hd => by
    have ih := lcs0_ev hx hy d (i + 1) (by omega) (by omega)
    have hil : i < x.length := by omega
    have h1 := lcs1_ev hx hy i hil _ _ 0 (Nat.zero_le _) rfl ih
    refine Ev.step' ?_
    simp only [impl_lcs.l0]
    rw [rdAt hil]
    refine Ev.posf (by omega) (Ev.posf (by omega) (Ev.posf (by omega) ?_))
    rw [lmid_first, List.take_zero, L_nil_right] at h1
    exact h1
theorem lcs_ev {x y : List ByteArray} (hx : x.length ≤ 1000000) (hy : y.length ≤ 1000000) : Ev (fun k => impl_lcs.f k x y) (L x y : Int) := by
  unfold impl_lcs.f
  rw [w64_succ _ (by omega)]
  refine Ev.posf (by omega) (Ev.posf (by omega) ?_)
  have h := lcs0_ev hx hy _ 0 (Nat.zero_le _) rfl
  have e : List.replicate (((y.length + 1 : Nat) : Int)).toNat (0 : Int) = lrow x y 0 := by
    rw [Int.toNat_natCast, tab_const]
    exact tab_same (fun j hj => by rw [List.take_zero, L_nil_left]; rfl)
  rw [e]
  exact h
/-- The program's match, from line i of the first text and line j of the second one on. -/
theorem match0_ev {a b : List ByteArray} (ha : a.length ≤ 1000000) (hb : b.length ≤ 1000000) : ∀ (d i j : Nat) (out : List Int), i ≤ a.length → j ≤ b.length → (a.length - i) + (b.length - j) ≤ d → out.length ≤ i →
    Ev (fun K => impl_match.l0 K a b out j i) (out ++ mtc (a.drop i) (b.drop j) j)
  | d, i, j, out, hi, hj, hd, ho => by
    by_cases hia : i < a.length
    case neg =>
      refine Ev.step' ?_
      simp only [impl_match.l0]
      rw [List.drop_eq_nil_of_le (by omega : a.length ≤ i), mtc, List.append_nil]
      exact Ev.negf (by omega) (Ev.now _)
    case pos =>
    obtain ⟨d, rfl⟩ : ∃ e, d = e + 1 := ⟨d - 1, by omega⟩
    have w1 := w64_succ i (by omega)
    have w2 := w64_succ j (by omega)
    have hnone : Ev (fun K => impl_match.l0 K a b (out ++ [(-1)]) j ((i + 1 : Nat) : Int)) (out ++ (-1 :: mtc (a.drop (i + 1)) (b.drop j) j)) := by
      have h := match0_ev ha hb d (i + 1) j (out ++ [(-1)]) (by omega) hj (by omega) (by simp; omega)
      rwa [List.append_assoc, List.singleton_append] at h
    refine Ev.step' ?_
    simp only [impl_match.l0]
    refine Ev.posf (by omega) ?_
    by_cases hjb : j < b.length
    · refine Ev.posf (by omega) (Ev.posf (by omega) (Ev.posf (by omega) (Ev.step' ?_)))
      simp only [impl_match.j1]
      rw [rdAt hia, rdAt hjb, w1, w2]
      by_cases c : a[i].toList = b[j].toList
      · have c2 := bstr.mp c
        refine Ev.posf (by simpa using c) (Ev.posf (by omega) ?_)
        have h := match0_ev ha hb d (i + 1) (j + 1) (out ++ [(j : Int)]) (by omega) (by omega) (by omega) (by simp; omega)
        rw [drop_at hia, drop_at hjb, mtc, if_pos c2]
        rwa [List.append_assoc, List.singleton_append] at h
      · have c2 : ¬ a[i] = b[j] := fun e => c (bstr.mpr e)
        refine Ev.negf (by simpa using c) (Ev.negf (by omega) (Ev.posf (by omega) (Ev.posf (by omega) (Ev.posf (by omega) (Ev.posf (by omega) ?_)))))
        refine Ev.bind (lcs_ev (by simp; omega) (by simp; omega)) (Ev.posf (by omega) (Ev.posf (by omega) (Ev.posf (by omega) (Ev.posf (by omega) (Ev.bind (lcs_ev (by simp; omega) (by simp; omega)) ?_)))))
        simp only [Int.toNat_natCast]
        by_cases g : L (a.drop i) (b.drop (j + 1)) ≤ L (a.drop (i + 1)) (b.drop j)
        · refine Ev.posf (by omega) (Ev.posf (by omega) ?_)
          rw [drop_at hia, drop_at hjb] at g ⊢
          rw [mtc, if_neg c2, if_pos g, ← drop_at hjb]
          exact hnone
        · refine Ev.negf (by omega) ?_
          have h := match0_ev ha hb d i (j + 1) out (by omega) (by omega) (by omega) ho
          rw [drop_at hia, drop_at hjb] at g ⊢
          rw [mtc, if_neg c2, if_neg g, ← drop_at hia]
          exact h
    · refine Ev.negf (by omega) (Ev.step' ?_)
      simp only [impl_match.j1]
      rw [w1]
      refine Ev.negf (by decide) (Ev.posf (by omega) (Ev.posf (by omega) ?_))
      rw [drop_at hia, List.drop_eq_nil_of_le (by omega : b.length ≤ j), mtc]
      rw [List.drop_eq_nil_of_le (by omega : b.length ≤ j)] at hnone
      exact hnone
termination_by d => d
theorem match_ev {a b : List ByteArray} (ha : a.length ≤ 1000000) (hb : b.length ≤ 1000000) : Ev (fun K => impl_match.f K a b) (mtc a b 0) := by
  have h := match0_ev ha hb _ 0 0 [] (Nat.zero_le _) (Nat.zero_le _) (Nat.le_refl _) (by simp)
  unfold impl_match.f
  exact h
end Go.Proofs.Ytfpdkeolecmepaa.Q
end
section
namespace Go.Proofs.Ytfpdkeolecmepaa.Q
open Go.RowKit Go.Proofs.YtfpdkeolecmepaaW.PrintWords Go.Proofs.YtfpdkeolecmepaaW.PrintMore
set_option linter.unusedVariables false
set_option linter.unusedSimpArgs false
/-- The table while it is filled: the rows from p on, and the row ahead of them from place q on. -/
def tb (a b : List ByteArray) (p q : Nat) : List (List Int) := tab (a.length + 1) (fun i => tab (b.length + 1) (fun j => if p ≤ i ∨ (i + 1 = p ∧ q ≤ j) then (L (a.drop i) (b.drop j) : Int) else 0))
theorem L_end_left (a b : List ByteArray) (i j : Nat) (h : a.length ≤ i) : L (a.drop i) (b.drop j) = 0 := by rw [List.drop_eq_nil_of_le h, L_nil_left]
theorem L_end_right (a b : List ByteArray) (i j : Nat) (h : b.length ≤ j) : L (a.drop i) (b.drop j) = 0 := by rw [List.drop_eq_nil_of_le h, L_nil_right]
theorem tb_rd {a b : List ByteArray} {p q i j : Nat} (hi : i ≤ a.length) (hj : j ≤ b.length) (h : p ≤ i ∨ (i + 1 = p ∧ q ≤ j)) : rd (rd_L7 (tb a b p q) (i : Int)) (j : Int) = (L (a.drop i) (b.drop j) : Int) := by
  unfold tb
  rw [tab_rdL (by omega), tab_rd (by omega), if_pos h]
theorem tb_len (a b : List ByteArray) (p q : Nat) : (tb a b p q).length = a.length + 1 := tab_len _ _
theorem tb_rlen {a b : List ByteArray} {p q i : Nat} (hi : i ≤ a.length) : (rd_L7 (tb a b p q) (i : Int)).length = b.length + 1 := by
  unfold tb
  rw [tab_rdL (by omega), tab_len]
theorem tb_first (a b : List ByteArray) : List.replicate (a.length + 1) (List.replicate (b.length + 1) (0 : Int)) = tb a b a.length b.length := by
  unfold tb
  rw [tab_const, tab_const]
  refine tab_same (fun i hi => tab_same (fun j hj => ?_))
  split
  · rename_i h
    rcases h with h | h
    · rw [L_end_left _ _ _ _ h]; rfl
    · rw [L_end_right _ _ _ _ h.2]; rfl
  · rfl
theorem tb_next (a b : List ByteArray) (p : Nat) : tb a b (p + 1) 0 = tb a b p b.length := by
  unfold tb
  refine tab_same (fun i hi => tab_same (fun j hj => ?_))
  by_cases h : p ≤ i
  · rw [if_pos (by omega), if_pos (.inl h)]
  · rw [if_neg (by omega)]
    split
    · rename_i h2
      rcases h2 with h2 | h2
      · exact absurd h2 h
      · rw [L_end_right _ _ _ _ h2.2]; rfl
    · rfl
theorem tb_set {a b : List ByteArray} {p q : Nat} (hp : p ≤ a.length) (v : Int) (hv : v = (L (a.drop p) (b.drop q) : Int)) : (tb a b (p + 1) (q + 1)).set p ((rd_L7 (tb a b (p + 1) (q + 1)) (p : Int)).set q v) = tb a b (p + 1) q := by
  have e : rd_L7 (tb a b (p + 1) (q + 1)) (p : Int) = tab (b.length + 1) (fun j => if p + 1 ≤ p ∨ (p + 1 = p + 1 ∧ q + 1 ≤ j) then (L (a.drop p) (b.drop j) : Int) else 0) := by
    unfold tb
    rw [tab_rdL (by omega)]
  rw [e, tab_set]
  unfold tb
  rw [tab_set]
  refine tab_same (fun i hi => ?_)
  by_cases h : i = p
  · subst h
    rw [if_pos rfl]
    refine tab_same (fun j hj => ?_)
    by_cases g : j = q
    · subst g
      rw [if_pos rfl, if_pos (by omega), hv]
    · rw [if_neg g]
      by_cases g2 : q ≤ j
      · rw [if_pos (by omega), if_pos (by omega)]
      · rw [if_neg (by omega), if_neg (by omega)]
  · rw [if_neg h]
    refine tab_same (fun j hj => ?_)
    by_cases g : p + 1 ≤ i
    · rw [if_pos (.inl g), if_pos (.inl g)]
    · rw [if_neg (by omega), if_neg (by omega)]
theorem tbl2_ev {a b : List ByteArray} (ha : a.length ≤ 1000000) (hb : b.length ≤ 1000000) (p : Nat) (hp : p < a.length) (r : List (List Int)) (H : Ev (fun K => spec_l1Table.l1 K a b (tb a b (p + 1) 0) ((p : Int) - 1)) r) : ∀ q : Nat, q ≤ b.length →
    Ev (fun K => spec_l1Table.l2 K a b (tb a b (p + 1) q) p ((q : Int) - 1)) r
  | 0, hq => by
    refine Ev.step' ?_
    simp only [spec_l1Table.l2]
    rw [w64 (x := (p : Int) - 1) (by omega) (by omega)]
    exact Ev.negf (by omega) H
  | q + 1, hq => by
    have ih := tbl2_ev ha hb p hp r H q (by omega)
    have hqb : q < b.length := by omega
    refine Ev.step' ?_
    simp only [spec_l1Table.l2]
    have e0 : ((q + 1 : Nat) : Int) - 1 = (q : Int) := by omega
    rw [e0, w64_succ p (by omega), w64_succ q (by omega), w64 (x := (q : Int) - 1) (by omega) (by omega), rdAt hp, rdAt hqb, tb_len, tb_rlen (i := p) (by omega), tb_rlen (i := p + 1) (by omega), tb_rd (i := p + 1) (j := q + 1) (by omega) (by omega) (.inl (Nat.le_refl _)),
      tb_rd (i := p + 1) (j := q) (by omega) (by omega) (.inl (Nat.le_refl _)), tb_rd (i := p) (j := q + 1) (by omega) (by omega) (.inr ⟨rfl, Nat.le_refl _⟩)]
    have hL := L_drop_le a b (p + 1) (q + 1)
    refine Ev.posf (by omega) (Ev.posf (by omega) (Ev.posf (by omega) (Ev.posf (by omega) (Ev.posf (by omega) ?_))))
    simp only [Int.toNat_natCast]
    by_cases c : a[p].toList = b[q].toList
    · refine Ev.posf c (Ev.posf (by omega) (Ev.posf (by omega) (Ev.posf (by omega) (Ev.posf (by omega) (Ev.posf (by omega) (Ev.posf (by omega) ?_))))))
      rw [w64 (by omega) (by omega), tb_set (by omega) _ (by rw [drop_at hp, drop_at hqb, bstr.mp c, L_same]; omega)]
      exact ih
    · have e1 := L_diff (fun e => c (bstr.mpr e)) (a.drop (p + 1)) (b.drop (q + 1))
      rw [← drop_at hp, ← drop_at hqb] at e1
      refine Ev.negf c (Ev.posf (by omega) (Ev.posf (by omega) (Ev.posf (by omega) (Ev.posf (by omega) (Ev.posf (by omega) (Ev.posf (by omega) ?_))))))
      by_cases g : L (a.drop p) (b.drop (q + 1)) ≤ L (a.drop (p + 1)) (b.drop q)
      · refine Ev.posf (by omega) (Ev.posf (by omega) ?_)
        rw [tb_set (by omega) _ (by rw [e1]; omega)]
        exact ih
      · refine Ev.negf (by omega) (Ev.posf (by omega) ?_)
        rw [tb_set (by omega) _ (by rw [e1]; omega)]
        exact ih
theorem tbl1_ev {a b : List ByteArray} (ha : a.length ≤ 1000000) (hb : b.length ≤ 1000000) : ∀ p : Nat, p ≤ a.length → Ev (fun K => spec_l1Table.l1 K a b (tb a b p b.length) ((p : Int) - 1)) (tb a b 0 b.length)
  | 0, hp => by
    refine Ev.step' ?_
    simp only [spec_l1Table.l1]
    exact Ev.negf (by omega) (Ev.now _)
  | p + 1, hp => by
    have ih := tbl1_ev ha hb p (by omega)
    rw [← tb_next] at ih
    have h := tbl2_ev ha hb p (by omega) _ ih b.length (Nat.le_refl _)
    refine Ev.step' ?_
    simp only [spec_l1Table.l1]
    have e0 : ((p + 1 : Nat) : Int) - 1 = (p : Int) := by omega
    rw [e0, w64 (x := (b.length : Int) - 1) (by omega) (by omega)]
    exact Ev.posf (by omega) h
theorem tbl0_ev {a b : List ByteArray} (ha : a.length ≤ 1000000) (hb : b.length ≤ 1000000) : ∀ (d i : Nat), i ≤ a.length + 1 → a.length + 1 - i = d → Ev (fun K => spec_l1Table.l0 K a b (List.replicate i (List.replicate (b.length + 1) (0 : Int))) i) (tb a b 0 b.length)
  | 0, i, hi, hd => by
    obtain rfl : i = a.length + 1 := by omega
    refine Ev.step' ?_
    simp only [spec_l1Table.l0]
    rw [tb_first, w64 (x := (a.length : Int) - 1) (by omega) (by omega)]
    exact Ev.negf (by omega) (tbl1_ev ha hb a.length (Nat.le_refl _))
  | d + 1, i, hi, hd => by
    have ih := tbl0_ev ha hb d (i + 1) (by omega) (by omega)
    refine Ev.step' ?_
    simp only [spec_l1Table.l0]
    rw [w64_succ i (by omega), w64_succ b.length (by omega), List.length_replicate, Int.toNat_natCast]
    refine Ev.posf (by omega) (Ev.posf (by omega) (Ev.posf (by omega) (Ev.posf (by omega) ?_)))
    rw [List.replicate_succ'] at ih
    exact ih
theorem tbl_ev {a b : List ByteArray} (ha : a.length ≤ 1000000) (hb : b.length ≤ 1000000) : Ev (fun K => spec_l1Table.f K a b) (tb a b 0 b.length) := by
  have h := tbl0_ev ha hb _ 0 (Nat.zero_le _) rfl
  unfold spec_l1Table.f
  exact h
/-- The reference's match, from line i of the first text and line j of the second one on. -/
theorem smatch0_ev {a b : List ByteArray} (ha : a.length ≤ 1000000) (hb : b.length ≤ 1000000) : ∀ (d i j : Nat) (out : List Int), i ≤ a.length → j ≤ b.length → (a.length - i) + (b.length - j) ≤ d → out.length ≤ i →
    Ev (fun K => spec_l1Match.l0 K a b (tb a b 0 b.length) out j i) (out ++ mtc (a.drop i) (b.drop j) j)
  | d, i, j, out, hi, hj, hd, ho => by
    by_cases hia : i < a.length
    case neg =>
      refine Ev.step' ?_
      simp only [spec_l1Match.l0]
      rw [List.drop_eq_nil_of_le (by omega : a.length ≤ i), mtc, List.append_nil]
      exact Ev.negf (by omega) (Ev.now _)
    case pos =>
    obtain ⟨d, rfl⟩ : ∃ e, d = e + 1 := ⟨d - 1, by omega⟩
    have w1 := w64_succ i (by omega)
    have w2 := w64_succ j (by omega)
    have hnone : Ev (fun K => spec_l1Match.l0 K a b (tb a b 0 b.length) (out ++ [(-1)]) j ((i + 1 : Nat) : Int)) (out ++ (-1 :: mtc (a.drop (i + 1)) (b.drop j) j)) := by
      have h := smatch0_ev ha hb d (i + 1) j (out ++ [(-1)]) (by omega) hj (by omega) (by simp; omega)
      rwa [List.append_assoc, List.singleton_append] at h
    refine Ev.step' ?_
    simp only [spec_l1Match.l0]
    refine Ev.posf (by omega) ?_
    by_cases hjb : j < b.length
    · refine Ev.posf (by omega) (Ev.posf (by omega) (Ev.posf (by omega) (Ev.step' ?_)))
      simp only [spec_l1Match.j1]
      rw [rdAt hia, rdAt hjb, w1, w2]
      by_cases c : a[i].toList = b[j].toList
      · have c2 := bstr.mp c
        refine Ev.posf (by simpa using c) (Ev.posf (by omega) ?_)
        have h := smatch0_ev ha hb d (i + 1) (j + 1) (out ++ [(j : Int)]) (by omega) (by omega) (by omega) (by simp; omega)
        rw [drop_at hia, drop_at hjb, mtc, if_pos c2]
        rwa [List.append_assoc, List.singleton_append] at h
      · have c2 : ¬ a[i] = b[j] := fun e => c (bstr.mpr e)
        rw [tb_len, tb_rlen (i := i) (by omega), tb_rlen (i := i + 1) (by omega), tb_rd (i := i + 1) (j := j) (by omega) (by omega) (.inl (Nat.zero_le _)), tb_rd (i := i) (j := j + 1) (by omega) (by omega) (.inl (Nat.zero_le _))]
        refine Ev.negf (by simpa using c) (Ev.negf (by omega) (Ev.posf (by omega) (Ev.posf (by omega) (Ev.posf (by omega) (Ev.posf (by omega) (Ev.posf (by omega) (Ev.posf (by omega) (Ev.posf (by omega) (Ev.posf (by omega) ?_)))))))))
        by_cases g : L (a.drop i) (b.drop (j + 1)) ≤ L (a.drop (i + 1)) (b.drop j)
        · refine Ev.posf (by omega) (Ev.posf (by omega) ?_)
          rw [drop_at hia, drop_at hjb] at g ⊢
          rw [mtc, if_neg c2, if_pos g, ← drop_at hjb]
          exact hnone
        · refine Ev.negf (by omega) ?_
          have h := smatch0_ev ha hb d i (j + 1) out (by omega) (by omega) (by omega) ho
          rw [drop_at hia, drop_at hjb] at g ⊢
          rw [mtc, if_neg c2, if_neg g, ← drop_at hia]
          exact h
    · refine Ev.negf (by omega) (Ev.step' ?_)
      simp only [spec_l1Match.j1]
      rw [w1]
      refine Ev.negf (by decide) (Ev.posf (by omega) (Ev.posf (by omega) ?_))
      rw [drop_at hia, List.drop_eq_nil_of_le (by omega : b.length ≤ j), mtc]
      rw [List.drop_eq_nil_of_le (by omega : b.length ≤ j)] at hnone
      exact hnone
termination_by d => d
theorem smatch_ev {a b : List ByteArray} (ha : a.length ≤ 1000000) (hb : b.length ≤ 1000000) : Ev (fun K => spec_l1Match.f K a b) (mtc a b 0) := by
  have h := smatch0_ev ha hb _ 0 0 [] (Nat.zero_le _) (Nat.zero_le _) (Nat.le_refl _) (by simp)
  unfold spec_l1Match.f
  exact Ev.bind (tbl_ev ha hb) h
end Go.Proofs.Ytfpdkeolecmepaa.Q
end
section
namespace Go.Proofs.Ytfpdkeolecmepaa.Q
open Go.RowKit Go.Proofs.YtfpdkeolecmepaaW.PrintWords
set_option linter.unusedVariables false
set_option linter.unusedSimpArgs false
/-- A code: not long, of bytes. -/
def Code (b : List Int) : Prop := b.length ≤ 2000 ∧ ∀ x ∈ b, 0 ≤ x ∧ x ≤ 255
theorem Code.rd {b : List Int} (h : Code b) (i : Int) : 0 ≤ rd b i ∧ rd b i ≤ 255 := by
  show 0 ≤ b.getD i.toNat 0 ∧ b.getD i.toNat 0 ≤ 255
  rw [List.getD_eq_getElem?_getD]
  by_cases hi : i.toNat < b.length
  · simp [hi]
    exact h.2 _ (List.getElem_mem hi)
  · simp [hi]
/-- A place in a code that is far from the end of the numbers. -/
def Pl (p : Int) : Prop := 0 ≤ p ∧ p ≤ 1000000000
theorem tmod_in {x n : Int} (hx : 0 ≤ x) (hn : 1 ≤ n) : 0 ≤ Int.tmod x n ∧ Int.tmod x n < n := by
  rw [Int.tmod_eq_emod_of_nonneg hx]
  exact ⟨Int.emod_nonneg _ (by omega), Int.emod_lt_of_pos _ (by omega)⟩
theorem pick_ev {b : List Int} (hb : Code b) {p : Int} (hp : Pl p) {n : Int} (hn : n ≤ 1000000) :
    ∃ v, Ev (fun k => spec_l30Rd_pick.f k b p n) (v, p + 1) ∧ 0 ≤ v ∧ (1 ≤ n → v < n) := by
  have e1 : wrap64 (p + 1) = p + 1 := w64 (by have := hp.1; omega) (by have := hp.2; omega)
  have e2 : wrap64 (p + 1 - 1) = p := by rw [show p + 1 - 1 = p by omega]; exact w64 (by have := hp.1; omega) (by have := hp.2; omega)
  by_cases h1 : n < 1
  · refine ⟨0, ⟨1, fun k hk => ?_⟩, by omega, by omega⟩
    obtain ⟨m, rfl⟩ : ∃ m, k = m + 1 := ⟨k - 1, by omega⟩
    simp only [spec_l30Rd_pick.f]
    rw [if_pos h1]
    simp only [spec_l30Rd_pick.j0]
    rw [if_pos trivial, e1]
  · by_cases h2 : (b.length : Int) = 0
    · refine ⟨0, ⟨1, fun k hk => ?_⟩, by omega, by omega⟩
      obtain ⟨m, rfl⟩ : ∃ m, k = m + 1 := ⟨k - 1, by omega⟩
      simp only [spec_l30Rd_pick.f]
      rw [if_neg h1]
      simp only [spec_l30Rd_pick.j0]
      rw [if_pos (by simpa using h2), e1]
    · have hL1 : 1 ≤ (b.length : Int) := by omega
      have hL2 : (b.length : Int) ≤ 2000 := by have := hb.1; omega
      have e3 : wrap64 (p * 7) = p * 7 := w64 (by have := hp.1; omega) (by have := hp.2; omega)
      have e4 : wrap64 (p * 7 + 3) = p * 7 + 3 := w64 (by have := hp.1; omega) (by have := hp.2; omega)
      have m1 := tmod_in hp.1 hL1
      have m2 := tmod_in (x := p * 7 + 3) (by have := hp.1; omega) hL1
      by_cases h3 : p < (b.length : Int)
      · have hA := hb.rd p
        have e5 : wrap64 (rd b p) = rd b p := w64 (by omega) (by omega)
        have m3 := tmod_in hA.1 (n := n) (by omega)
        refine ⟨Int.tmod (rd b p) n, ⟨1, fun k hk => ?_⟩, m3.1, fun _ => m3.2⟩
        obtain ⟨m, rfl⟩ : ∃ m, k = m + 1 := ⟨k - 1, by omega⟩
        simp only [spec_l30Rd_pick.f]
        rw [if_neg h1]
        simp only [spec_l30Rd_pick.j0]
        rw [if_neg (by simpa using h2), e1, e2, if_pos h3, if_pos hp.1, if_neg (by omega), e5]
      · have hA := hb.rd (Int.tmod p b.length)
        have hB := hb.rd (Int.tmod (p * 7 + 3) b.length)
        have f1 : wrap64 (rd b (Int.tmod p b.length)) = rd b (Int.tmod p b.length) := w64 (by omega) (by omega)
        have f2 : wrap64 (rd b (Int.tmod (p * 7 + 3) b.length)) = rd b (Int.tmod (p * 7 + 3) b.length) := w64 (by omega) (by omega)
        have hD : 0 ≤ Int.tdiv p b.length ∧ Int.tdiv p b.length ≤ 1000000000 := by
          rw [Int.tdiv_eq_ediv_of_nonneg hp.1]
          exact ⟨Int.ediv_nonneg hp.1 (by omega), Int.le_trans (Int.ediv_le_self _ hp.1) hp.2⟩
        have g1 : wrap64 (rd b (Int.tmod p b.length) * 131) = rd b (Int.tmod p b.length) * 131 := w64 (by omega) (by omega)
        have g2 : wrap64 (rd b (Int.tmod (p * 7 + 3) b.length) * 1117) = rd b (Int.tmod (p * 7 + 3) b.length) * 1117 := w64 (by omega) (by omega)
        have g3 : wrap64 (p * 29) = p * 29 := w64 (by have := hp.1; omega) (by have := hp.2; omega)
        have g4 : wrap64 (Int.tdiv p b.length) = Int.tdiv p b.length := w64 (by omega) (by omega)
        have g5 : wrap64 (Int.tdiv p b.length * 53) = Int.tdiv p b.length * 53 := w64 (by omega) (by omega)
        have g6 : wrap64 (rd b (Int.tmod p b.length) * 131 + rd b (Int.tmod (p * 7 + 3) b.length) * 1117) = rd b (Int.tmod p b.length) * 131 + rd b (Int.tmod (p * 7 + 3) b.length) * 1117 := w64 (by omega) (by omega)
        have g7 : wrap64 (rd b (Int.tmod p b.length) * 131 + rd b (Int.tmod (p * 7 + 3) b.length) * 1117 + p * 29) = rd b (Int.tmod p b.length) * 131 + rd b (Int.tmod (p * 7 + 3) b.length) * 1117 + p * 29 := w64 (by have := hp.1; omega) (by have := hp.2; omega)
        obtain ⟨X, hX⟩ : ∃ X, X = rd b (Int.tmod p b.length) * 131 + rd b (Int.tmod (p * 7 + 3) b.length) * 1117 + p * 29 + Int.tdiv p b.length * 53 := ⟨_, rfl⟩
        have hX0 : 0 ≤ X ∧ X ≤ 1000000000000 := by have := hp.1; have := hp.2; omega
        have hY : 0 ≤ Int.tdiv X 64 ∧ Int.tdiv X 64 ≤ 1000000000000 := by
          rw [Int.tdiv_eq_ediv_of_nonneg hX0.1]
          omega
        have g8 : wrap64 X = X := w64 (by omega) (by omega)
        have g9 : wrap64 (Int.tdiv X 64) = Int.tdiv X 64 := w64 (by omega) (by omega)
        have hx := xor_nn hX0.1 hY.1 (by omega) (by omega)
        have m3 := tmod_in hx.1 (n := n) (by omega)
        refine ⟨Int.tmod (Go.bits .xor .i64 X (Int.tdiv X 64)) n, ⟨1, fun k hk => ?_⟩, m3.1, fun _ => m3.2⟩
        obtain ⟨m, rfl⟩ : ∃ m, k = m + 1 := ⟨k - 1, by omega⟩
        simp only [spec_l30Rd_pick.f]
        rw [if_neg h1]
        simp only [spec_l30Rd_pick.j0]
        rw [if_neg (by simpa using h2)]
        simp only [e1, e2, e3, e4, f1, f2, g1, g2, g3, g4, g5, g6, g7, g8, ← hX, g9]
        rw [if_neg h3, if_neg h2, if_pos m1.1, if_pos m1.2, if_pos m2.1, if_pos m2.2, if_neg (by omega)]
theorem of_ev {b : List Int} (hb : Code b) {p : Int} (hp : Pl p) {l : List ByteArray} (h0 : 0 < l.length) (hn : l.length ≤ 1000000) :
    ∃ s, Ev (fun k => spec_l30Rd_of.f k b p l) (s, p + 1) ∧ s ∈ l := by
  obtain ⟨v, hv, h1, h2⟩ := pick_ev hb hp (n := l.length) (by omega)
  obtain ⟨i, rfl⟩ := toNat_of h1
  have hi : i < l.length := by omega
  refine ⟨l[i], ?_, List.getElem_mem hi⟩
  unfold spec_l30Rd_of.f
  refine Ev.bind hv ?_
  refine Ev.posf h1 (Ev.posf (by show ((i : Int)) < _; omega) ?_)
  rw [rdAt hi]
  exact Ev.now _
theorem one_ev {b : List Int} (hb : Code b) {p : Int} (hp : Pl p) {l : List Int} (h0 : 0 < l.length) (hn : l.length ≤ 1000000) :
    ∃ s, Ev (fun k => spec_l30Rd_one.f k b p l) (s, p + 1) ∧ s ∈ l := by
  obtain ⟨v, hv, h1, h2⟩ := pick_ev hb hp (n := l.length) (by omega)
  obtain ⟨i, rfl⟩ := toNat_of h1
  have hi : i < l.length := by omega
  refine ⟨l[i], ?_, List.getElem_mem hi⟩
  unfold spec_l30Rd_one.f
  refine Ev.bind hv ?_
  refine Ev.posf h1 (Ev.posf (by show ((i : Int)) < _; omega) ?_)
  rw [rdI hi]
  exact Ev.now _
theorem line_ev {b : List Int} (hb : Code b) {p : Int} (hp : Pl p) : ∃ s, Ev (fun k => spec_l30Line.f k b p) (s, p + 1) ∧ s.size ≤ 100 := by
  unfold spec_l30Line.f
  obtain ⟨s, hs, hm⟩ := of_ev hb hp (l := [⟨#[97]⟩, ⟨#[98]⟩, ⟨#[99]⟩, ⟨#[100]⟩, ⟨#[]⟩, ⟨#[120, 32, 121]⟩, ⟨#[115, 101, 101, 32, 97]⟩, ⟨#[115, 101, 101, 32, 100, 47, 101]⟩, ⟨#[101, 110, 100]⟩]) (by simp) (by simp)
  refine ⟨s, Ev.bind hs (Ev.now _), ?_⟩
  simp only [List.mem_cons, List.not_mem_nil, or_false] at hm
  rcases hm with rfl | rfl | rfl | rfl | rfl | rfl | rfl | rfl | rfl <;> decide
theorem Pl.add {p : Int} (h : 0 ≤ p ∧ p ≤ 1000000) {c : Int} (h0 : 0 ≤ c) (h1 : c ≤ 1000000) : Pl (p + c) := ⟨by omega, by omega⟩
theorem text0_ev {b : List Int} (hb : Code b) : ∀ (d : Nat) (out : List ByteArray) (p : Int), 0 ≤ p → p + d ≤ 1000000000 → out.length + d ≤ 1000000 → Sz out →
    ∃ r, Ev (fun k => spec_l30Text.l0 k out d b p) (r, p + d) ∧ r.length = out.length + d ∧ Sz r
  | 0, out, p, h0, h1, h2, hz => by
    refine ⟨out, ⟨1, fun k hk => ?_⟩, rfl, hz⟩
    obtain ⟨m, rfl⟩ : ∃ m, k = m + 1 := ⟨k - 1, by omega⟩
    simp [spec_l30Text.l0]
  | d + 1, out, p, h0, h1, h2, hz => by
    obtain ⟨s, hs, hs1⟩ := line_ev hb (p := p) ⟨h0, by omega⟩
    obtain ⟨r, hr, hl, hz2⟩ := text0_ev hb d (out ++ [s]) (p + 1) (by omega) (by omega) (by simp; omega) (hz.app (Sz.one hs1))
    refine ⟨r, ?_, by rw [hl]; simp; omega, hz2⟩
    refine Ev.step (f := fun k => if (((d + 1 : Nat) : Int)) > 0 then ((spec_l30Line.f k b p).bind fun bt237 => (if out.length < 8796093022208 then (spec_l30Text.l0 k (out ++ [bt237.1]) (wrap64 ((((d + 1 : Nat) : Int)) - 1)) b bt237.2) else (none))) else (some (out, p))) (fun k => rfl) ?_
    refine Ev.posf (by omega) (Ev.bind hs (Ev.posf (by omega) ?_))
    rw [show wrap64 (((d + 1 : Nat) : Int) - 1) = (d : Int) by rw [w64 (by omega) (by omega)]; omega]
    exact EvT hr (by rw [show p + 1 + (d : Int) = p + ((d + 1 : Nat) : Int) by omega])
theorem text_ev {b : List Int} (hb : Code b) {p : Int} (h0 : 0 ≤ p) (h1 : p ≤ 1000000) : ∃ r q, Ev (fun k => spec_l30Text.f k b p) (r, q) ∧ r.length ≤ 8 ∧ Sz r ∧ p ≤ q ∧ q ≤ p + 9 := by
  obtain ⟨v, hv, hm⟩ := one_ev hb (p := p) ⟨h0, by omega⟩ (l := [0, 1, 3, 5, 8]) (by simp) (by simp)
  have hv8 : 0 ≤ v ∧ v ≤ 8 := by simp at hm; omega
  obtain ⟨d, rfl⟩ := toNat_of hv8.1
  obtain ⟨r, hr, hl, hz⟩ := text0_ev hb d [] (p + 1) (by omega) (by omega) (by simp; omega) Sz.nil
  refine ⟨r, p + 1 + d, ?_, by rw [hl]; simp; omega, hz, ?_, ?_⟩
  · unfold spec_l30Text.f
    exact Ev.bind hv hr
  · omega
  · omega
theorem anyText_ev {b : List Int} (hb : Code b) {p : Int} (h0 : 0 ≤ p) (h1 : p ≤ 1000000) : ∃ r q, Ev (fun k => spec_l30AnyText.f k b p) (r, q) ∧ r.length ≤ 18 ∧ Sz r ∧ p ≤ q ∧ q ≤ p + 11 := by
  obtain ⟨t, q, ht, hl, hz, hq1, hq2⟩ := text_ev hb h0 h1
  obtain ⟨v, hv, hv0, hv1⟩ := pick_ev hb (p := q) ⟨by omega, by omega⟩ (n := 16) (by omega)
  unfold spec_l30AnyText.f
  by_cases c0 : v = 0
  · obtain ⟨s, hs, hm⟩ := of_ev hb (p := q + 1) ⟨by omega, by omega⟩ (l := [⟨#[97, 32, 108, 105, 110, 101, 32, 116, 111, 111, 32, 108, 111, 110, 103]⟩, ⟨#[120, 10, 121]⟩, ⟨#[255]⟩]) (by simp) (by simp)
    have hs1 : s.size ≤ 100 := by
      simp only [List.mem_cons, List.not_mem_nil, or_false] at hm
      rcases hm with rfl | rfl | rfl <;> decide
    exact ⟨t ++ [s], q + 1 + 1, Ev.bind ht (Ev.bind hv (Ev.posf c0 (Ev.bind hs (Ev.posf (by show t.length < _; omega) (Ev.now _))))), by simp; omega, hz.app (Sz.one hs1), by omega, by omega⟩
  · by_cases c1 : v = 1
    · exact ⟨_, q + 1, Ev.bind ht (Ev.bind hv (Ev.negf c0 (Ev.posf c1 (Ev.somef (Ev.posf (by simp; omega) (Ev.now _)))))), by simp; omega, hz.app (fun s hs => by simp only [List.mem_cons, List.not_mem_nil, or_false] at hs; rcases hs with rfl | rfl | rfl | rfl | rfl | rfl | rfl | rfl | rfl | rfl <;> decide), by omega, by omega⟩
    · exact ⟨t, q + 1, Ev.bind ht (Ev.bind hv (Ev.negf c0 (Ev.negf c1 (Ev.now _)))), by omega, hz, by omega, by omega⟩
theorem turn0_ev {b : List Int} (hb : Code b) : ∀ (d : Nat) (out : List ByteArray) (p : Int), 0 ≤ p → p + 3 * d ≤ 1000000000 → out.length ≤ 1000 → Sz out →
    ∃ r q, Ev (fun k => spec_l30Turn.l0 k out d b p) (r, q) ∧ r.length ≤ max out.length 10 ∧ Sz r ∧ p ≤ q ∧ q ≤ p + 3 * d
  | 0, out, p, h0, h1, h2, hz => by
    refine ⟨out, p, ⟨1, fun k hk => ?_⟩, by omega, hz, by omega, by omega⟩
    obtain ⟨m, rfl⟩ : ∃ m, k = m + 1 := ⟨k - 1, by omega⟩
    simp [spec_l30Turn.l0]
  | d + 1, out, p, h0, h1, h2, hz => by
    have e1 : wrap64 ((out.length : Int) + 1) = out.length + 1 := w64 (by omega) (by omega)
    have e2 : wrap64 (((d + 1 : Nat) : Int) - 1) = (d : Int) := by rw [w64 (by omega) (by omega)]; omega
    obtain ⟨i, hi, hi0, hi1⟩ := pick_ev hb (p := p) ⟨h0, by omega⟩ (n := out.length + 1) (by omega)
    obtain ⟨c, hc, hc0, hc1⟩ := pick_ev hb (p := p + 1) ⟨by omega, by omega⟩ (n := 3) (by omega)
    obtain ⟨s, hs, hs1⟩ := line_ev hb (p := p + 1 + 1) ⟨by omega, by omega⟩
    have hi2 : i ≤ out.length := by have := hi1 (by omega); omega
    obtain ⟨n, rfl⟩ := toNat_of hi0
    have step : ∀ (o2 : List ByteArray) (q : Int), o2.length ≤ max out.length 10 → Sz o2 → p ≤ q → q ≤ p + 3 → (∀ r, Ev (fun k => spec_l30Turn.l0 k o2 d b q) r → Ev (fun k => spec_l30Turn.l0 (k + 1) out ((d + 1 : Nat) : Int) b p) r) →
        ∃ r q, Ev (fun k => spec_l30Turn.l0 k out ((d + 1 : Nat) : Int) b p) (r, q) ∧ r.length ≤ max out.length 10 ∧ Sz r ∧ p ≤ q ∧ q ≤ p + 3 * ((d + 1 : Nat) : Int) := by
      intro o2 q g1 gz g2 g3 g4
      obtain ⟨r, q', hr, hl, hz2, g5, g6⟩ := turn0_ev hb d o2 q (by omega) (by omega) (by omega) gz
      exact ⟨r, q', Ev.step' (g4 _ hr), by omega, hz2, by omega, by omega⟩
    have wn : wrap64 ((n : Int) + 1) = n + 1 := w64 (by omega) (by omega)
    have hd : ((d + 1 : Nat) : Int) > 0 := by omega
    by_cases c0 : c = 0
    · by_cases g : (out.length : Int) < 10
      · refine step (([] ++ out.take (n : Int).toNat) ++ [s] ++ out.drop (n : Int).toNat) (p + 1 + 1 + 1) (by simp; omega) (((Sz.nil.app (hz.take _)).app (Sz.one hs1)).app (hz.drop _)) (by omega) (by omega) (fun r h => ?_)
        simp only [spec_l30Turn.l0, e1, e2]
        exact Ev.posf hd (Ev.bind hi (Ev.bind hc (Ev.posf c0 (Ev.posf g (Ev.somef (Ev.posf hi0 (Ev.posf hi2 (Ev.somef (Ev.posf (by simp; omega) (Ev.somef (Ev.bind hs (Ev.posf (by simp; omega) (Ev.somef (Ev.somef (Ev.posf (by simp; omega) h)))))))))))))))
      · refine step out (p + 1 + 1) (by omega) hz (by omega) (by omega) (fun r h => ?_)
        simp only [spec_l30Turn.l0, e1, e2]
        exact Ev.posf hd (Ev.bind hi (Ev.bind hc (Ev.posf c0 (Ev.negf g h))))
    · by_cases c1 : c = 1
      · by_cases g : (n : Int) < out.length
        · refine step (([] ++ out.take (n : Int).toNat) ++ out.drop ((n : Int) + 1).toNat) (p + 1 + 1) (by simp; omega) ((Sz.nil.app (hz.take _)).app (hz.drop _)) (by omega) (by omega) (fun r h => ?_)
          simp only [spec_l30Turn.l0, e1, e2]
          refine Ev.posf hd (Ev.bind hi (Ev.bind hc ?_))
          simp only [wn, Option.bind_some]
          exact Ev.negf c0 (Ev.posf c1 (Ev.posf g (Ev.posf hi0 (Ev.posf hi2 (Ev.posf (by simp; omega) (Ev.posf (by omega) (Ev.posf (by omega) (Ev.posf (by simp; omega) h))))))))
        · refine step out (p + 1 + 1) (by omega) hz (by omega) (by omega) (fun r h => ?_)
          simp only [spec_l30Turn.l0, e1, e2]
          exact Ev.posf hd (Ev.bind hi (Ev.bind hc (Ev.negf c0 (Ev.posf c1 (Ev.negf g h)))))
      · by_cases g : (n : Int) < out.length
        · refine step (out.set (n : Int).toNat s) (p + 1 + 1 + 1) (by simp; omega) (hz.set _ hs1) (by omega) (by omega) (fun r h => ?_)
          simp only [spec_l30Turn.l0, e1, e2]
          exact Ev.posf hd (Ev.bind hi (Ev.bind hc (Ev.negf c0 (Ev.negf c1 (Ev.posf g (Ev.bind hs (Ev.posf hi0 h)))))))
        · refine step out (p + 1 + 1) (by omega) hz (by omega) (by omega) (fun r h => ?_)
          simp only [spec_l30Turn.l0, e1, e2]
          exact Ev.posf hd (Ev.bind hi (Ev.bind hc (Ev.negf c0 (Ev.negf c1 (Ev.negf g h)))))
theorem turn_ev {b : List Int} (hb : Code b) {p : Int} (h0 : 0 ≤ p) (h1 : p ≤ 1000000) (t : List ByteArray) (ht : t.length ≤ 1000) (hz : Sz t) :
    ∃ r q, Ev (fun k => spec_l30Turn.f k b p t) (r, q) ∧ r.length ≤ max t.length 10 ∧ Sz r ∧ p ≤ q ∧ q ≤ p + 10 := by
  obtain ⟨c, hc, hc0, hc1⟩ := pick_ev hb (p := p) ⟨h0, by omega⟩ (n := 4) (by omega)
  have hc2 := hc1 (by omega)
  obtain ⟨d, rfl⟩ := toNat_of hc0
  obtain ⟨r, q, hr, hl, hz2, g1, g2⟩ := turn0_ev hb d ([] ++ t) (p + 1) (by omega) (by omega) (by simpa using ht) (Sz.nil.app hz)
  refine ⟨r, q, ?_, by simpa using hl, hz2, by omega, by omega⟩
  unfold spec_l30Turn.f
  exact Ev.somef (Ev.posf (by simp; omega) (Ev.bind hc hr))
theorem open_ev {l : List Int} (hw : ∀ x ∈ l, 0 ≤ x ∧ x ≤ 255) : ∃ b, spec_l30Open.f l = some (b, 0) ∧ Code b := by
  unfold spec_l30Open.f
  by_cases h : (l.length : Int) > 2000
  · exact ⟨l.take 2000, by rw [if_pos h, if_pos (by omega)], by simp; omega, fun x hx => hw x (List.mem_of_mem_take hx)⟩
  · exact ⟨l, by rw [if_neg h], by omega, hw⟩
end Go.Proofs.Ytfpdkeolecmepaa.Q
end
section
namespace Go.Proofs.Ytfpdkeolecmepaa.Q
open Go.RowKit Go.Proofs.YtfpdkeolecmepaaW.PrintWords
set_option linter.unusedVariables false
set_option linter.unusedSimpArgs false
def okc (c : UInt8) : Bool := decide (32 ≤ c.toNat) && decide (c.toNat ≤ 126)
def lineB (s : ByteArray) : Bool := s.data.toList.all okc && decide (s.size ≤ 12)
def textB (l : List ByteArray) : Bool := decide (l.length ≤ 10) && l.all lineB
/-- Not too long for a loop over it. -/
def Sm (l : List ByteArray) : Prop := l.length ≤ 1000000 ∧ ∀ s ∈ l, s.size ≤ 1000000
theorem bt_nat {s : ByteArray} {i : Nat} (h : i < s.size) : bt s (i : Int) = ((s.data.toList[i]'(by simpa using h)).toNat : Int) := by
  simp [bt, h]
  rfl
theorem drop_all {α : Type} (p : α → Bool) (l : List α) (i : Nat) (h : i < l.length) : (l.drop i).all p = (p l[i] && (l.drop (i + 1)).all p) := by
  rw [List.drop_eq_getElem_cons h, List.all_cons]
theorem implLine0_ev (s : ByteArray) (hs : s.size ≤ 1000000) : ∀ (d i : Nat), i ≤ s.size → s.size - i = d →
    Ev (fun k => impl_lineOk.l0 k s s.size i) ((s.data.toList.drop i).all okc && decide (s.size ≤ 12))
  | 0, i, hi, hd => by
    refine Ev.step' ?_
    simp only [impl_lineOk.l0]
    refine Ev.negf (by omega) ?_
    have e : s.data.toList.drop i = [] := List.drop_eq_nil_of_le (by have : s.data.toList.length = s.size := by simp
                                                                     omega)
    rw [e]
    exact EvT (Ev.now _) (by simp; omega)
  | d + 1, i, hi, hd => by
    have hl : i < s.size := by omega
    have hl2 : i < s.data.toList.length := by simpa using hl
    refine Ev.step' ?_
    simp only [impl_lineOk.l0]
    rw [drop_all okc _ i hl2, bt_nat hl]
    refine Ev.posf (by omega) (Ev.posf (by omega) (Ev.posf (by omega) ?_))
    by_cases h1 : (((s.data.toList[i]'hl2).toNat : Nat) : Int) < 32
    · refine Ev.posf h1 (EvT (Ev.now _) ?_)
      have : okc (s.data.toList[i]'hl2) = false := by simp only [okc, Bool.and_eq_false_iff, decide_eq_false_iff_not]; omega
      rw [this]; rfl
    · by_cases h2 : (((s.data.toList[i]'hl2).toNat : Nat) : Int) > 126
      · refine Ev.negf h1 (Ev.posf h2 (EvT (Ev.now _) ?_))
        have : okc (s.data.toList[i]'hl2) = false := by simp only [okc, Bool.and_eq_false_iff, decide_eq_false_iff_not]; omega
        rw [this]; rfl
      · refine Ev.negf h1 (Ev.negf h2 ?_)
        have : okc (s.data.toList[i]'hl2) = true := by simp only [okc, Bool.and_eq_true, decide_eq_true_eq]; omega
        rw [this, Bool.true_and, show wrap64 ((i : Int) + 1) = ((i + 1 : Nat) : Int) by rw [w64 (by omega) (by omega)]; omega]
        exact implLine0_ev s hs d (i + 1) (by omega) (by omega)
theorem implLine_ev (s : ByteArray) (hs : s.size ≤ 1000000) : Ev (fun k => impl_lineOk.f k s) (lineB s) := by
  unfold impl_lineOk.f
  exact EvT (implLine0_ev s hs _ 0 (by omega) rfl) (by simp [lineB])
theorem specLine0_ev (s : ByteArray) (hs : s.size ≤ 1000000) : ∀ (d i : Nat), i ≤ s.size → s.size - i = d →
    Ev (fun k => spec_l1Line.l0 k s i) ((s.data.toList.drop i).all okc && decide (s.size ≤ 12))
  | 0, i, hi, hd => by
    refine Ev.step' ?_
    simp only [spec_l1Line.l0]
    refine Ev.negf (by omega) ?_
    have e : s.data.toList.drop i = [] := List.drop_eq_nil_of_le (by have : s.data.toList.length = s.size := by simp
                                                                     omega)
    rw [e]
    exact EvT (Ev.now _) (by simp; omega)
  | d + 1, i, hi, hd => by
    have hl : i < s.size := by omega
    have hl2 : i < s.data.toList.length := by simpa using hl
    refine Ev.step' ?_
    simp only [spec_l1Line.l0]
    rw [drop_all okc _ i hl2, bt_nat hl]
    refine Ev.posf (by omega) (Ev.posf (by omega) ?_)
    by_cases h1 : (((s.data.toList[i]'hl2).toNat : Nat) : Int) < 32
    · refine Ev.posf h1 (EvT (Ev.now _) ?_)
      have : okc (s.data.toList[i]'hl2) = false := by simp only [okc, Bool.and_eq_false_iff, decide_eq_false_iff_not]; omega
      rw [this]; rfl
    · by_cases h2 : (((s.data.toList[i]'hl2).toNat : Nat) : Int) > 126
      · refine Ev.negf h1 (Ev.posf h2 (EvT (Ev.now _) ?_))
        have : okc (s.data.toList[i]'hl2) = false := by simp only [okc, Bool.and_eq_false_iff, decide_eq_false_iff_not]; omega
        rw [this]; rfl
      · refine Ev.negf h1 (Ev.negf h2 ?_)
        have : okc (s.data.toList[i]'hl2) = true := by simp only [okc, Bool.and_eq_true, decide_eq_true_eq]; omega
        rw [this, Bool.true_and, show wrap64 ((i : Int) + 1) = ((i + 1 : Nat) : Int) by rw [w64 (by omega) (by omega)]; omega]
        exact specLine0_ev s hs d (i + 1) (by omega) (by omega)
theorem specLine_ev (s : ByteArray) (hs : s.size ≤ 1000000) : Ev (fun k => spec_l1Line.f k s) (lineB s) := by
  unfold spec_l1Line.f
  exact EvT (specLine0_ev s hs _ 0 (by omega) rfl) (by simp [lineB])
theorem anyF_ev {α : Type} (f : Nat → α → Option Bool) (p : α → Bool) : ∀ l : List α, (∀ x ∈ l, Ev (fun k => f k x) (p x)) → Ev (fun k => anyF (f k) l) (l.any p)
  | [], h => Ev.now _
  | x :: t, h => by
    show Ev (fun k => (f k x).bind fun b => if b then some true else anyF (f k) t) ((x :: t).any p)
    refine Ev.bind (h x List.mem_cons_self) ?_
    cases e : p x with
    | true => exact EvT (Ev.posf rfl (Ev.now _)) (by simp [e])
    | false => exact EvT (Ev.negf (by simp) (anyF_ev f p t (fun y hy => h y (List.mem_cons_of_mem _ hy)))) (by simp [e])
theorem implText_ev (l : List ByteArray) (hl : Sm l) : Ev (fun k => impl_TextOk.f k l) (textB l) := by
  unfold impl_TextOk.f
  by_cases c : l.length ≤ 10
  · refine Ev.posf c (EvT (Ev.mapf _ (anyF_ev impl_TextOk_1.f (fun s => !lineB s) l (fun x hx => ?_))) ?_)
    · unfold impl_TextOk_1.f
      exact Ev.bind (implLine_ev x (hl.2 x hx)) (Ev.now _)
    · rw [textB, decide_eq_true c, Bool.true_and, ← List.not_all_eq_any_not]
      simp
  · exact Ev.negf c (EvT (Ev.now _) (by simp [textB]; omega))
theorem specText0_ev (l : List ByteArray) (hl : Sm l) : ∀ (d i : Nat), i ≤ l.length → l.length - i = d →
    Ev (fun k => spec_l1Ok.l0 k l i) ((l.drop i).all lineB && decide (l.length ≤ 10))
  | 0, i, hi, hd => by
    refine Ev.step' ?_
    simp only [spec_l1Ok.l0]
    refine Ev.negf (by omega) ?_
    rw [List.drop_eq_nil_of_le (by omega)]
    exact EvT (Ev.now _) (by simp; omega)
  | d + 1, i, hi, hd => by
    have hlt : i < l.length := by omega
    have hl1 := hl.1
    refine Ev.step' ?_
    simp only [spec_l1Ok.l0]
    rw [drop_all lineB l i hlt, rdAt hlt]
    refine Ev.posf (by omega) (Ev.posf (by omega) (Ev.bind (specLine_ev _ (hl.2 _ (List.getElem_mem hlt))) ?_))
    cases e : lineB l[i] with
    | false => exact Ev.negf (by simp) (EvT (Ev.now _) (by simp))
    | true =>
      refine Ev.posf rfl ?_
      rw [Bool.true_and, show wrap64 ((i : Int) + 1) = ((i + 1 : Nat) : Int) by rw [w64 (by omega) (by omega)]; omega]
      exact specText0_ev l hl d (i + 1) (by omega) (by omega)
theorem specText_ev (l : List ByteArray) (hl : Sm l) : Ev (fun k => spec_l1Ok.f k l) (textB l) := by
  unfold spec_l1Ok.f
  exact EvT (specText0_ev l hl _ 0 (by omega) rfl) (by simp [textB, Bool.and_comm])
theorem smTexts0_ev (a b : List ByteArray) (h : a.length = b.length) (hs : a.length ≤ 100000000) : ∀ (d i : Nat), i ≤ a.length → a.length - i = d →
    ∃ r, Ev (fun k => laws_smTexts.l0 k a b i) r ∧ (r = true ↔ a.drop i = b.drop i)
  | 0, i, hi, hd => by
    refine ⟨true, Ev.step' ?_, ?_⟩
    · simp only [laws_smTexts.l0]
      exact Ev.negf (by omega) (Ev.now _)
    · rw [List.drop_eq_nil_of_le (by omega), List.drop_eq_nil_of_le (by omega)]; simp
  | d + 1, i, hi, hd => by
    have h1 : i < a.length := by omega
    have h2 : i < b.length := by omega
    rw [List.drop_eq_getElem_cons h1, List.drop_eq_getElem_cons h2]
    by_cases c : a[i].toList = b[i].toList
    · obtain ⟨r, hr, he⟩ := smTexts0_ev a b h hs d (i + 1) (by omega) (by omega)
      refine ⟨r, Ev.step' ?_, ?_⟩
      · simp only [laws_smTexts.l0]
        rw [rdAt h1, rdAt h2, show wrap64 ((i : Int) + 1) = ((i + 1 : Nat) : Int) by rw [w64 (by omega) (by omega)]; omega]
        exact Ev.posf (by omega) (Ev.posf (by omega) (Ev.posf (by omega) (Ev.posf c hr)))
      · rw [he, bstr.mp c]; exact ⟨fun e => by rw [e], fun e => (List.cons.inj e).2⟩
    · refine ⟨false, Ev.step' ?_, ?_⟩
      · simp only [laws_smTexts.l0]
        rw [rdAt h1, rdAt h2]
        exact Ev.posf (by omega) (Ev.posf (by omega) (Ev.posf (by omega) (Ev.negf c (Ev.now _))))
      · exact ⟨fun e => (by cases e), fun e => absurd (bstr.mpr (List.cons.inj e).1) c⟩
theorem smTexts_ev (a b : List ByteArray) (hs : a.length ≤ 100000000) : ∃ r, Ev (fun k => laws_smTexts.f k a b) r ∧ (r = true ↔ a = b) := by
  unfold laws_smTexts.f
  by_cases h : a.length = b.length
  · obtain ⟨r, hr, he⟩ := smTexts0_ev a b h hs _ 0 (by omega) rfl
    exact ⟨r, Ev.posf (by omega) hr, by simpa using he⟩
  · exact ⟨false, Ev.negf (by omega) (Ev.now _), by simp; intro e; exact h (by rw [e])⟩
theorem smTexts_refl (a : List ByteArray) (hs : a.length ≤ 100000000) : Ev (fun k => laws_smTexts.f k a a) true := by
  obtain ⟨r, hr, he⟩ := smTexts_ev a a hs
  rw [he.mpr rfl] at hr
  exact hr
end Go.Proofs.Ytfpdkeolecmepaa.Q
end
section
namespace Go.Proofs.Ytfpdkeolecmepaa.Q
open Go.RowKit Go.Proofs.YtfpdkeolecmepaaW.PrintWords Go.Proofs.YtfpdkeolecmepaaW.PrintMore
set_option linter.unusedVariables false
set_option linter.unusedSimpArgs false
def allB (o a b : List ByteArray) : Bool := textB o && (textB a && textB b)
theorem textB_len {l : List ByteArray} (h : textB l = true) : l.length ≤ 10 := by
  unfold textB at h
  simp only [Bool.and_eq_true, decide_eq_true_eq] at h
  exact h.1
theorem implMerge_ev {o a b : List ByteArray} (ho : o.length ≤ 1000) (ha : a.length ≤ 1000) (hb : b.length ≤ 1000) : Ev (fun k => impl_merge.f k o a b) (mrg o a b) := by
  unfold impl_merge.f
  refine Ev.bind (match_ev (by omega) (by omega)) (Ev.bind (match_ev (by omega) (by omega)) ?_)
  rw [mgG_mrg ho ha hb]
  exact Ev.now _
theorem specMerge_ev {o a b : List ByteArray} (ho : o.length ≤ 1000) (ha : a.length ≤ 1000) (hb : b.length ≤ 1000) : Ev (fun k => spec_l3Of.f k o a b) (mrg o a b) := by
  unfold spec_l3Of.f
  refine Ev.bind (smatch_ev (by omega) (by omega)) (Ev.bind (smatch_ev (by omega) (by omega)) ?_)
  rw [mgG_mrg ho ha hb]
  exact Ev.now _
theorem areTexts_ev {o a b : List ByteArray} (ho : Sm o) (ha : Sm a) (hb : Sm b) : Ev (fun k => impl_areTexts.f k o a b) (allB o a b) := by
  unfold impl_areTexts.f allB
  refine Ev.bind (implText_ev o ho) ?_
  cases textB o with
  | false => exact Ev.negf (by decide) (Ev.now _)
  | true =>
    refine Ev.posf rfl (Ev.bind (implText_ev a ha) ?_)
    cases textB a with
    | false => exact Ev.negf (by decide) (Ev.now _)
    | true => exact Ev.posf rfl (Ev.bind (implText_ev b hb) (Ev.now _))
/-- No row of a part is long. -/
def SmP (ps : List Pt) : Prop := ps.length ≤ 100000000 ∧ ∀ p ∈ ps, p.f1.length ≤ 100000000 ∧ p.f2.length ≤ 100000000 ∧ p.f3.length ≤ 100000000 ∧ p.f4.length ≤ 100000000
theorem rdP {ps : List Pt} {i : Nat} (h : i < ps.length) : rd_T31 ps (i : Int) = ps[i] := by
  simp [rd_T31, List.getD_eq_getElem?_getD, h]
/-- The clashes' rows are not long. -/
def clP (ps : List Pt) : Prop := ∀ p ∈ ps, p.f2.length ≤ 1000 ∧ p.f3.length ≤ 1000 ∧ p.f4.length ≤ 1000
theorem clP_res {ps : List Pt} (h : clP ps) (l : List ByteArray) : clP (res ps l) := by
  unfold res
  split
  · exact h
  · split
    · rename_i h1 h2
      rcases List.eq_nil_or_concat ps with rfl | ⟨q, p, hqp⟩
      · exact absurd h2.1 (by simp)
      · rw [List.concat_eq_append] at hqp
        subst hqp
        have e2 : (q ++ [p]).getLastD z31 = p := by simp [List.getLastD_eq_getLast?]
        rw [e2, List.dropLast_concat]
        intro x hx
        rcases List.mem_append.1 hx with hx | hx
        · exact h x (List.mem_append_left _ hx)
        · rw [List.mem_singleton.1 hx]
          exact h p (by simp)
    · intro x hx
      rcases List.mem_append.1 hx with hx | hx
      · exact h x hx
      · rw [List.mem_singleton.1 hx]
        exact ⟨by simp, by simp, by simp⟩
theorem clP_reg {ps : List Pt} (h : clP ps) {o a b : List ByteArray} (ho : o.length ≤ 1000) (ha : a.length ≤ 1000) (hb : b.length ≤ 1000) : clP (reg ps o a b) := by
  unfold reg
  split
  · exact clP_res h b
  · split
    · exact clP_res h a
    · intro x hx
      rcases List.mem_append.1 hx with hx | hx
      · exact h x hx
      · rw [List.mem_singleton.1 hx]
        exact ⟨ho, ha, hb⟩
theorem mg_small {o a b : List ByteArray} {mA mB : List Int} (ho : o.length ≤ 1000) (ha : a.length ≤ 1000) (hb : b.length ≤ 1000) : ∀ (d i j k N : Nat) (ps : List Pt), smP N ps → clP ps → smP (N + 2000 * d + 1000) (mg o a b mA mB d i j k ps) ∧ clP (mg o a b mA mB d i j k ps)
  | 0, i, j, k, N, ps, h, hc => by
    rw [mg]
    exact ⟨smP_reg h (by simp; omega) (by simp; omega), clP_reg hc (by simp; omega) (by simp; omega) (by simp; omega)⟩
  | d + 1, i, j, k, N, ps, h, hc => by
    simp only [mg]
    split
    · obtain ⟨h1, h2⟩ := mg_small (mA := mA) (mB := mB) ho ha hb d i j k N ps h hc
      exact ⟨⟨by have := h1.1; omega, fun q hq => by have := h1.2 q hq; omega⟩, h2⟩
    · have g1 := fun x y => seg2_le o x y
      have g2 := fun x y => seg2_le a x y
      have g3 := fun x y => seg2_le b x y
      obtain ⟨h1, h2⟩ := mg_small (mA := mA) (mB := mB) ho ha hb d (o.length - (d + 1) + 1) ((mA.getD (o.length - (d + 1)) 0).toNat + 1) ((mB.getD (o.length - (d + 1)) 0).toNat + 1) (N + 1000 + 1000) _
        (smP_res (smP_reg h (o := seg2 o i (o.length - (d + 1))) (a := seg2 a j (mA.getD (o.length - (d + 1)) 0).toNat) (b := seg2 b k (mB.getD (o.length - (d + 1)) 0).toNat) (Nat.le_trans (g2 _ _) ha) (Nat.le_trans (g3 _ _) hb)) (l := [o.getD (o.length - (d + 1)) ByteArray.empty]) (by simp))
        (clP_res (clP_reg hc (Nat.le_trans (g1 _ _) ho) (Nat.le_trans (g2 _ _) ha) (Nat.le_trans (g3 _ _) hb)) _)
      exact ⟨⟨by have := h1.1; omega, fun q hq => by have := h1.2 q hq; omega⟩, h2⟩
theorem mrg_small {o a b : List ByteArray} (ho : o.length ≤ 1000) (ha : a.length ≤ 1000) (hb : b.length ≤ 1000) : SmP (mrg o a b) := by
  obtain ⟨h1, h2⟩ := mg_small (mA := mtc o a 0) (mB := mtc o b 0) ho ha hb o.length 0 0 0 0 [] ⟨by simp, by simp⟩ (fun p hp => by cases hp)
  unfold mrg
  exact ⟨by have := h1.1; omega, fun p hp => ⟨by have := h1.2 p hp; omega, by have := h2 p hp; omega, by have := h2 p hp; omega, by have := h2 p hp; omega⟩⟩
theorem Sm_of {l : List ByteArray} (h : l.length ≤ 1000000) (hz : Sz l) : Sm l := ⟨h, fun s hs => by have := hz s hs; omega⟩
theorem three_ev {l : List Int} (hw : ∀ x ∈ l, 0 ≤ x ∧ x ≤ 255) : ∃ o a b, Ev (fun k => spec_l30Three.f k l) (o, a, b) ∧ Sm o ∧ Sm a ∧ Sm b := by
  obtain ⟨c, hc, hb⟩ := open_ev hw
  obtain ⟨t, q, ht, hl, hz, hq0, hq1⟩ := anyText_ev hb (p := 0) (by omega) (by omega)
  obtain ⟨u, q2, hu, hul, huz, hu0, hu1⟩ := turn_ev hb (p := q) (by omega) (by omega) t (by omega) hz
  obtain ⟨v, hv, hv0, hv1⟩ := pick_ev hb (p := q2) ⟨by omega, by omega⟩ (n := 8) (by omega)
  unfold spec_l30Three.f
  by_cases c0 : v = 0
  · exact ⟨t, u, u, Ev.bind (by rw [hc]; exact Ev.now _) (Ev.bind ht (Ev.bind hu (Ev.bind hv (Ev.posf c0 (Ev.now _))))), Sm_of (by omega) hz, Sm_of (by omega) huz, Sm_of (by omega) huz⟩
  · obtain ⟨x, q3, hx, hxl, hxz, hx0, hx1⟩ := turn_ev hb (p := q2 + 1) (by omega) (by omega) t (by omega) hz
    exact ⟨t, u, x, Ev.bind (by rw [hc]; exact Ev.now _) (Ev.bind ht (Ev.bind hu (Ev.bind hv (Ev.negf c0 (Ev.bind hx (Ev.now _)))))), Sm_of (by omega) hz, Sm_of (by omega) huz, Sm_of (by omega) hxz⟩
end Go.Proofs.Ytfpdkeolecmepaa.Q
end
section
namespace Go.Proofs.Ytfpdkeolecmepaa.Q
open Go.RowKit Go.Proofs.YtfpdkeolecmepaaW.PrintWords Go.Proofs.YtfpdkeolecmepaaW.PrintMore
set_option linter.unusedVariables false
set_option linter.unusedSimpArgs false
/-- No part clashes. -/
def clr (ps : List Pt) : Bool := ps.all (fun p => !p.f0)
/-- All lines that don't clash. -/
def txt (ps : List Pt) : List ByteArray := ps.flatMap (fun p => p.f1)
def sText (ps : List Pt) : List ByteArray × Bool := if clr ps = true ∧ textB (txt ps) = true then (txt ps, true) else ([], false)
def tOf (o a b : List ByteArray) : List ByteArray × Bool := if allB o a b = true then sText (mrg o a b) else ([], false)
theorem clr_app (x y : List Pt) : clr (x ++ y) = (clr x && clr y) := by simp [clr, List.all_append]
theorem txt_app (x y : List Pt) : txt (x ++ y) = txt x ++ txt y := by simp [txt, List.flatMap_append]
theorem clr_cons (p : Pt) (ps : List Pt) : clr (p :: ps) = (!p.f0 && clr ps) := by simp [clr]
theorem txt_cons (p : Pt) (ps : List Pt) : txt (p :: ps) = p.f1 ++ txt ps := by simp [txt]
theorem clr_swp (ps : List Pt) : clr (ps.map swp) = clr ps := by simp [clr, List.all_map, Function.comp_def, swp]
theorem txt_swp (ps : List Pt) : txt (ps.map swp) = txt ps := by simp [txt, List.flatMap_map, swp]
theorem res_last (q : List Pt) (p : Pt) (l : List ByteArray) (h : p.f0 = false) (hl : l ≠ []) : res (q ++ [p]) l = q ++ [addL p l] := res_old (fun e => hl (List.length_eq_zero_iff.mp e)) h
theorem res_cases (ps : List Pt) (l : List ByteArray) : (l = [] ∧ res ps l = ps) ∨ (∃ q p, ps = q ++ [p] ∧ p.f0 = false ∧ res ps l = q ++ [addL p l]) ∨ res ps l = ps ++ [⟨false, l, [], [], []⟩] := by
  by_cases hl : l = []
  · exact .inl ⟨hl, by rw [res, if_pos hl]⟩
  · rcases List.eq_nil_or_concat ps with rfl | ⟨q, p, hqp⟩
    · exact .inr (.inr (res_new (fun e => hl (List.length_eq_zero_iff.mp e)) (.inl rfl)))
    · rw [List.concat_eq_append] at hqp
      subst hqp
      cases hp : p.f0 with
      | false => exact .inr (.inl ⟨q, p, rfl, hp, res_last q p l hp hl⟩)
      | true => exact .inr (.inr (res_new (fun e => hl (List.length_eq_zero_iff.mp e)) (.inr ⟨q, p, rfl, hp⟩)))
theorem clr_res (ps : List Pt) (l : List ByteArray) : clr (res ps l) = clr ps := by
  rcases res_cases ps l with ⟨_, e⟩ | ⟨q, p, rfl, hp, e⟩ | e
  · rw [e]
  · rw [e, clr_app, clr_app]; simp [clr, addL]
  · rw [e, clr_app]; simp [clr]
theorem txt_res (ps : List Pt) (l : List ByteArray) : txt (res ps l) = txt ps ++ l := by
  rcases res_cases ps l with ⟨hl, e⟩ | ⟨q, p, rfl, hp, e⟩ | e
  · rw [e, hl, List.append_nil]
  · rw [e, txt_app, txt_app]; simp [txt, addL]
  · rw [e, txt_app]; simp [txt]
/-- All lines, those of clashes too. -/
def tot (ps : List Pt) : Nat := (ps.map (fun p => p.f1.length + p.f2.length + p.f3.length + p.f4.length)).sum
theorem tot_app (x y : List Pt) : tot (x ++ y) = tot x + tot y := by simp [tot]
theorem tot_res (ps : List Pt) (l : List ByteArray) : tot (res ps l) = tot ps + l.length := by
  rcases res_cases ps l with ⟨hl, e⟩ | ⟨q, p, rfl, hp, e⟩ | e
  · rw [e, hl]; rfl
  · rw [e, tot_app, tot_app]; simp [tot, addL]; omega
  · rw [e, tot_app]; simp [tot]
theorem tot_reg (ps : List Pt) (o a b : List ByteArray) : tot (reg ps o a b) ≤ tot ps + (o.length + a.length + b.length) := by
  unfold reg
  split
  · rw [tot_res]; omega
  · split
    · rw [tot_res]; omega
    · rw [tot_app]; simp [tot]
theorem tot_mg (o a b : List ByteArray) (mA mB : List Int) : ∀ (d i j k : Nat) (ps : List Pt), tot (mg o a b mA mB d i j k ps) ≤ tot ps + (d + 1) * (o.length + a.length + b.length + 1)
  | 0, i, j, k, ps => by
    rw [mg]
    have := tot_reg ps (o.drop i) (a.drop j) (b.drop k)
    simp only [List.length_drop] at this
    omega
  | d + 1, i, j, k, ps => by
    simp only [mg]
    rw [Nat.succ_mul (d + 1)]
    split
    · have := tot_mg o a b mA mB d i j k ps
      omega
    · have h1 := tot_mg o a b mA mB d (o.length - (d + 1) + 1) ((mA.getD (o.length - (d + 1)) 0).toNat + 1) ((mB.getD (o.length - (d + 1)) 0).toNat + 1) (res (reg ps (seg2 o i (o.length - (d + 1))) (seg2 a j (mA.getD (o.length - (d + 1)) 0).toNat) (seg2 b k (mB.getD (o.length - (d + 1)) 0).toNat)) [o.getD (o.length - (d + 1)) ByteArray.empty])
      rw [tot_res] at h1
      have h2 := tot_reg ps (seg2 o i (o.length - (d + 1))) (seg2 a j (mA.getD (o.length - (d + 1)) 0).toNat) (seg2 b k (mB.getD (o.length - (d + 1)) 0).toNat)
      have g1 := seg2_le o i (o.length - (d + 1))
      have g2 := seg2_le a j (mA.getD (o.length - (d + 1)) 0).toNat
      have g3 := seg2_le b k (mB.getD (o.length - (d + 1)) 0).toNat
      simp only [List.length_singleton] at h1
      omega
theorem tot_mrg {o a b : List ByteArray} (ho : o.length ≤ 10) (ha : a.length ≤ 10) (hb : b.length ≤ 10) : tot (mrg o a b) ≤ 1000 := by
  have h := tot_mg o a b (mtc o a 0) (mtc o b 0) o.length 0 0 0 []
  have e : tot [] = 0 := rfl
  have h2 := Nat.mul_le_mul (show o.length + 1 ≤ 11 by omega) (show o.length + a.length + b.length + 1 ≤ 31 by omega)
  unfold mrg
  omega
theorem txt_tot : ∀ ps : List Pt, (txt ps).length ≤ tot ps
  | [] => Nat.le_refl _
  | p :: ps => by
    have := txt_tot ps
    simp only [txt, tot, List.flatMap_cons, List.length_append, List.map_cons, List.sum_cons] at this ⊢
    omega
/-- All lines of parts are such. -/
def inP (Q : ByteArray → Prop) (ps : List Pt) : Prop := ∀ p ∈ ps, (∀ s ∈ p.f1, Q s) ∧ (∀ s ∈ p.f2, Q s) ∧ (∀ s ∈ p.f3, Q s) ∧ (∀ s ∈ p.f4, Q s)
theorem inP_app {Q : ByteArray → Prop} {x y : List Pt} (h : inP Q x) (k : inP Q y) : inP Q (x ++ y) := fun p hp => (List.mem_append.1 hp).elim (h p) (k p)
theorem inP_one {Q : ByteArray → Prop} {p : Pt} (h : (∀ s ∈ p.f1, Q s) ∧ (∀ s ∈ p.f2, Q s) ∧ (∀ s ∈ p.f3, Q s) ∧ (∀ s ∈ p.f4, Q s)) : inP Q [p] := fun q hq => by rw [List.mem_singleton.1 hq]; exact h
theorem inP_res {Q : ByteArray → Prop} {ps : List Pt} (h : inP Q ps) {l : List ByteArray} (hl : ∀ s ∈ l, Q s) : inP Q (res ps l) := by
  rcases res_cases ps l with ⟨_, e⟩ | ⟨q, p, rfl, hp, e⟩ | e
  · rw [e]; exact h
  · rw [e]
    have hp2 := h p (by simp)
    exact inP_app (fun x hx => h x (List.mem_append_left _ hx)) (inP_one ⟨fun s hs => (List.mem_append.1 hs).elim (hp2.1 s) (hl s), hp2.2.1, hp2.2.2.1, hp2.2.2.2⟩)
  · rw [e]
    exact inP_app h (inP_one ⟨hl, by simp, by simp, by simp⟩)
theorem inP_reg {Q : ByteArray → Prop} {ps : List Pt} (h : inP Q ps) {o a b : List ByteArray} (ho : ∀ s ∈ o, Q s) (ha : ∀ s ∈ a, Q s) (hb : ∀ s ∈ b, Q s) : inP Q (reg ps o a b) := by
  unfold reg
  split
  · exact inP_res h hb
  · split
    · exact inP_res h ha
    · exact inP_app h (inP_one ⟨by simp, ho, ha, hb⟩)
theorem seg2_mem {l : List ByteArray} {i j : Nat} {s : ByteArray} (h : s ∈ seg2 l i j) : s ∈ l := List.mem_of_mem_take (List.mem_of_mem_drop h)
theorem inP_mg {Q : ByteArray → Prop} {o a b : List ByteArray} {mA mB : List Int} (ho : ∀ s ∈ o, Q s) (ha : ∀ s ∈ a, Q s) (hb : ∀ s ∈ b, Q s) : ∀ (d i j k : Nat) (ps : List Pt), d ≤ o.length → inP Q ps → inP Q (mg o a b mA mB d i j k ps)
  | 0, i, j, k, ps, hd, h => by
    rw [mg]
    exact inP_reg h (fun s hs => ho s (List.mem_of_mem_drop hs)) (fun s hs => ha s (List.mem_of_mem_drop hs)) (fun s hs => hb s (List.mem_of_mem_drop hs))
  | d + 1, i, j, k, ps, hd, h => by
    simp only [mg]
    split
    · exact inP_mg ho ha hb d i j k ps (by omega) h
    · refine inP_mg ho ha hb d _ _ _ _ (by omega) (inP_res (inP_reg h (fun s hs => ho s (seg2_mem hs)) (fun s hs => ha s (seg2_mem hs)) (fun s hs => hb s (seg2_mem hs))) (fun s hs => ?_))
      rw [List.mem_singleton.1 hs, List.getD_eq_getElem?_getD, List.getElem?_eq_getElem (by omega : o.length - (d + 1) < o.length)]
      exact ho _ (List.getElem_mem _)
theorem inP_mrg {Q : ByteArray → Prop} {o a b : List ByteArray} (ho : ∀ s ∈ o, Q s) (ha : ∀ s ∈ a, Q s) (hb : ∀ s ∈ b, Q s) : inP Q (mrg o a b) := inP_mg ho ha hb o.length 0 0 0 [] (Nat.le_refl _) (fun p hp => by cases hp)
theorem inP_txt {Q : ByteArray → Prop} {ps : List Pt} (h : inP Q ps) : ∀ s ∈ txt ps, Q s := fun s hs => by
  obtain ⟨p, hp, hs⟩ := List.mem_flatMap.1 hs
  exact (h p hp).1 s hs
theorem stl_no : ∀ (ps : List Pt) (out : List ByteArray), stl noBy ps out = if clr ps = true then some (out ++ txt ps) else none
  | [], out => by simp [stl, clr, txt]
  | p :: ps, out => by
    rw [stl]
    cases h : p.f0 with
    | true => simp [noBy, clr, h]
    | false =>
      rw [if_neg (by decide), stl_no ps]
      simp [clr, txt, h]
/-- Texts that are ok: few lines, none too long. -/
def Ok3 (o a b : List ByteArray) : Prop := Sm o ∧ Sm a ∧ Sm b
theorem allB_len {o a b : List ByteArray} (h : allB o a b = true) : o.length ≤ 10 ∧ a.length ≤ 10 ∧ b.length ≤ 10 := by
  unfold allB at h
  simp only [Bool.and_eq_true] at h
  exact ⟨textB_len h.1, textB_len h.2.1, textB_len h.2.2⟩
theorem mrg_inS {o a b : List ByteArray} (hs : Ok3 o a b) : inP (fun s => s.size ≤ 1000000) (mrg o a b) := inP_mrg hs.1.2 hs.2.1.2 hs.2.2.2
theorem part_tot : ∀ {ps : List Pt} {p : Pt}, p ∈ ps → p.f1.length + p.f2.length + p.f3.length + p.f4.length ≤ tot ps
  | q :: ps, p, h => by
    simp only [tot, List.map_cons, List.sum_cons]
    rcases List.mem_cons.1 h with rfl | h
    · omega
    · have := part_tot h
      unfold tot at this
      omega
theorem implText3_ev {o a b : List ByteArray} (hs : Ok3 o a b) : Ev (fun k => impl_MergeText.f k o a b) (tOf o a b) := by
  unfold impl_MergeText.f tOf
  refine Ev.bind (areTexts_ev hs.1 hs.2.1 hs.2.2) ?_
  by_cases h : allB o a b = true
  · rw [if_pos h]
    obtain ⟨h1, h2, h3⟩ := allB_len h
    refine Ev.posf h (Ev.bind (implMerge_ev (by omega) (by omega) (by omega)) ?_)
    have ht := tot_mrg h1 h2 h3
    have hsm := (mrg_small (o := o) (a := a) (b := b) (by omega) (by omega) (by omega)).1
    have hl := (mg_small (o := o) (a := a) (b := b) (mA := mtc o a 0) (mB := mtc o b 0) (by omega) (by omega) (by omega) o.length 0 0 0 0 [] ⟨by simp, by simp⟩ (fun p hp => by cases hp)).1.1
    unfold settledF
    refine Ev.posf ⟨by unfold mrg; omega, fun p hp => ⟨by have := part_tot hp; omega, by simp [noBy]⟩⟩ ?_
    rw [stl_no]
    unfold sText
    cases hc : clr (mrg o a b) with
    | false => simp only [Bool.false_eq_true, if_false, false_and]; exact Ev.now _
    | true =>
      simp only [if_true, true_and, List.nil_append]
      have hx := txt_tot (mrg o a b)
      refine EvT (Ev.bind (implText_ev (txt (mrg o a b)) ⟨by omega, inP_txt (mrg_inS hs)⟩) (Ev.now _)) ?_
      cases textB (txt (mrg o a b)) <;> simp
  · rw [if_neg h]
    exact Ev.negf h (Ev.now _)
theorem specText0_ev2 (ps : List Pt) (hps : ps.length ≤ 1000000) : ∀ (d i : Nat) (out : List ByteArray), i ≤ ps.length → ps.length - i = d → Sm (out ++ txt (ps.drop i)) →
    Ev (fun k => spec_l3Text.l0 k ps out i) (if clr (ps.drop i) = true ∧ textB (out ++ txt (ps.drop i)) = true then (out ++ txt (ps.drop i), true) else ([], false))
  | 0, i, out, hi, hd, hs => by
    refine Ev.step' ?_
    simp only [spec_l3Text.l0]
    rw [List.drop_eq_nil_of_le (by omega)] at hs ⊢
    simp only [txt, clr, List.flatMap_nil, List.append_nil, List.all_nil, true_and] at hs ⊢
    refine Ev.negf (by omega) (Ev.bind (specText_ev out hs) ?_)
    exact Ev.ite (fun h => by rw [if_pos h]; exact Ev.now _) (fun h => by rw [if_neg h]; exact Ev.now _)
  | d + 1, i, out, hi, hd, hs => by
    have hip : i < ps.length := by omega
    refine Ev.step' ?_
    simp only [spec_l3Text.l0]
    rw [rdP hip, w64_succ i (by omega)]
    refine Ev.posf (by omega) (Ev.posf (by omega) ?_)
    rw [drop_at hip] at hs ⊢
    rw [txt_cons] at hs ⊢
    rw [clr_cons]
    cases hf : ps[i].f0 with
    | true =>
      refine Ev.posf rfl ?_
      simp only [Bool.not_true, Bool.false_and, Bool.false_eq_true, false_and, if_false]
      exact Ev.now _
    | false =>
      have hl := hs.1
      simp only [List.length_append] at hl
      refine Ev.negf (by decide) (Ev.posf (by omega) ?_)
      simp only [Bool.not_false, Bool.true_and]
      rw [← List.append_assoc] at hs ⊢
      exact specText0_ev2 ps hps d (i + 1) (out ++ ps[i].f1) (by omega) (by omega) hs
theorem specText3_ev {o a b : List ByteArray} (hs : Ok3 o a b) : Ev (fun k => spec_MergeText.f k o a b) (tOf o a b) := by
  have hno : ∀ x, x = true → allB o a b = false → Ev (fun k => spec_MergeText.j0 k o a b x) (tOf o a b) := fun x hx h => by
    subst hx
    unfold tOf
    rw [if_neg (by rw [h]; decide)]
    refine Ev.step' ?_
    simp only [spec_MergeText.j0]
    exact Ev.posf trivial (Ev.now _)
  unfold spec_MergeText.f
  refine Ev.bind (specText_ev o hs.1) ?_
  cases eo : textB o with
  | false => exact Ev.negf (by decide) (hno _ rfl (by simp [allB, eo]))
  | true =>
    refine Ev.posf rfl (Ev.bind (specText_ev a hs.2.1) ?_)
    cases ea : textB a with
    | false => exact Ev.negf (by decide) (hno _ rfl (by simp [allB, eo, ea]))
    | true =>
      refine Ev.posf rfl (Ev.bind (specText_ev b hs.2.2) ?_)
      cases eb : textB b with
      | false => exact hno _ rfl (by simp [allB, eo, ea, eb])
      | true =>
        have h : allB o a b = true := by simp [allB, eo, ea, eb]
        obtain ⟨h1, h2, h3⟩ := allB_len h
        refine Ev.step' ?_
        simp only [spec_MergeText.j0]
        refine Ev.negf (by decide) (Ev.bind (specMerge_ev (by omega) (by omega) (by omega)) (Ev.bind (a := tOf o a b) ?_ (Ev.now _)))
        unfold tOf
        rw [if_pos h]
        have ht := tot_mrg h1 h2 h3
        have hx := txt_tot (mrg o a b)
        have hl := (mg_small (o := o) (a := a) (b := b) (mA := mtc o a 0) (mB := mtc o b 0) (by omega) (by omega) (by omega) o.length 0 0 0 0 [] ⟨by simp, by simp⟩ (fun p hp => by cases hp)).1.1
        have := specText0_ev2 (mrg o a b) (by unfold mrg; omega) _ 0 [] (Nat.zero_le _) rfl ⟨by simp; omega, by simpa using inP_txt (mrg_inS hs)⟩
        unfold spec_l3Text.f sText
        simpa using this
end Go.Proofs.Ytfpdkeolecmepaa.Q
end
section
namespace Go.Proofs.Ytfpdkeolecmepaa.Q
open Go.RowKit Go.Proofs.YtfpdkeolecmepaaW.PrintWords
set_option linter.unusedVariables false
set_option linter.unusedSimpArgs false
/-- Lines that are one are the same. -/
theorem mtc_eq {α : Type} [DecidableEq α] : ∀ (N : Nat) (x y : List α) (j : Nat), x.length + y.length ≤ N → ∀ (n : Nat) (v : Int), (mtc x y j)[n]? = some v → 0 ≤ v → (j : Int) ≤ v ∧ ∃ s, x[n]? = some s ∧ y[v.toNat - j]? = some s
  | N, [], y, j, hn, n, v, hv, h0 => by rw [mtc] at hv; simp at hv
  | 0, a :: x, y, j, hn, n, v, hv, h0 => by simp at hn
  | N + 1, a :: x, [], j, hn, n, v, hv, h0 => by
    rw [mtc] at hv
    cases n with
    | zero => simp at hv; omega
    | succ n =>
      rw [List.getElem?_cons_succ] at hv
      rcases mtc_in _ x [] j (Nat.le_refl _) v (List.mem_of_getElem? hv) with e | e
      · omega
      · simp at e; omega
  | N + 1, a :: x, b :: y, j, hn, n, v, hv, h0 => by
    simp only [List.length_cons] at hn
    rw [mtc] at hv
    split at hv
    · rename_i e
      cases n with
      | zero =>
        simp at hv
        exact ⟨by omega, a, rfl, by rw [show v.toNat - j = 0 by omega, e]; rfl⟩
      | succ n =>
        rw [List.getElem?_cons_succ] at hv
        obtain ⟨h1, s, h2, h3⟩ := mtc_eq N x y (j + 1) (by omega) n v hv h0
        refine ⟨by omega, s, h2, ?_⟩
        rw [show v.toNat - j = (v.toNat - (j + 1)) + 1 by omega, List.getElem?_cons_succ]
        exact h3
    · split at hv
      · cases n with
        | zero => simp at hv; omega
        | succ n =>
          rw [List.getElem?_cons_succ] at hv
          obtain ⟨h1, s, h2, h3⟩ := mtc_eq N x (b :: y) j (by simp; omega) n v hv h0
          exact ⟨h1, s, h2, h3⟩
      · obtain ⟨h1, s, h2, h3⟩ := mtc_eq N (a :: x) y (j + 1) (by simp; omega) n v hv h0
        refine ⟨by omega, s, h2, ?_⟩
        rw [show v.toNat - j = (v.toNat - (j + 1)) + 1 by omega, List.getElem?_cons_succ]
        exact h3
theorem mtc_at {x y : List ByteArray} {n : Nat} (hn : n < x.length) (h0 : 0 ≤ (mtc x y 0).getD n 0) : ((mtc x y 0).getD n 0).toNat < y.length ∧ y.getD ((mtc x y 0).getD n 0).toNat ByteArray.empty = x.getD n ByteArray.empty := by
  have hl : n < (mtc x y 0).length := by rw [mtc_len _ x y 0 (Nat.le_refl _)]; exact hn
  rw [List.getD_eq_getElem?_getD, List.getElem?_eq_getElem hl, Option.getD_some] at h0 ⊢
  obtain ⟨_, s, h2, h3⟩ := mtc_eq _ x y 0 (Nat.le_refl _) n _ (List.getElem?_eq_getElem hl) h0
  rw [Nat.sub_zero] at h3
  refine ⟨?_, ?_⟩
  · obtain ⟨h, _⟩ := List.getElem?_eq_some_iff.1 h3
    exact h
  · rw [List.getD_eq_getElem?_getD, List.getD_eq_getElem?_getD, h2, h3]
theorem seg2_take (b : List ByteArray) (k v : Nat) (h : k ≤ v) : b.take k ++ seg2 b k v = b.take v := by
  unfold seg2
  have e : b.take k = (b.take v).take k := by rw [List.take_take]; congr 1; omega
  rw [e, List.take_append_drop]
theorem take_snoc (b : List ByteArray) (v : Nat) (h : v < b.length) : b.take v ++ [b.getD v ByteArray.empty] = b.take (v + 1) := by
  rw [take_at h, List.getD_eq_getElem?_getD, List.getElem?_eq_getElem h]; rfl
/-- Where each piece is as the second side has it, all is as it has it. -/
theorem mg_two {o a b : List ByteArray} {mA mB : List Int} (I : Nat → Nat → Nat → Prop) (hE : ∀ i j k, I i j k → a.drop j = o.drop i ∨ a.drop j = b.drop k)
    (hS : ∀ i j k n, I i j k → n < o.length → 0 ≤ mA.getD n 0 → 0 ≤ mB.getD n 0 → (seg2 a j (mA.getD n 0).toNat = seg2 o i n ∨ seg2 a j (mA.getD n 0).toNat = seg2 b k (mB.getD n 0).toNat) ∧ I (n + 1) ((mA.getD n 0).toNat + 1) ((mB.getD n 0).toNat + 1))
    (hB : ∀ n, n < o.length → 0 ≤ mB.getD n 0 → (mB.getD n 0).toNat < b.length ∧ b.getD (mB.getD n 0).toNat ByteArray.empty = o.getD n ByteArray.empty)
    (lB : mB.length = o.length) (pB : mB.Pairwise (fun u v => 0 ≤ u → 0 ≤ v → u < v)) : ∀ (d i j k : Nat) (ps : List Pt), d ≤ o.length → I i j k → k ≤ b.length → (∀ n, o.length - d ≤ n → n < o.length → 0 ≤ mB.getD n 0 → (k : Int) ≤ mB.getD n 0) →
    clr ps = true → txt ps = b.take k → clr (mg o a b mA mB d i j k ps) = true ∧ txt (mg o a b mA mB d i j k ps) = b
  | 0, i, j, k, ps, hd, hI, hk, kB, hc, ht => by
    rw [mg, reg, if_pos (hE i j k hI), clr_res, txt_res, ht]
    exact ⟨hc, List.take_append_drop k b⟩
  | d + 1, i, j, k, ps, hd, hI, hk, kB, hc, ht => by
    simp only [mg]
    by_cases h : mA.getD (o.length - (d + 1)) 0 < 0 ∨ mB.getD (o.length - (d + 1)) 0 < 0
    · rw [if_pos h]
      exact mg_two I hE hS hB lB pB d i j k ps (by omega) hI hk (fun n h1 h2 => kB n (by omega) h2) hc ht
    · rw [if_neg h]
      have hA0 : 0 ≤ mA.getD (o.length - (d + 1)) 0 := by omega
      have hB0 : 0 ≤ mB.getD (o.length - (d + 1)) 0 := by omega
      obtain ⟨g1, g2⟩ := hS i j k (o.length - (d + 1)) hI (by omega) hA0 hB0
      obtain ⟨g3, g4⟩ := hB (o.length - (d + 1)) (by omega) hB0
      have g5 := kB _ (Nat.le_refl _) (by omega) hB0
      rw [reg, if_pos g1]
      refine mg_two I hE hS hB lB pB d _ _ _ _ (by omega) g2 (by omega) (fun n h1 h2 h3 => ?_) (by rw [clr_res, clr_res]; exact hc) ?_
      · have := pw_at pB (n := o.length - (d + 1)) (n' := n) (by omega) (by omega) hB0 h3
        omega
      · rw [txt_res, txt_res, ht, ← g4, seg2_take b k _ (by omega), take_snoc b _ g3]
theorem mtc_id (o : List ByteArray) {n : Nat} (h : n < o.length) : (mtc o o 0).getD n 0 = (n : Int) := by
  rw [mtc_self, List.getD_eq_getElem?_getD, List.getElem?_map, List.getElem?_range h]
  simp
theorem mrg_left (o b : List ByteArray) : clr (mrg o o b) = true ∧ txt (mrg o o b) = b := by
  unfold mrg
  refine mg_two (fun i j k => i = j) (fun i j k h => .inl (by rw [h])) (fun i j k n h hn hA hB => ?_) (fun n hn h0 => mtc_at hn h0) (mtc_len _ o b 0 (Nat.le_refl _)) (mtc_inc _ o b 0 (Nat.le_refl _)) o.length 0 0 0 [] (Nat.le_refl _) rfl (Nat.zero_le _) (fun n h1 h2 h3 => by omega) rfl rfl
  rw [mtc_id o hn, Int.toNat_natCast]
  exact ⟨.inl (by rw [h]), rfl⟩
theorem tOf_of {o a b t : List ByteArray} (h : allB o a b = true) (hm : clr (mrg o a b) = true ∧ txt (mrg o a b) = t) (ht : textB t = true) : tOf o a b = (t, true) := by
  unfold tOf sText
  rw [if_pos h, hm.2, if_pos ⟨hm.1, ht⟩]
end Go.Proofs.Ytfpdkeolecmepaa.Q
end
section
namespace Go.Proofs.Ytfpdkeolecmepaa.Q
open Go.RowKit Go.Proofs.YtfpdkeolecmepaaW.PrintWords
set_option linter.unusedVariables false
set_option linter.unusedSimpArgs false
section
variable {α : Type} [DecidableEq α]
theorem L_app (x x' y y' : List α) : L x y + L x' y' ≤ L (x ++ x') (y ++ y') := by
  obtain ⟨z, h1, h2, h3⟩ := L_attain _ x y (Nat.le_refl _)
  obtain ⟨z', k1, k2, k3⟩ := L_attain _ x' y' (Nat.le_refl _)
  rw [← h3, ← k3, ← List.length_append]
  exact L_upper _ _ _ _ (Nat.le_refl _) (h1.append k1) (h2.append k2)
theorem L_mono {x x' y y' : List α} (hx : x.Sublist x') (hy : y.Sublist y') : L x y ≤ L x' y' := by
  obtain ⟨z, h1, h2, h3⟩ := L_attain _ x y (Nat.le_refl _)
  rw [← h3]
  exact L_upper _ _ _ _ (Nat.le_refl _) (h1.trans hx) (h2.trans hy)
/-- How many lines are one with another. -/
def nn : List Int → Nat
  | [] => 0
  | v :: m => (if 0 ≤ v then 1 else 0) + nn m
theorem nn_app : ∀ x y : List Int, nn (x ++ y) = nn x + nn y
  | [], y => by simp [nn]
  | v :: x, y => by rw [List.cons_append, nn, nn, nn_app x y]; omega
theorem nn_mtc : ∀ (N : Nat) (x y : List α) (j : Nat), x.length + y.length ≤ N → nn (mtc x y j) = L x y
  | N, [], y, j, hn => by rw [mtc, L_nil_left]; rfl
  | 0, a :: x, y, j, hn => by simp at hn
  | N + 1, a :: x, [], j, hn => by
    rw [mtc, nn, if_neg (by decide), nn_mtc N x [] j (by simp at hn ⊢; omega), L_nil_right, L_nil_right]
  | N + 1, a :: x, b :: y, j, hn => by
    simp only [List.length_cons] at hn
    rw [mtc]
    by_cases e : a = b
    · subst e
      rw [if_pos rfl, nn, if_pos (by omega), nn_mtc N x y (j + 1) (by omega), L_same]
      omega
    · rw [if_neg e, L_diff e]
      by_cases c : L (a :: x) y ≤ L x (b :: y)
      · rw [if_pos c, nn, if_neg (by decide), nn_mtc N x (b :: y) j (by simp; omega)]
        omega
      · rw [if_neg c, nn_mtc N (a :: x) y (j + 1) (by simp; omega)]
        omega
/-- Lines that are one, in order, are no more than two texts have together. -/
theorem nn_le : ∀ (m : List Int) (x y : List α) (j : Nat), m.length = x.length → m.Pairwise (fun u v => 0 ≤ u → 0 ≤ v → u < v) →
    (∀ (n : Nat) (v : Int), m[n]? = some v → 0 ≤ v → (j : Int) ≤ v ∧ ∃ s, x[n]? = some s ∧ y[v.toNat - j]? = some s) → nn m ≤ L x y
  | [], x, y, j, hl, hp, h => Nat.zero_le _
  | v :: m, [], y, j, hl, hp, h => by simp at hl
  | v :: m, a :: x, y, j, hl, hp, h => by
    simp only [List.length_cons, Nat.succ.injEq, Nat.add_right_cancel_iff] at hl
    have hp2 := List.pairwise_cons.1 hp
    rw [nn]
    by_cases c : 0 ≤ v
    · rw [if_pos c]
      obtain ⟨h1, s, h2, h3⟩ := h 0 v rfl c
      have hs : a = s := by simpa using h2
      subst hs
      obtain ⟨hlt, he⟩ := List.getElem?_eq_some_iff.1 h3
      have ih := nn_le m x (y.drop (v.toNat - j + 1)) (v.toNat + 1) hl hp2.2 (fun n u hu h0 => by
        obtain ⟨g1, s, g2, g3⟩ := h (n + 1) u (by rw [List.getElem?_cons_succ]; exact hu) h0
        have hvu := hp2.1 u (List.mem_of_getElem? hu) c h0
        refine ⟨by omega, s, by simpa using g2, ?_⟩
        rw [List.getElem?_drop, show v.toNat - j + 1 + (u.toNat - (v.toNat + 1)) = u.toNat - j by omega]
        exact g3)
      have e : y.drop (v.toNat - j) = a :: y.drop (v.toNat - j + 1) := by rw [List.drop_eq_getElem_cons hlt, he]
      have h4 : L (a :: x) (a :: y.drop (v.toNat - j + 1)) ≤ L (a :: x) y := by
        rw [← e]
        exact L_mono (List.Sublist.refl _) (List.drop_sublist _ _)
      rw [L_same] at h4
      omega
    · rw [if_neg c]
      have ih := nn_le m x y j hl hp2.2 (fun n u hu h0 => by
        obtain ⟨g1, s, g2, g3⟩ := h (n + 1) u (by rw [List.getElem?_cons_succ]; exact hu) h0
        exact ⟨g1, s, by simpa using g2, g3⟩)
      have := L_mono (List.sublist_cons_self a x) (List.Sublist.refl y)
      omega
end
/-- A match of two texts: lines that are one are the same, and in order. -/
structure Mt (o a : List ByteArray) (m : List Int) : Prop where
  len : m.length = o.length
  inc : m.Pairwise (fun u v => 0 ≤ u → 0 ≤ v → u < v)
  same : ∀ (n : Nat) (v : Int), m[n]? = some v → 0 ≤ v → ∃ s, o[n]? = some s ∧ a[v.toNat]? = some s
theorem Mt.at {o a : List ByteArray} {m : List Int} (h : Mt o a m) {n : Nat} (hn : n < o.length) (h0 : 0 ≤ m.getD n 0) : (m.getD n 0).toNat < a.length ∧ a.getD (m.getD n 0).toNat ByteArray.empty = o.getD n ByteArray.empty := by
  have hl : n < m.length := by rw [h.len]; exact hn
  rw [List.getD_eq_getElem?_getD, List.getElem?_eq_getElem hl, Option.getD_some] at h0 ⊢
  obtain ⟨s, h2, h3⟩ := h.same n _ (List.getElem?_eq_getElem hl) h0
  refine ⟨?_, ?_⟩
  · obtain ⟨h, _⟩ := List.getElem?_eq_some_iff.1 h3
    exact h
  · rw [List.getD_eq_getElem?_getD, List.getD_eq_getElem?_getD, h2, h3]
/-- The matches of a piece are no more than it and the other's piece have together. -/
theorem Mt.part {o a : List ByteArray} {m : List Int} (h : Mt o a m) {i n j v : Nat} (hin : i ≤ n) (hn : n ≤ o.length) (hj : ∀ q, i ≤ q → q < n → 0 ≤ m.getD q 0 → (j : Int) ≤ m.getD q 0 ∧ m.getD q 0 < (v : Int)) :
    nn ((m.take n).drop i) ≤ L (seg2 o i n) (seg2 a j v) := by
  refine nn_le _ _ _ j ?_ ((h.inc.sublist (List.take_sublist n m)).sublist (List.drop_sublist i _)) (fun q u hu h0 => ?_)
  · rw [seg2_len o i n hn, List.length_drop, List.length_take, h.len]; omega
  · rw [List.getElem?_drop, List.getElem?_take] at hu
    by_cases hq : i + q < n
    · rw [if_pos hq] at hu
      have hg : m.getD (i + q) 0 = u := by rw [List.getD_eq_getElem?_getD, hu]; rfl
      obtain ⟨g1, g2⟩ := hj (i + q) (by omega) hq (by rw [hg]; exact h0)
      rw [hg] at g1 g2
      obtain ⟨s, h2, h3⟩ := h.same (i + q) u hu h0
      refine ⟨g1, s, ?_, ?_⟩
      · unfold seg2
        rw [List.getElem?_drop, List.getElem?_take, if_pos hq]
        exact h2
      · unfold seg2
        rw [List.getElem?_drop, List.getElem?_take, show j + (u.toNat - j) = u.toNat by omega, if_pos (by omega)]
        exact h3
    · rw [if_neg hq] at hu
      cases hu
theorem Mt.of (o a : List ByteArray) : Mt o a (mtc o a 0) := ⟨mtc_len _ o a 0 (Nat.le_refl _), mtc_inc _ o a 0 (Nat.le_refl _), fun n v hv h0 => by
  obtain ⟨_, s, h2, h3⟩ := mtc_eq _ o a 0 (Nat.le_refl _) n v hv h0
  exact ⟨s, h2, h3⟩⟩
/-- Of a piece, what is taken, if it doesn't clash. -/
def pick (o a b : List ByteArray) : List ByteArray := if a = o ∨ a = b then b else a
/-- What comes of the rest, if nothing clashes. -/
def tx (o a b : List ByteArray) (mA mB : List Int) : Nat → Nat → Nat → Nat → List ByteArray
  | 0, i, j, k => pick (o.drop i) (a.drop j) (b.drop k)
  | d + 1, i, j, k =>
    let n := o.length - (d + 1)
    if mA.getD n 0 < 0 ∨ mB.getD n 0 < 0 then tx o a b mA mB d i j k
    else pick (seg2 o i n) (seg2 a j (mA.getD n 0).toNat) (seg2 b k (mB.getD n 0).toNat) ++ ([o.getD n ByteArray.empty] ++ tx o a b mA mB d (n + 1) ((mA.getD n 0).toNat + 1) ((mB.getD n 0).toNat + 1))
theorem reg_pick {ps : List Pt} {o a b : List ByteArray} (h : clr (reg ps o a b) = true) : clr ps = true ∧ txt (reg ps o a b) = txt ps ++ pick o a b := by
  unfold reg pick at *
  split at h
  · rename_i c
    rw [clr_res] at h
    rw [if_pos c, if_pos c, txt_res]
    exact ⟨h, rfl⟩
  · rename_i c
    split at h
    · rename_i c2
      rw [clr_res] at h
      rw [if_neg c, if_pos c2, if_neg c, txt_res]
      exact ⟨h, rfl⟩
    · rw [clr_app] at h
      simp [clr] at h
theorem mg_tx (o a b : List ByteArray) (mA mB : List Int) : ∀ (d i j k : Nat) (ps : List Pt), clr (mg o a b mA mB d i j k ps) = true → clr ps = true ∧ txt (mg o a b mA mB d i j k ps) = txt ps ++ tx o a b mA mB d i j k
  | 0, i, j, k, ps, h => by
    rw [mg] at h ⊢
    rw [tx]
    exact reg_pick h
  | d + 1, i, j, k, ps, h => by
    simp only [mg, tx] at h ⊢
    by_cases c : mA.getD (o.length - (d + 1)) 0 < 0 ∨ mB.getD (o.length - (d + 1)) 0 < 0
    · rw [if_pos c] at h ⊢
      rw [if_pos c]
      exact mg_tx o a b mA mB d i j k ps h
    · rw [if_neg c] at h ⊢
      rw [if_neg c]
      obtain ⟨h1, h2⟩ := mg_tx o a b mA mB d _ _ _ _ h
      rw [clr_res] at h1
      obtain ⟨h3, h4⟩ := reg_pick h1
      refine ⟨h3, ?_⟩
      rw [h2, txt_res, h4]
      simp only [List.append_assoc]
theorem seg2_cut (l : List ByteArray) {i n : Nat} (hin : i ≤ n) (hn : n < l.length) : l.drop i = seg2 l i n ++ ([l.getD n ByteArray.empty] ++ l.drop (n + 1)) := by
  have e : l = l.take n ++ l.drop n := (List.take_append_drop n l).symm
  have h1 : l.drop i = (l.take n).drop i ++ l.drop n := by
    conv => lhs; rw [e]
    rw [List.drop_append_of_le_length (by simp; omega)]
  rw [h1, drop_at hn, List.getD_eq_getElem?_getD, List.getElem?_eq_getElem hn]
  rfl
theorem nn_cut (m : List Int) {i n : Nat} (hin : i ≤ n) (hn : n < m.length) : nn (m.drop i) = nn ((m.take n).drop i) + (if 0 ≤ m.getD n 0 then 1 else 0) + nn (m.drop (n + 1)) := by
  have e : m = m.take n ++ m.drop n := (List.take_append_drop n m).symm
  have h1 : m.drop i = (m.take n).drop i ++ m.drop n := by
    conv => lhs; rw [e]
    rw [List.drop_append_of_le_length (by simp; omega)]
  rw [h1, nn_app, List.drop_eq_getElem_cons hn, nn, List.getD_eq_getElem?_getD, List.getElem?_eq_getElem hn, Option.getD_some]
  omega
/-- One piece: what is taken is no farther from the old one than both sides together. -/
theorem pick_far (o a b : List ByteArray) {x y : Nat} (hx : x ≤ L o a) (hy : y ≤ L o b) : o.length + (pick o a b).length + 2 * x + 2 * y ≤ 2 * L o (pick o a b) + (o.length + a.length) + (o.length + b.length) := by
  have h1 := L_le o a
  have h2 := L_le o b
  unfold pick
  split <;> omega
theorem far_mg {o a b : List ByteArray} {mA mB : List Int} (hA : Mt o a mA) (hB : Mt o b mB) : ∀ (d i j k : Nat), d ≤ o.length → i ≤ o.length - d → j ≤ a.length → k ≤ b.length →
    (∀ q, i ≤ q → q < o.length → 0 ≤ mA.getD q 0 → (j : Int) ≤ mA.getD q 0) → (∀ q, i ≤ q → q < o.length → 0 ≤ mB.getD q 0 → (k : Int) ≤ mB.getD q 0) →
    (o.drop i).length + (tx o a b mA mB d i j k).length + 2 * nn (mA.drop i) + 2 * nn (mB.drop i) ≤ 2 * L (o.drop i) (tx o a b mA mB d i j k) + ((o.drop i).length + (a.drop j).length) + ((o.drop i).length + (b.drop k).length)
  | 0, i, j, k, hd, hi, hj, hk, jA, kB => by
    rw [tx]
    have pA := hA.part (i := i) (n := o.length) (j := j) (v := a.length) (by omega) (Nat.le_refl _) (fun q h1 h2 h3 => ⟨jA q h1 h2 h3, by have := (hA.at h2 h3).1; omega⟩)
    have pB := hB.part (i := i) (n := o.length) (j := k) (v := b.length) (by omega) (Nat.le_refl _) (fun q h1 h2 h3 => ⟨kB q h1 h2 h3, by have := (hB.at h2 h3).1; omega⟩)
    unfold seg2 at pA pB
    rw [List.take_length, List.take_length, List.take_of_length_le (by rw [hA.len]; exact Nat.le_refl _)] at pA
    rw [List.take_length, List.take_length, List.take_of_length_le (by rw [hB.len]; exact Nat.le_refl _)] at pB
    exact pick_far _ _ _ pA pB
  | d + 1, i, j, k, hd, hi, hj, hk, jA, kB => by
    simp only [tx]
    obtain ⟨n, hn⟩ : ∃ n, n = o.length - (d + 1) := ⟨_, rfl⟩
    rw [← hn]
    have hno : n < o.length := by omega
    by_cases c : mA.getD n 0 < 0 ∨ mB.getD n 0 < 0
    · rw [if_pos c]
      exact far_mg hA hB d i j k (by omega) (by omega) hj hk jA kB
    · rw [if_neg c]
      have h1 : 0 ≤ mA.getD n 0 := by omega
      have h2 : 0 ≤ mB.getD n 0 := by omega
      obtain ⟨a1, a2⟩ := hA.at hno h1
      obtain ⟨b1, b2⟩ := hB.at hno h2
      have j1 := jA n (by omega) hno h1
      have k1 := kB n (by omega) hno h2
      have pA := hA.part (i := i) (n := n) (j := j) (v := (mA.getD n 0).toNat) (by omega) (by omega) (fun q g1 g2 g3 => ⟨jA q g1 (by omega) g3, by have := pw_at hA.inc (n := q) (n' := n) g2 (by rw [hA.len]; exact hno) g3 h1; omega⟩)
      have pB := hB.part (i := i) (n := n) (j := k) (v := (mB.getD n 0).toNat) (by omega) (by omega) (fun q g1 g2 g3 => ⟨kB q g1 (by omega) g3, by have := pw_at hB.inc (n := q) (n' := n) g2 (by rw [hB.len]; exact hno) g3 h2; omega⟩)
      have ih := far_mg hA hB d (n + 1) ((mA.getD n 0).toNat + 1) ((mB.getD n 0).toNat + 1) (by omega) (by omega) (by omega) (by omega)
        (fun q g1 g2 g3 => by have := pw_at hA.inc (n := n) (n' := q) (by omega) (by rw [hA.len]; exact g2) h1 g3; omega)
        (fun q g1 g2 g3 => by have := pw_at hB.inc (n := n) (n' := q) (by omega) (by rw [hB.len]; exact g2) h2 g3; omega)
      have hp := pick_far (seg2 o i n) (seg2 a j (mA.getD n 0).toNat) (seg2 b k (mB.getD n 0).toNat) pA pB
      rw [nn_cut mA (i := i) (n := n) (by omega) (by rw [hA.len]; exact hno), nn_cut mB (i := i) (n := n) (by omega) (by rw [hB.len]; exact hno), if_pos h1, if_pos h2]
      have eo := seg2_cut o (i := i) (n := n) (by omega) hno
      have ea := congrArg List.length (seg2_cut a (i := j) (n := (mA.getD n 0).toNat) (by omega) a1)
      have eb := congrArg List.length (seg2_cut b (i := k) (n := (mB.getD n 0).toNat) (by omega) b1)
      generalize tx o a b mA mB d (n + 1) ((mA.getD n 0).toNat + 1) ((mB.getD n 0).toNat + 1) = X at ih ⊢
      generalize pick (seg2 o i n) (seg2 a j (mA.getD n 0).toNat) (seg2 b k (mB.getD n 0).toNat) = Y at hp ⊢
      have l1 := L_app (seg2 o i n) ([o.getD n ByteArray.empty] ++ o.drop (n + 1)) Y ([o.getD n ByteArray.empty] ++ X)
      have l2 : L ([o.getD n ByteArray.empty] ++ o.drop (n + 1)) ([o.getD n ByteArray.empty] ++ X) = L (o.drop (n + 1)) X + 1 := L_same _ _ _
      rw [eo]
      simp only [List.length_append, List.length_singleton] at l1 ea eb ⊢
      omega
/-- A text that comes of two sides without clashes is no farther from the old one than both together. -/
theorem far_mrg {o a b : List ByteArray} (h : clr (mrg o a b) = true) : o.length + (txt (mrg o a b)).length + 2 * L o a + 2 * L o b ≤ 2 * L o (txt (mrg o a b)) + (o.length + a.length) + (o.length + b.length) := by
  unfold mrg at h ⊢
  obtain ⟨_, e⟩ := mg_tx o a b _ _ _ _ _ _ _ h
  have hf := far_mg (Mt.of o a) (Mt.of o b) o.length 0 0 0 (Nat.le_refl _) (by omega) (Nat.zero_le _) (Nat.zero_le _) (fun q g1 g2 g3 => by omega) (fun q g1 g2 g3 => by omega)
  rw [e]
  simp only [List.drop_zero] at hf
  rw [nn_mtc _ o a 0 (Nat.le_refl _), nn_mtc _ o b 0 (Nat.le_refl _)] at hf
  have e2 : txt ([] : List Pt) = [] := rfl
  rw [e2, List.nil_append]
  exact hf
end Go.Proofs.Ytfpdkeolecmepaa.Q
end
section
namespace Go.Proofs.Ytfpdkeolecmepaa.Q
open Go.RowKit Go.Proofs.YtfpdkeolecmepaaW.PrintWords Go.Proofs.YtfpdkeolecmepaaW.PrintMore
set_option linter.unusedVariables false
set_option linter.unusedSimpArgs false
/-- The pieces from a place on. -/
def dfl (a b : List ByteArray) (m : List Int) : Nat → Nat → Nat → List Hk
  | 0, i, j => gapL a b i j a.length b.length
  | d + 1, i, j =>
    let n := a.length - (d + 1)
    if m.getD n 0 < 0 then dfl a b m d i j
    else gapL a b i j n (m.getD n 0).toNat ++ dfl a b m d (n + 1) ((m.getD n 0).toNat + 1)
def dff (a b : List ByteArray) : List Hk := dfl a b (mtc a b 0) a.length 0 0
def okH (p : Option Hk) (h : Hk) : Bool := decide (0 ≤ h.f0 ∧ h.f0 ≤ 10) && (textB h.f1 && (textB h.f2 && (decide (h.f1.length + h.f2.length ≠ 0) && (match p with | none => true | some q => decide (q.f0 + (q.f1.length : Int) < h.f0)))))
def okD : Option Hk → List Hk → Bool
  | _, [] => true
  | p, h :: hs => okH p h && okD (some h) hs
def patchB (d : List Hk) : Bool := okD none d && decide (d.length ≤ 8)
/-- A text with pieces, from a place on. -/
def apR (t : List ByteArray) : List Hk → List ByteArray → Nat → Option (List ByteArray)
  | [], out, at_ => some (out ++ t.drop at_)
  | h :: hs, out, at_ => if h.f0.toNat + h.f1.length ≤ t.length ∧ seg2 t h.f0.toNat (h.f0.toNat + h.f1.length) = h.f1 then apR t hs (out ++ seg2 t at_ h.f0.toNat ++ h.f2) (h.f0.toNat + h.f1.length) else none
theorem apR_step {t : List ByteArray} {h : Hk} {hs : List Hk} {out : List ByteArray} {at_ : Nat} (u : Nat) (hu : h.f0 = (u : Int)) (e : Nat) (he : u + h.f1.length = e) : apR t (h :: hs) out at_ = if e ≤ t.length ∧ seg2 t u e = h.f1 then apR t hs (out ++ seg2 t at_ u ++ h.f2) e else none := by
  subst he
  have e2 : h.f0.toNat = u := by rw [hu]; exact Int.toNat_natCast u
  simp only [apR, e2]
theorem textB_sub {l m : List ByteArray} (h : textB l = true) (hs : m.Sublist l) : textB m = true := by
  unfold textB at h ⊢
  simp only [Bool.and_eq_true, decide_eq_true_eq, List.all_eq_true] at h ⊢
  exact ⟨Nat.le_trans hs.length_le h.1, fun x hx => h.2 x (hs.subset hx)⟩
theorem seg2_sub (l : List ByteArray) (i j : Nat) : (seg2 l i j).Sublist l := (List.drop_sublist _ _).trans (List.take_sublist _ _)
theorem seg2_app (l : List ByteArray) {i j k : Nat} (h1 : i ≤ j) (h2 : j ≤ k) (hk : k ≤ l.length) : seg2 l i j ++ seg2 l j k = seg2 l i k := by
  unfold seg2
  have e : l.take j = (l.take k).take j := by rw [List.take_take]; congr 1; omega
  rw [e]
  generalize hm : l.take k = m
  have hl : m.length = k := by rw [← hm]; simp; omega
  have e2 : m.drop i = (m.take j).drop i ++ m.drop j := by
    conv => lhs; rw [← List.take_append_drop j m]
    rw [List.drop_append_of_le_length (by simp; omega)]
  rw [e2]
theorem seg2_end (l : List ByteArray) (i : Nat) : seg2 l i l.length = l.drop i := by unfold seg2; rw [List.take_length]
theorem seg2_none (l : List ByteArray) (i : Nat) : seg2 l i i = [] := by
  unfold seg2
  exact List.drop_eq_nil_of_le (by simp; omega)
theorem seg2_one (l : List ByteArray) {n : Nat} (h : n < l.length) : seg2 l n (n + 1) = [l.getD n ByteArray.empty] := by
  unfold seg2
  rw [take_at h, List.drop_append_of_le_length (by simp; omega), List.drop_eq_nil_of_le (by simp; omega), List.getD_eq_getElem?_getD, List.getElem?_eq_getElem h]
  rfl
/-- All that the pieces from a place on need: they are a patch, and put in they make the other text of it. -/
theorem dfl_good {o a : List ByteArray} {m : List Int} (hl : m.length = o.length) (hinc : m.Pairwise (fun u v => 0 ≤ u → 0 ≤ v → u < v))
    (hat : ∀ n, n < o.length → 0 ≤ m.getD n 0 → (m.getD n 0).toNat < a.length ∧ a.getD (m.getD n 0).toNat ByteArray.empty = o.getD n ByteArray.empty) (eo : textB o = true) (ea : textB a = true) :
    ∀ (d i j : Nat) (p : Option Hk) (out : List ByteArray) (at_ : Nat), d ≤ o.length → i ≤ o.length - d → j ≤ a.length → at_ ≤ i → (∀ q, p = some q → q.f0 + (q.f1.length : Int) < i) →
      (∀ n, o.length - d ≤ n → n < o.length → 0 ≤ m.getD n 0 → (j : Int) ≤ m.getD n 0) →
      okD p (dfl o a m d i j) = true ∧ 3 * (dfl o a m d i j).length ≤ (o.length - i) + (a.length - j) + 2 ∧ apR o (dfl o a m d i j) out at_ = some (out ++ seg2 o at_ i ++ a.drop j)
  | 0, i, j, p, out, at_, hd, hi, hj, hai, hp, hm => by
    have lo := textB_len eo
    rw [dfl]
    unfold gapL
    by_cases c : i < o.length ∨ j < a.length
    · rw [if_pos c]
      have l1 := seg2_len o i o.length (Nat.le_refl _)
      have l2 := seg2_len a j a.length (Nat.le_refl _)
      refine ⟨?_, by simp; omega, ?_⟩
      · simp only [okD, okH, Bool.and_true, Bool.and_eq_true, decide_eq_true_eq]
        refine ⟨by omega, textB_sub eo (seg2_sub _ _ _), textB_sub ea (seg2_sub _ _ _), by omega, ?_⟩
        cases p with
        | none => rfl
        | some q => exact decide_eq_true (hp q rfl)
      · rw [apR_step i rfl o.length (by show i + (seg2 o i o.length).length = _; rw [l1]; omega), if_pos ⟨Nat.le_refl _, rfl⟩, apR, List.drop_length, List.append_nil, seg2_end a j]
    · rw [if_neg c]
      obtain rfl : i = o.length := by omega
      obtain rfl : j = a.length := by omega
      refine ⟨rfl, by simp, ?_⟩
      rw [apR, seg2_end, List.drop_length, List.append_nil]
  | d + 1, i, j, p, out, at_, hd, hi, hj, hai, hp, hm => by
    have lo := textB_len eo
    simp only [dfl]
    obtain ⟨n, hn⟩ : ∃ n, n = o.length - (d + 1) := ⟨_, rfl⟩
    rw [← hn]
    have hno : n < o.length := by omega
    by_cases c : m.getD n 0 < 0
    · rw [if_pos c]
      exact dfl_good hl hinc hat eo ea d i j p out at_ (by omega) (by omega) hj hai hp (fun q h1 h2 => hm q (by omega) h2)
    · rw [if_neg c]
      have h0 : 0 ≤ m.getD n 0 := by omega
      obtain ⟨a1, a2⟩ := hat n hno h0
      have hjv := hm n (by omega) hno h0
      generalize hv : (m.getD n 0).toNat = v at a1 a2
      have hmn : ∀ q, o.length - d ≤ q → q < o.length → 0 ≤ m.getD q 0 → ((v + 1 : Nat) : Int) ≤ m.getD q 0 := fun q g1 g2 g3 => by
        have := pw_at hinc (n := n) (n' := q) (by omega) (by omega) h0 g3
        omega
      have ecut : a.drop j = seg2 a j v ++ ([o.getD n ByteArray.empty] ++ a.drop (v + 1)) := by
        rw [← a2]
        have e : a = a.take v ++ a.drop v := (List.take_append_drop v a).symm
        have h1 : a.drop j = (a.take v).drop j ++ a.drop v := by
          conv => lhs; rw [e]
          rw [List.drop_append_of_le_length (by simp; omega)]
        rw [h1, drop_at a1, List.getD_eq_getElem?_getD, List.getElem?_eq_getElem a1]
        rfl
      unfold gapL
      by_cases g : i < n ∨ j < v
      · rw [if_pos g]
        have l1 := seg2_len o i n (by omega)
        have l2 := seg2_len a j v (by omega)
        obtain ⟨k1, k2, k3⟩ := dfl_good hl hinc hat eo ea d (n + 1) (v + 1) (some ⟨(i : Int), seg2 o i n, seg2 a j v⟩) (out ++ seg2 o at_ i ++ seg2 a j v) n (by omega) (by omega) (by omega) (by omega) (fun q hq => by cases hq; show (i : Int) + ((seg2 o i n).length : Int) < _; rw [l1]; omega) hmn
        refine ⟨?_, by simp only [List.length_append, List.length_singleton]; omega, ?_⟩
        · simp only [List.singleton_append, okD, okH, Bool.and_eq_true, decide_eq_true_eq]
          refine ⟨⟨by omega, textB_sub eo (seg2_sub _ _ _), textB_sub ea (seg2_sub _ _ _), by omega, ?_⟩, k1⟩
          cases p with
          | none => rfl
          | some q => exact decide_eq_true (hp q rfl)
        · rw [List.singleton_append, apR_step i rfl n (by show i + (seg2 o i n).length = _; rw [l1]; omega), if_pos ⟨by omega, rfl⟩, k3, seg2_one o hno, ecut]
          simp only [List.append_assoc]
      · rw [if_neg g]
        obtain rfl : i = n := by omega
        obtain rfl : j = v := by omega
        obtain ⟨k1, k2, k3⟩ := dfl_good hl hinc hat eo ea d (i + 1) (j + 1) p out at_ (by omega) (by omega) (by omega) (by omega) (fun q hq => by have := hp q hq; omega) hmn
        rw [List.nil_append]
        refine ⟨k1, by omega, ?_⟩
        rw [k3, ecut, seg2_none, List.nil_append, ← seg2_one o hno, ← seg2_app o hai (by omega : i ≤ i + 1) (by omega)]
        simp only [List.append_assoc]
theorem dff_good {o a : List ByteArray} (eo : textB o = true) (ea : textB a = true) : patchB (dff o a) = true ∧ apR o (dff o a) [] 0 = some a ∧ (dff o a).length ≤ 8 := by
  have lo := textB_len eo
  have la := textB_len ea
  obtain ⟨h1, h2, h3⟩ := dfl_good (mtc_len _ o a 0 (Nat.le_refl _)) (mtc_inc _ o a 0 (Nat.le_refl _)) (fun n hn h0 => mtc_at hn h0) eo ea o.length 0 0 none [] 0 (Nat.le_refl _) (by omega) (Nat.zero_le _) (Nat.le_refl _) (fun q hq => by cases hq) (fun n g1 g2 g3 => by omega)
  have hl : (dff o a).length ≤ 8 := by unfold dff; omega
  refine ⟨?_, ?_, hl⟩
  · unfold patchB
    rw [decide_eq_true hl, Bool.and_true]
    exact h1
  · unfold dff
    rw [h3, seg2_none]
    simp
theorem dfO_dfl {a b : List ByteArray} {m : List Int} (hl : m.length = a.length) (hinc : m.Pairwise (fun u v => 0 ≤ u → 0 ≤ v → u < v)) (hat : ∀ n, n < a.length → 0 ≤ m.getD n 0 → (m.getD n 0).toNat < b.length) :
    ∀ (d i j : Nat) (hs : List Hk), d ≤ a.length → i ≤ a.length - d → j ≤ b.length → (∀ n, a.length - d ≤ n → n < a.length → 0 ≤ m.getD n 0 → (j : Int) ≤ m.getD n 0) → dfO a b m d i j hs = some (hs ++ dfl a b m d i j)
  | 0, i, j, hs, hd, hi, hj, hm => by rw [dfO, dfl, if_pos ⟨by omega, hj⟩]
  | d + 1, i, j, hs, hd, hi, hj, hm => by
    simp only [dfl]
    rw [dfO]
    obtain ⟨n, hn⟩ : ∃ n, n = a.length - (d + 1) := ⟨_, rfl⟩
    rw [← hn]
    have hno : n < a.length := by omega
    by_cases c : m.getD n 0 < 0
    · rw [if_pos c, if_pos c]
      exact dfO_dfl hl hinc hat d i j hs (by omega) (by omega) hj (fun q h1 h2 => hm q (by omega) h2)
    · rw [if_neg c, if_neg c]
      have h0 : 0 ≤ m.getD n 0 := by omega
      have a1 := hat n hno h0
      have hjv := hm n (by omega) hno h0
      rw [if_pos ⟨by omega, by omega, by omega⟩, dfO_dfl hl hinc hat d _ _ _ (by omega) (by omega) (by omega) (fun q g1 g2 g3 => by
        have := pw_at hinc (n := n) (n' := q) (by omega) (by omega) h0 g3
        omega), List.append_assoc]
theorem dfG_dff {a b : List ByteArray} (ha : a.length ≤ 1000) (hb : b.length ≤ 1000) : dfG a b (mtc a b 0) = some (dff a b) := by
  unfold dfG dff
  rw [if_pos ⟨mtc_len _ a b 0 (Nat.le_refl _), ha, hb⟩, dfO_dfl (mtc_len _ a b 0 (Nat.le_refl _)) (mtc_inc _ a b 0 (Nat.le_refl _)) (fun n hn h0 => (mtc_at hn h0).1) a.length 0 0 [] (Nat.le_refl _) (by omega) (Nat.zero_le _) (fun n g1 g2 g3 => by omega)]
  rfl
theorem diff_ev {a b : List ByteArray} (ha : a.length ≤ 1000) (hb : b.length ≤ 1000) : Ev (fun k => impl_diff.f k a b) (dff a b) := by
  unfold impl_diff.f
  refine Ev.bind (match_ev (by omega) (by omega)) ?_
  rw [dfG_dff ha hb]
  exact Ev.now _
theorem rdH {d : List Hk} {i : Nat} (h : i < d.length) : rd_T69 d (i : Int) = d[i] := by
  simp [rd_T69, List.getD_eq_getElem?_getD, h]
def SmD (d : List Hk) : Prop := d.length ≤ 1000000 ∧ ∀ h ∈ d, Sm h.f1 ∧ Sm h.f2
theorem within_eq (a b c : Int) : impl_within.f a b c = some (decide (b ≤ a ∧ a ≤ c)) := by
  unfold impl_within.f
  by_cases h0 : a ≥ b
  · rw [if_pos h0]; simp [show b ≤ a from h0]
  · rw [if_neg h0]; simp [show ¬ b ≤ a from h0]
theorem pok0_ev (d : List Hk) (hd : SmD d) : ∀ (n i : Nat) (p : Option Hk), i ≤ d.length → d.length - i = n → (i = 0 ∧ p = none ∨ ∃ q, p = some q ∧ 0 < i ∧ d[i - 1]? = some q ∧ 0 ≤ q.f0 ∧ q.f0 ≤ 10) →
    Ev (fun k => impl_PatchOk.l0 k d d d.length i) (okD p (d.drop i) && decide (d.length ≤ 8))
  | 0, i, p, hi, hn, hp => by
    refine Ev.step' ?_
    simp only [impl_PatchOk.l0]
    rw [List.drop_eq_nil_of_le (by omega)]
    refine Ev.negf (by omega) (EvT (Ev.now _) ?_)
    simp only [okD, Bool.true_and]
    exact decide_eq_decide.mpr (by omega)
  | n + 1, i, p, hi, hn, hp => by
    have HP := Aside0.mk hp
    clear hp
    have hip : i < d.length := by omega
    obtain ⟨s1, s2⟩ := hd.2 _ (List.getElem_mem hip)
    refine Ev.step' ?_
    simp only [impl_PatchOk.l0]
    rw [rdH hip, w64_succ i (by have := hd.1; omega), drop_at hip]
    have ih := pok0_ev d hd n (i + 1) (some d[i]) (by omega) (by omega)
    generalize hx : d[i] = x at s1 s2 ih
    have hxi : d[i]? = some x := by rw [List.getElem?_eq_getElem hip, hx]
    refine Ev.posf (by omega) (Ev.posf (by omega) (Ev.posf (by omega) (Ev.bind (by rw [within_eq]; exact Ev.now _) ?_)))
    rw [okD]
    unfold okH
    by_cases cw : 0 ≤ x.f0 ∧ x.f0 ≤ 10
    case neg =>
      rw [decide_eq_false cw]
      exact Ev.negf (by decide) (EvT (Ev.now _) (by simp))
    rw [decide_eq_true cw]
    refine Ev.posf rfl (Ev.bind (implText_ev _ s1) ?_)
    cases c1 : textB x.f1 with
    | false => exact Ev.negf (by decide) (EvT (Ev.now _) (by simp))
    | true =>
      refine Ev.posf rfl (Ev.bind (implText_ev _ s2) ?_)
      cases c2 : textB x.f2 with
      | false => exact Ev.negf (by decide) (EvT (Ev.now _) (by simp))
      | true =>
        have l1 := textB_len c1
        have l2 := textB_len c2
        refine Ev.posf rfl ?_
        rw [w64 (by omega) (by omega)]
        by_cases c3 : x.f1.length + x.f2.length = 0
        · exact Ev.posf (by omega) (EvT (Ev.now _) (by simp [c3]))
        · refine Ev.negf (by omega) ?_
          rw [decide_eq_true c3]
          simp only [Bool.true_and]
          have ih2 := ih (.inr ⟨x, rfl, by omega, by rw [Nat.add_sub_cancel]; exact hxi, cw.1, cw.2⟩)
          rcases HP.out with ⟨rfl, rfl⟩ | ⟨q, rfl, hi0, hq, q0, q1⟩
          · simp only [Bool.true_and]
            exact Ev.negf (by omega) ih2
          · refine Ev.posf (by omega) ?_
            have e1 : wrap64 ((i : Int) - 1) = ((i - 1 : Nat) : Int) := by have := hd.1; rw [w64 (by omega) (by omega)]; omega
            have hqm : q ∈ d := List.mem_of_getElem? hq
            have ql := (hd.2 q hqm).1.1
            have e2 : d[i - 1]'(by omega) = q := by
              rw [List.getElem?_eq_getElem (by omega : i - 1 < d.length)] at hq
              exact Option.some.inj hq
            rw [e1, rdH (by omega : i - 1 < d.length), e2]
            refine Ev.posf (by omega) (Ev.posf (by omega) ?_)
            unfold impl_Hunk_end.f
            rw [w64 (by omega) (by omega)]
            refine Ev.somef ?_
            by_cases c4 : x.f0 ≤ q.f0 + (q.f1.length : Int)
            · refine Ev.posf c4 (EvT (Ev.now _) ?_)
              dsimp only
              rw [show decide (q.f0 + (q.f1.length : Int) < x.f0) = false from decide_eq_false (by omega)]
              simp
            · refine Ev.negf c4 ?_
              dsimp only
              rw [show decide (q.f0 + (q.f1.length : Int) < x.f0) = true from decide_eq_true (by omega)]
              simp only [Bool.true_and]
              exact ih2
theorem pok_ev (d : List Hk) (hd : SmD d) : Ev (fun k => impl_PatchOk.f k d) (patchB d) := by
  have h := pok0_ev d hd _ 0 none (Nat.zero_le _) rfl (.inl ⟨rfl, rfl⟩)
  unfold impl_PatchOk.f patchB
  rw [List.drop_zero] at h
  exact h
theorem equal_ev (a b : List ByteArray) (hs : a.length ≤ 100000000) : Ev (fun k => slices_Equal_string_string.f k a b) (decide (a = b)) := by
  have : ∃ r, Ev (fun k => slices_Equal_string_string.f k a b) r ∧ (r = true ↔ a = b) := by
    unfold slices_Equal_string_string.f
    by_cases h : a.length = b.length
    · obtain ⟨r, hr, he⟩ := equal0_ev a b h hs _ 0 (by omega) rfl
      exact ⟨r, Ev.posf (by omega) hr, by simpa using he⟩
    · exact ⟨false, Ev.negf (by omega) (Ev.now _), by simp; intro e; exact h (by rw [e])⟩
  obtain ⟨r, hr, he⟩ := this
  have : r = decide (a = b) := by cases r <;> simp_all
  subst this
  exact hr
def fin : Option (List ByteArray) → List ByteArray × Bool
  | none => ([], false)
  | some x => if textB x = true then (x, true) else ([], false)
theorem pdo0_ev (t : List ByteArray) (ht : Sm t) (htl : t.length ≤ 1000) (d : List Hk) (hd : d.length ≤ 100) : ∀ (n i : Nat) (out : List ByteArray) (at_ : Nat) (p : Option Hk), i ≤ d.length → d.length - i = n → okD p (d.drop i) = true →
    (p = none ∧ at_ = 0 ∨ ∃ q, p = some q ∧ (at_ : Int) = q.f0 + (q.f1.length : Int)) → at_ ≤ t.length → out.length ≤ i * 2000 → (∀ s ∈ out, s.size ≤ 1000000) →
    Ev (fun k => impl_PatchDo.l0 k t out at_ d d.length i) (fin (apR t (d.drop i) out at_))
  | 0, i, out, at_, p, hi, hn, ho, hp, hat, hol, hos => by
    refine Ev.step' ?_
    simp only [impl_PatchDo.l0]
    rw [List.drop_eq_nil_of_le (by omega : d.length ≤ i)]
    simp only [Int.toNat_natCast]
    have hsm : Sm (out ++ t.drop at_) := ⟨by simp only [List.length_append, List.length_drop]; omega, fun s hs => (List.mem_append.1 hs).elim (hos s) (fun h => ht.2 s (List.mem_of_mem_drop h))⟩
    refine Ev.negf (by omega) (Ev.posf (by omega) (Ev.posf (by omega) (Ev.posf (by simp only [List.length_drop]; omega) (Ev.somef (Ev.bind (implText_ev _ hsm) ?_)))))
    rw [apR, fin]
    exact Ev.ite (fun h => by rw [if_pos h]; exact Ev.now _) (fun h => by rw [if_neg h]; exact Ev.now _)
  | n + 1, i, out, at_, p, hi, hn, ho, hp, hat, hol, hos => by
    have hip : i < d.length := by omega
    refine Ev.step' ?_
    simp only [impl_PatchDo.l0]
    rw [rdH hip, w64_succ i (by omega)]
    rw [drop_at hip] at ho ⊢
    generalize d[i] = x at ho
    simp only [okD, okH, Bool.and_eq_true, decide_eq_true_eq] at ho
    obtain ⟨⟨⟨f0, f1⟩, x1, x2, x3, x4⟩, hrest⟩ := ho
    have l1 := textB_len x1
    have l2 := textB_len x2
    obtain ⟨u, hu⟩ : ∃ u : Nat, x.f0 = u := ⟨x.f0.toNat, by omega⟩
    have hau : at_ ≤ u := by
      rcases hp with ⟨rfl, rfl⟩ | ⟨q, rfl, hq⟩
      · omega
      · have := of_decide_eq_true x4
        omega
    clear hp x4
    unfold impl_Hunk_end.f
    rw [apR_step u hu (u + x.f1.length) rfl]
    rw [hu, w64 (by omega) (by omega)]
    have eu : ((u : Int) + (x.f1.length : Int)).toNat = u + x.f1.length := by omega
    refine Ev.posf (by omega) (Ev.posf (by omega) (Ev.posf (by omega) (Ev.somef ?_)))
    by_cases c1 : u + x.f1.length ≤ t.length
    case neg =>
      rw [if_neg (fun h => c1 h.1)]
      exact Ev.posf (by omega) (Ev.now _)
    refine Ev.negf (by omega) (Ev.somef (Ev.posf (by omega) (Ev.posf (by omega) (Ev.posf (by omega) ?_))))
    rw [eu]
    refine Ev.bind (equal_ev _ _ (by simp; omega)) ?_
    by_cases c2 : seg2 t u (u + x.f1.length) = x.f1
    case neg =>
      rw [if_neg (fun h => c2 h.2), decide_eq_false (by unfold seg2 at c2; exact c2)]
      exact Ev.negf (by decide) (Ev.now _)
    rw [if_pos ⟨c1, c2⟩, decide_eq_true (by unfold seg2 at c2; exact c2)]
    have hsl := seg2_le t at_ u
    have ih := pdo0_ev t ht htl d hd n (i + 1) (out ++ seg2 t at_ u ++ x.f2) (u + x.f1.length) (some x) (by omega) (by omega) hrest (.inr ⟨x, rfl, by omega⟩) c1 (by simp only [List.length_append]; omega)
      (fun s hs => by
        rcases List.mem_append.1 hs with hs | hs
        · rcases List.mem_append.1 hs with hs | hs
          · exact hos s hs
          · exact ht.2 s (seg2_mem hs)
        · unfold textB at x2
          simp only [Bool.and_eq_true, decide_eq_true_eq, List.all_eq_true] at x2
          have := x2.2 s hs
          unfold lineB at this
          simp only [Bool.and_eq_true, decide_eq_true_eq] at this
          omega)
    simp only [Int.toNat_natCast]
    have e3 : ((u + x.f1.length : Nat) : Int) = (u : Int) + (x.f1.length : Int) := by omega
    rw [e3] at ih
    refine Ev.posf trivial (Ev.posf (by omega) (Ev.posf (by omega) (Ev.posf (by omega) (Ev.posf ?_ (Ev.somef (Ev.posf ?_ (Ev.somef ih)))))))
    · have : ((t.take u).drop at_).length ≤ t.length := hsl
      omega
    · have : ((t.take u).drop at_).length ≤ t.length := hsl
      simp only [List.length_append]
      omega
/-- What the program's PatchDo comes to, of a text and a patch that are ok. -/
theorem pdo_ev (t : List ByteArray) (ht : textB t = true) (hts : Sm t) (d : List Hk) (hd : patchB d = true) (hds : SmD d) : Ev (fun k => impl_PatchDo.f k t d) (fin (apR t d [] 0)) := by
  have hl := textB_len ht
  unfold impl_PatchDo.f
  refine Ev.bind (implText_ev t hts) ?_
  rw [ht]
  refine Ev.posf rfl (Ev.bind (pok_ev d hds) ?_)
  rw [hd]
  refine Ev.step' ?_
  simp only [impl_PatchDo.j0]
  unfold patchB at hd
  simp only [Bool.and_eq_true, decide_eq_true_eq] at hd
  have := pdo0_ev t hts (by omega) d (by omega) _ 0 [] 0 none (Nat.zero_le _) rfl hd.1 (.inl ⟨rfl, rfl⟩) (Nat.zero_le _) (by simp) (fun s hs => by cases hs)
  rw [List.drop_zero] at this
  exact Ev.negf (by decide) this
end Go.Proofs.Ytfpdkeolecmepaa.Q
end
section
namespace Go.Proofs.Ytfpdkeolecmepaa.Q
open Go.RowKit Go.Proofs.YtfpdkeolecmepaaW.PrintWords
set_option linter.unusedVariables false
set_option linter.unusedSimpArgs false
theorem many_ev {x y : List ByteArray} (hx : textB x = true) (hy : textB y = true) (sx : Sm x) (sy : Sm y) : Ev (fun k => impl_DiffMany.f k x y) ((x.length : Int) + (y.length : Int) - 2 * (L x y : Int)) := by
  have lx := textB_len hx
  have ly := textB_len hy
  have hl := L_le x y
  unfold impl_DiffMany.f
  refine Ev.bind (implText_ev x sx) ?_
  rw [hx]
  refine Ev.posf rfl (Ev.bind (implText_ev y sy) ?_)
  rw [hy]
  refine Ev.posf rfl (Ev.bind (lcs_ev (by omega) (by omega)) (EvT (Ev.now _) ?_))
  rw [w64 (x := 2 * (L x y : Int)) (by omega) (by omega), w64 (x := (x.length : Int) + (y.length : Int)) (by omega) (by omega), w64 (by omega) (by omega)]
theorem diffOf_ev {x y : List ByteArray} (hx : textB x = true) (hy : textB y = true) (sx : Sm x) (sy : Sm y) : Ev (fun k => impl_DiffOf.f k x y) (dff x y) := by
  have lx := textB_len hx
  have ly := textB_len hy
  unfold impl_DiffOf.f
  refine Ev.bind (implText_ev x sx) ?_
  rw [hx]
  refine Ev.posf rfl (Ev.bind (implText_ev y sy) ?_)
  rw [hy]
  exact Ev.posf rfl (Ev.bind (diff_ev (by omega) (by omega)) (Ev.now _))
theorem sm_sub {l m : List ByteArray} (h : Sm l) (hs : m.Sublist l) : Sm m := ⟨Nat.le_trans hs.length_le h.1, fun s hm => h.2 s (hs.subset hm)⟩
theorem dfl_sm {a b : List ByteArray} {m : List Int} (sa : Sm a) (sb : Sm b) : ∀ (d i j : Nat), ∀ h ∈ dfl a b m d i j, Sm h.f1 ∧ Sm h.f2
  | 0, i, j, h, hm => by
    rw [dfl, gapL] at hm
    split at hm
    · rw [List.mem_singleton.1 hm]
      exact ⟨sm_sub sa (seg2_sub _ _ _), sm_sub sb (seg2_sub _ _ _)⟩
    · cases hm
  | d + 1, i, j, h, hm => by
    simp only [dfl] at hm
    split at hm
    · exact dfl_sm sa sb d i j h hm
    · rcases List.mem_append.1 hm with hm | hm
      · rw [gapL] at hm
        split at hm
        · rw [List.mem_singleton.1 hm]
          exact ⟨sm_sub sa (seg2_sub _ _ _), sm_sub sb (seg2_sub _ _ _)⟩
        · cases hm
      · exact dfl_sm sa sb d _ _ h hm
/-- A text with its differences to another one is the other one. -/
theorem put_ev {o a : List ByteArray} (eo : textB o = true) (ea : textB a = true) (so : Sm o) (sa : Sm a) : Ev (fun k => impl_PatchDo.f k o (dff o a)) (a, true) := by
  obtain ⟨h1, h2, h3⟩ := dff_good eo ea
  have h := pdo_ev o eo so (dff o a) h1 ⟨by omega, dfl_sm so sa _ _ _⟩
  rw [h2, fin, if_pos ea] at h
  exact h
end Go.Proofs.Ytfpdkeolecmepaa.Q
namespace Go.Proofs.Ytfpdkeolecmepaa.Pure
open Go.RowKit Go.Proofs.Ytfpdkeolecmepaa.Q Go.Proofs.YtfpdkeolecmepaaW.PrintWords Go.Proofs.YtfpdkeolecmepaaW.PrintLast
theorem FnMergeDiff : laws_FnMergeDiff.Pure := by
  intro l0 hm hb hw
  refine Ev.rounds ?_
  unfold laws_FnMergeDiff.f
  by_cases hl : (l0.length : Int) > 1048576
  · exact Ev.posf hl (Ev.now _)
  · refine Ev.negf hl ?_
    obtain ⟨o, a, b, h3, ho, ha, hb⟩ := three_ev (l := l0) (fun x hx => by have := hw x hx; simp [Lit.wf, IntKind.bits, IntKind.signed, IntKind.min, IntKind.max] at this; omega)
    have hd : Ev (fun k => spec_DrawMergeText.f k l0) (o, a, b) := by unfold spec_DrawMergeText.f; exact Ev.bind h3 (Ev.now _)
    have hok : Ok3 o a b := ⟨ho, ha, hb⟩
    have hx : (tOf o a b).1.length ≤ 100000000 := by
      unfold tOf sText
      split
      · split
        · rename_i h1 h2
          have := textB_len h2.2
          show (txt _).length ≤ _
          omega
        · simp
      · simp
    have hr := smTexts_refl (tOf o a b).1 hx
    have ht : Ev (fun k => laws_FnMergeDiff.j0 k o a b (tOf o a b).1 (tOf o a b).2 (tOf o a b).1 (tOf o a b).2 true) true := by
      refine Ev.step' ?_
      simp only [laws_FnMergeDiff.j0]
      exact Ev.posf trivial (Ev.posf (by simp) (Ev.bind hr (Ev.now _)))
    refine Ev.bind hd (Ev.bind (implText3_ev hok) (Ev.bind (specText3_ev hok) (Ev.negf (by simp) (Ev.bind hr (Ev.posf rfl ?_)))))
    cases hc : (tOf o a b).2 with
    | false =>
      rw [hc] at ht
      exact ht
    | true =>
      clear ht
      unfold tOf sText at hc
      by_cases g : allB o a b = true
      case neg => rw [if_neg g] at hc; cases hc
      rw [if_pos g] at hc
      by_cases g2 : clr (mrg o a b) = true ∧ textB (txt (mrg o a b)) = true
      case neg => rw [if_neg g2] at hc; cases hc
      have ex : tOf o a b = (txt (mrg o a b), true) := by unfold tOf sText; rw [if_pos g, if_pos g2]
      rw [ex]
      have far := far_mrg g2.1
      have hs := inP_txt (mrg_inS hok)
      have lx := textB_len g2.2
      generalize txt (mrg o a b) = x at g2 far hs lx
      have sx : Sm x := ⟨by omega, hs⟩
      have gg := g
      unfold allB at gg
      simp only [Bool.and_eq_true] at gg
      obtain ⟨eo, ea, eb⟩ := gg
      have lo := textB_len eo
      have la := textB_len ea
      have lb := textB_len eb
      have h1 := implText3_ev (o := o) (a := a) (b := o) ⟨ho, ha, ho⟩
      have e2 : tOf o a o = (a, true) := tOf_of (by simp [allB, eo, ea]) (by rw [mrg_swp, clr_swp, txt_swp]; exact mrg_left o a) ea
      rw [e2] at h1
      have la2 := L_le o a
      have lb2 := L_le o b
      refine Ev.step' ?_
      simp only [laws_FnMergeDiff.j0]
      refine Ev.negf (by decide) (Ev.bind (diffOf_ev eo ea ho ha) (Ev.bind (put_ev eo ea ho ha) (Ev.bind h1 (Ev.bind (many_ev eo g2.2 ho sx) (Ev.posf rfl (Ev.bind (smTexts_refl a (by omega)) (Ev.posf rfl (Ev.bind (many_ev eo ea ho ha) (Ev.bind (many_ev eo eb ho hb) (EvT (Ev.now _) ?_))))))))))
      rw [w64 (by omega) (by omega)]
      exact decide_eq_true (by omega)
end Go.Proofs.Ytfpdkeolecmepaa.Pure
end
section
namespace Go.Proofs.YtfpdkeolecmepaaW.PrintWords
open Go.ChangeShapes Go.WideShapes
/-- A row's slice of whole numbers is no longer than its weight allows. -/
theorem sized_ints {H : Type} {enc : TypeId × Value → H} {P : Program} {W : World} {base : Nat} {spare : Nat → Bool} {held : Bool} {t e : TypeId} {k : IntKind} {a : Option Addr} {len cap : Nat} {d : DataW H} {ps : List MemPlace} {ts : List TypeId} {ds : List (DataW H)} {j : Nat}
 (hsz : (DataW.weightsEach P ts ds).all (· ≤ reachBytes) = true) (ht : ts[j]? = some t) (hd : ds[j]? = some d) (hu : P.underlying t = some (.slice e)) (he : P.underlying e = some (.int k)) (hc : P.cellsOf e = 1) {B : Nat} (hB : P.bytesOf e = B)
 (h : DataW.Trod enc P W base spare held t (.slice a len cap) d ps) : len * B ≤ 140737488351232 := by
 obtain ⟨fuel, hf⟩ := h
 rcases open_ints hu he hc hf with ⟨hcs, _⟩ | ⟨x, l, c, zs, hcs, _, hl, _, hz, hx, _, _⟩
 ·simp [Value.cells] at hcs
  obtain ⟨rfl, rfl, rfl⟩ := hcs
  simp
 ·simp [Value.cells] at hcs
  obtain ⟨rfl, rfl, rfl⟩ := hcs
  obtain ⟨hx, _⟩ := Prod.mk.inj hx
  subst hx
  have z := sized_slice hsz ht hd hu
  rw [hB] at z
  have hl2 : len ≤ zs.length := by
   rw [hz]
   split
   ·exact hl
   ·exact Nat.le_refl _
  have h1 : (lits (H := H) k (zs.take len)).length + (lits (H := H) k (zs.drop len)).length = zs.length := by
   simp [lits]
   omega
  rw [h1] at z
  exact Nat.le_trans (Nat.mul_le_mul_right _ hl2) z
end Go.Proofs.YtfpdkeolecmepaaW.PrintWords
end
section
namespace Go.Proofs.Ytfpdkeolecmepaa.fnMergeDiff
open Go.ChangeShapes Go.WideShapes Go.ChangeAt Go.RowKit
open Go.ChangeMaps (open_string shut_string)
set_option linter.unusedVariables false
theorem own : ownKnob Try.prog.godebug = none := by kernel_rfl
theorem laidOut : laidOutB Try.prog = true := by kernel_rfl
def IsRow (k : IntKind) (w : World) (a : Option Addr) (len cap : Nat) (zs : List Int) : Prop :=
  (a = none ∧ len = 0 ∧ cap = 0 ∧ zs = []) ∨
  ∃ x, a = some x ∧ len ≤ cap ∧ cap ≤ maxLen ∧ zs.length = cap ∧ (∀ i, i < zs.length → w.cell? (x.add i) = some (.int k (zs.getD i 0))) ∧ ∀ n ∈ zs, (Lit.int k n).wf = true
set_option maxRecDepth 100000 in
theorem lifted (os : Os) (started : os.Started) (H : Type) (enc : TypeId × Value → H) :
    ReturnsInHanded {} Try.checked os 11 .any (Rows.fnMergeDiffSpec.pre6 enc Try.prog Try.f11 Rows.fnMergeDiffRow.domain false) (Rows.fnMergeDiffSpec.post enc Try.prog Try.f11 false true false false) := by
  refine returnsInHanded_of_change_sized (C := Try.checked) own started (by kernel_rfl) Try.func11
    (ChangeSpec.witness6 (enc := enc) (C := Try.checked) false ⟨#[], #[.slice none 0 0], []⟩ 8 (by kernel_rfl) (by kernel_rfl) (by kernel_rfl) (by kernel_rfl)) ?_
  intro W base args ds gs before hval0 hW hcnd hsz0 _
  have hsz : (DataW.weightsEach Try.prog (Try.f11.params.toList ++ Rows.fnMergeDiffSpec.plain.varTypes Try.prog) (ds ++ gs)).all (· ≤ reachBytes) = true := hsz0
  have hval : ∀ (j : Nat) t v, Try.f11.params[j]? = some t → args[j]? = some v → Value.okWide Try.prog W .any base t v := hval0
  have hW' := hW
  obtain ⟨p, q, hA0, hV, rfl, hfz, hnd⟩ := hW
  have hA : DataW.TrodAll enc Try.prog W 0 (fun _ => true) true Try.f11.params.toList args.toList ds p := hA0
  rw [Try.params11] at hA hval hsz
  obtain ⟨v0, vs0, d0, ds0, p0, q0, hargs, rfl, rfl, h0, r0⟩ := trodAll_cons hA
  obtain ⟨rfl, rfl, rfl⟩ := trodAll_nil r0
  obtain rfl : args = #[v0] := by cases args; simp_all
  obtain ⟨rfl, rfl⟩ := trodVars_none hV
  obtain ⟨a0, len0, cap0, rfl⟩ := okWide_slice Try.underlying22 (hval 0 22 v0 rfl rfl)
  have k0 := h0
  have lt0 : ∀ x ∈ p0, x.block < W.heap.size := by obtain ⟨m, hm⟩ := k0; exact DataW.trod_lt m _ _ _ hm
  obtain ⟨z0, w0⟩ : ∃ zs, IsRow .u8 W a0 len0 cap0 zs := by
    obtain ⟨fuel, hf⟩ := h0
    rcases open_ints Try.underlying22 Try.underlying5 (by kernel_rfl) hf with ⟨hcs, _⟩ | ⟨x, l, c, zs, hcs, _, hl, hm, hz, _, hcell, hwz⟩
    · simp [Value.cells] at hcs
      obtain ⟨rfl, rfl, rfl⟩ := hcs
      exact ⟨[], .inl ⟨rfl, rfl, rfl, rfl⟩⟩
    · simp [Value.cells] at hcs
      obtain ⟨rfl, rfl, rfl⟩ := hcs
      exact ⟨zs, .inr ⟨_, rfl, hl, hm, by simpa using hz, hcell, hwz⟩⟩
  have y0 : len0 * 1 ≤ 140737488351232 := Go.Proofs.YtfpdkeolecmepaaW.PrintWords.sized_ints hsz (j := 0) (t := 22) rfl rfl Try.underlying22 Try.underlying5 (by kernel_rfl) (by kernel_rfl) h0
  clear hA0 hval0 hsz0 hsz
  refine (Q.laws_FnMergeDiff.walk Pure.FnMergeDiff a0 len0 cap0 z0 W w0 y0).mono fun e W' ⟨he, bel⟩ => ?_
  subst he
  exact ⟨_, rfl, _, _, _, [], _, [], hW', trodAll_mk1 (shut_bool Try.underlying4 _), (trodAll_cons_mk (Below.trod laidOut (by kernel_rfl) (of_decide_eq_true (by kernel_rfl)) k0 bel lt0) trodAll_mk0), rfl, bel.frame _, fun h => by cases h⟩
theorem over : Rows.fnMergeDiffRow.holds Try.pinned (OpenSpec.ofChange Rows.fnMergeDiffSpec) :=
  OpenClaim.holds_of_wide 11 Try.f11 rfl rfl rfl rfl rfl rfl rfl ⟨rfl, rfl, rfl, rfl, rfl⟩ rfl rfl rfl rfl rfl (by kernel_rfl) Try.func11 (by kernel_rfl)
    (of_decide_eq_true (by kernel_rfl)) (by unfold Func.isWrapper; first | (rw [if_pos (by decide +kernel)]; kernel_rfl) | (rw [if_neg (by decide +kernel)]; exact ⟨rfl, rfl⟩))
    (fun os started H enc _ => lifted os started H enc)
theorem proved : Rows.FnMergeDiffSaid := over
#print axioms proved
end Go.Proofs.Ytfpdkeolecmepaa.fnMergeDiff
namespace Go.Proofs.Ytfpdkeolecmepaa
/-- The row, under a short name, for the claim. -/
theorem fnMergeDiff_holds : Rows.FnMergeDiffSaid := fnMergeDiff.proved
end Go.Proofs.Ytfpdkeolecmepaa
end
