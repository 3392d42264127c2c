/- FnMShow: for every argument the law returns true, and its arguments read behind the call as they read before. No conditions. -/
import Derived.SizedLaws
import Derived.ChangeSlices
import Derived.Test.YtfpdkeolecmepaaRows
import Derived.WalkKit
import Derived.ProofKit
import Derived.OpenShut
import Derived.ShutString
import Derived.ChangeOld
import Derived.Below
import Derived.Test.YtfpdkeolecmepaaMMShow0
import Derived.Test.YtfpdkeolecmepaaMMShow1
import Derived.Test.YtfpdkeolecmepaaMMShow2
import Derived.Test.YtfpdkeolecmepaaMMShow3
import Derived.Test.YtfpdkeolecmepaaMMShow4
import Derived.Test.YtfpdkeolecmepaaMMShow5
set_option linter.unusedVariables false
set_option linter.unusedSimpArgs false
section
namespace Go.Proofs.Ytfpdkeolecmepaa.Q
open Go.RowKit Go.Proofs.YtfpdkeolecmepaaW.PrintWords Go.Proofs.YtfpdkeolecmepaaW.PrintLast Go.Proofs.YtfpdkeolecmepaaW.PrintMore
attribute [local go_sem] max2_int min2_int max_two min_two max_three min_three max_four min_four   -- for this text's walks alone
set_option linter.unusedVariables false
set_option linter.unusedSimpArgs false
def laws_FnMergeShow.j0 : Nat → List ByteArray → List ByteArray → List ByteArray → List ByteArray → Bool → Option (Bool)
 | 0, _, _, _, _, _ => none
 | k + 1, x3, x4, x5, x6, x37 => if x37 = true then ((spec_MergeShow.f k x3 x4 x5).bind fun t919 => ((laws_smTexts.f k x6 t919).bind fun t922 => (some t922))) else ((impl_MergeClash.f k x3 x4 x5).bind fun t923 => ((impl_MergeText.f k x3 x4 x5).bind fun bt924 => ((laws_smHas.f k x4 (⟨#[60, 60, 60]⟩ : ByteArray)).bind fun t928 => (if t928 = true then (if bt924.2 = true then ((laws_smTexts.f k x6 bt924.1).bind fun t929 => (some t929)) else (some true)) else ((laws_smHas.f k x5 (⟨#[60, 60, 60]⟩ : ByteArray)).bind fun t930 => (if t930 = true then (if bt924.2 = true then ((laws_smTexts.f k x6 bt924.1).bind fun t931 => (some t931)) else (some true)) else ((laws_smHas.f k x3 (⟨#[60, 60, 60]⟩ : ByteArray)).bind fun t932 => (if t932 = true then (if bt924.2 = true then ((laws_smTexts.f k x6 bt924.1).bind fun t933 => (some t933)) else (some true)) else ((laws_smMany.f k x6 (⟨#[60, 60, 60]⟩ : ByteArray)).bind fun t934 => (if t934 = t923 then (if bt924.2 = true then ((laws_smTexts.f k x6 bt924.1).bind fun t935 => (some t935)) else (some true)) else (some false)))))))))))
def laws_FnMergeShow.f (k : Nat) (l0 : List Int) : Option (Bool) := if (l0.length : Int) > 1048576 then (some true) else ((spec_DrawMergeShow.f k l0).bind fun bt902 => ((impl_MergeShow.f k bt902.1 bt902.2.1 bt902.2.2).bind fun t911 => ((spec_MergeShow.f k bt902.1 bt902.2.1 bt902.2.2).bind fun t914 => ((laws_smTexts.f k t911 t914).bind fun t917 => (if t917 = true then ((impl_MergeClash.f k bt902.1 bt902.2.1 bt902.2.2).bind fun t918 => (laws_FnMergeShow.j0 k bt902.1 bt902.2.1 bt902.2.2 t911 (decide (t918 < 0)))) else (laws_FnMergeShow.j0 k bt902.1 bt902.2.1 bt902.2.2 t911 true))))))
set_option maxHeartbeats 8000000 in
set_option maxRecDepth 100000 in
theorem laws_FnMergeShow.calls (k : Nat) (A0 : Option Addr) (c0 : Nat) (l0 : List Int) (r : Bool) (w : World) (hr0 : Kd.C (Kd.int .u8) w A0 l0.length l0) (hc0 : l0.length ≤ c0) (h : laws_FnMergeShow.f k l0 = some r) :
 Calls Try.prog 10 #[.slice A0 l0.length c0] w fun e w' => e = .returned (.bool r) ∧ Below w.heap.size w w' := by
 have HR0 := Aside0.mk hr0; have HC0 := Aside0.mk hc0; clear hr0 hc0; have HB := Aside0.mk (Below.refl w.heap.size w); have H : (if (l0.length : Int) > 1048576 then (some true) else ((spec_DrawMergeShow.f k l0).bind fun bt902 => ((impl_MergeShow.f k bt902.1 bt902.2.1 bt902.2.2).bind fun t911 => ((spec_MergeShow.f k bt902.1 bt902.2.1 bt902.2.2).bind fun t914 => ((laws_smTexts.f k t911 t914).bind fun t917 => (if t917 = true then ((impl_MergeClash.f k bt902.1 bt902.2.1 bt902.2.2).bind fun t918 => (laws_FnMergeShow.j0 k bt902.1 bt902.2.1 bt902.2.2 t911 (decide (t918 < 0)))) else (laws_FnMergeShow.j0 k bt902.1 bt902.2.1 bt902.2.2 t911 true))))))) = some r := h; clear h; by_cases c2 : (l0.length : Int) > 1048576
 ·rw [if_pos c2] at H; have c2b0 : decide (1048576 < (l0.length : Int)) = true := decide_eq_true c2; have c2b1 : decide (1048576 < l0.length) = true := decide_eq_true (by omega); clear c2; obtain rfl := Option.some.inj H; go_enter Try.func10, Try.ntmps10; go_wp2; go_ret; exact ⟨by first | rfl | (simp <;> rfl) | (simp [*] <;> rfl), by repeat (first | (with_reducible first | exact HB.out | apply below_alloc | apply pw_below_drewN | apply below_drew1) | exact HB.out)⟩
 ·rw [if_neg c2] at H; have c2b0 : decide (1048576 < (l0.length : Int)) = false := decide_eq_false c2; have c2b1 : decide (1048576 < l0.length) = false := decide_eq_false (by omega); clear c2; replace H := Option.bind_eq_some_iff.mp H; obtain ⟨⟨t902, t905, t908⟩, A30, H⟩ := H; replace H : ((impl_MergeShow.f k t902 t905 t908).bind fun t911 => ((spec_MergeShow.f k t902 t905 t908).bind fun t914 => ((laws_smTexts.f k t911 t914).bind fun t917 => (if t917 = true then ((impl_MergeClash.f k t902 t905 t908).bind fun t918 => (laws_FnMergeShow.j0 k t902 t905 t908 t911 (decide (t918 < 0)))) else (laws_FnMergeShow.j0 k t902 t905 t908 t911 true))))) = some r := H; have A3 := Aside0.mk A30; clear A30; replace H := Option.bind_eq_some_iff.mp H; obtain ⟨t911, A40, H⟩ := H; replace H : ((spec_MergeShow.f k t902 t905 t908).bind fun t914 => ((laws_smTexts.f k t911 t914).bind fun t917 => (if t917 = true then ((impl_MergeClash.f k t902 t905 t908).bind fun t918 => (laws_FnMergeShow.j0 k t902 t905 t908 t911 (decide (t918 < 0)))) else (laws_FnMergeShow.j0 k t902 t905 t908 t911 true)))) = some r := H; have A4 := Aside0.mk A40; clear A40; have HC5 := Aside0.mk H; clear H; go_enter Try.func10, Try.ntmps10; (go_upto_region 5 with (first | ((with_reducible refine gate_callee (f := 41) rfl ?_); refine goesL_ (some 16) rfl rfl Try.func41 (by kernel_rfl) rfl #[.slice A0 l0.length c0] rfl (by (try simp only [List.map_toArray, List.map_cons, List.map_nil]); first | done | rfl | (simp only [List.length_drop, List.length_take]; rfl)) ?_; (with_reducible refine (spec_DrawMergeShow.calls k _ _ l0 t902 t905 t908 _ ?side1 ?side2 A3.out).mono ?_); (case side1 => repeat (first | exact HR0.out | (with_reducible refine Kd.C_alloc ?_ _) | (with_reducible refine Kd.C_drewN ?_ _) | (with_reducible refine Kd.C_drew ?_))); (case side2 => exact HC0.out); rintro e w6 ⟨v903, v906, v909, rfl, ho0, ho1, ho2, hb⟩; refine ⟨_, rfl, ?_⟩; have n0_ := Aside0.mk (Kd.R_lower (Kd.R_mono (ok' := fun k_ => True) ho0 (fun _ hk_ => trivial)) (below_size (by repeat (first | (with_reducible first | exact HB.out | apply below_alloc | apply pw_below_drewN | apply below_drew1) | exact HB.out)))); have n1_ := Aside0.mk (Kd.V_lower (Kd.V_mono (ok' := fun k_ => some k_ ≠ (v903 : Value).ownBlock) ho1 (fun k_ hk_ => hk_.2)) (below_size (by repeat (first | (with_reducible first | exact HB.out | apply below_alloc | apply pw_below_drewN | apply below_drew1) | exact HB.out)))); have n2_ := Aside0.mk (Kd.V_lower (Kd.V_mono (ok' := fun k_ => some k_ ≠ (v903 : Value).ownBlock) ho2 (fun k_ hk_ => hk_.2)) (below_size (by repeat (first | (with_reducible first | exact HB.out | apply below_alloc | apply pw_below_drewN | apply below_drew1) | exact HB.out)))); have n3_ := Aside0.mk (below_step (by repeat (first | (with_reducible first | exact HB.out | apply below_alloc | apply pw_below_drewN | apply below_drew1) | exact HB.out)) hb); clear HB; have HO904 := n0_; have HO907 := n1_; have HO910 := n2_; have HB := n3_; clear n0_ n1_ n2_ n3_; (try clear hb); (try clear hb2); (try clear hk); (try clear hi); (try clear ho0); (try clear ho1); (try clear ho2); obtain ⟨Ao7, co7, eo7⟩ := Kd.R_slice HO904.out; subst eo7; obtain ⟨Ao8, co8, eo8⟩ := Kd.V_slice HO907.out; subst eo8; obtain ⟨Ao9, co9, eo9⟩ := Kd.V_slice HO910.out; subst eo9) | ((with_reducible refine gate_callee (f := 42) rfl ?_); refine goesL_ (some 23) rfl rfl Try.func42 (by kernel_rfl) rfl #[.slice Ao7 t902.length co7, .slice Ao8 t905.length co8, .slice Ao9 t908.length co9] rfl (by (try simp only [List.map_toArray, List.map_cons, List.map_nil]); first | done | rfl | (simp only [List.length_drop, List.length_take]; rfl)) ?_; (with_reducible refine (impl_MergeShow.calls k _ _ t902 _ _ t905 _ _ t908 t911 _ ?side1 ?side2 ?side3 ?side4 ?side5 ?side6 A4.out).mono ?_); (case side1 => repeat (first | exact (Kd.R_reads' HO904.out).2.2 | (with_reducible refine Kd.C_alloc ?_ _) | (with_reducible refine Kd.C_drewN ?_ _) | (with_reducible refine Kd.C_drew ?_))); (case side2 => exact (Kd.R_reads' HO904.out).2.1); (case side3 => repeat (first | exact (Kd.V_reads' HO907.out).2.2 | (with_reducible refine Kd.C_alloc ?_ _) | (with_reducible refine Kd.C_drewN ?_ _) | (with_reducible refine Kd.C_drew ?_))); (case side4 => exact (Kd.V_reads' HO907.out).2.1); (case side5 => repeat (first | exact (Kd.V_reads' HO910.out).2.2 | (with_reducible refine Kd.C_alloc ?_ _) | (with_reducible refine Kd.C_drewN ?_ _) | (with_reducible refine Kd.C_drew ?_))); (case side6 => exact (Kd.V_reads' HO910.out).2.1); rintro e w10 ⟨v912, rfl, ho0, hb⟩; refine ⟨_, rfl, ?_⟩; have n0_ := Aside0.mk (Kd.R_elder' (by (with_reducible repeat (first | apply Kd.R_alloc | apply Kd.R_drewN | apply Kd.R_drew)); exact HO904.out) (Kd.R_base ho0) hb); have n1_ := Aside0.mk (Kd.V_elder' (by (with_reducible repeat (first | apply Kd.V_alloc | apply Kd.V_drewN | apply Kd.V_drew)); exact HO907.out) (Kd.R_base ho0) hb); have n2_ := Aside0.mk (Kd.V_elder' (by (with_reducible repeat (first | apply Kd.V_alloc | apply Kd.V_drewN | apply Kd.V_drew)); exact HO910.out) (Kd.R_base ho0) hb); have n3_ := Aside0.mk (Kd.R_lower (Kd.R_new' ho0 (Kd.R_lt (by (with_reducible repeat (first | apply Kd.R_alloc | apply Kd.R_drewN | apply Kd.R_drew)); exact HO904.out))) (below_size (by repeat (first | (with_reducible first | exact HB.out | apply below_alloc | apply pw_below_drewN | apply below_drew1) | exact HB.out)))); have n4_ := Aside0.mk (below_step (by repeat (first | (with_reducible first | exact HB.out | apply below_alloc | apply pw_below_drewN | apply below_drew1) | exact HB.out)) hb); clear HO904; clear HO907; clear HO910; clear HB; have HO904 := n0_; have HO907 := n1_; have HO910 := n2_; have HO913 := n3_; have HB := n4_; clear n0_ n1_ n2_ n3_ n4_; (try clear hb); (try clear hb2); (try clear hk); (try clear hi); (try clear ho0))))
  (try simp only [Act.put, List.setIfInBounds_toArray, List.set_cons_zero, List.set_cons_succ])
  go_cut [37] (fun v37 wc => ∃ (kq : Nat) (x37_4 : Bool), v37 = .bool x37_4 ∧ Aside0 (laws_FnMergeShow.j0 kq t902 t905 t908 t911 x37_4 = some r) ∧ Aside0 (kq ≤ k) ∧ Aside0 (Kd.R Kd.string 9 wc w.heap.size (fun k_ => some k_ ≠ (v912 : Value).ownBlock) (.slice Ao7 t902.length co7) t902) ∧ Aside0 (Kd.V Kd.string 9 wc w.heap.size (fun k_ => some k_ ≠ ((.slice Ao7 t902.length co7) : Value).ownBlock ∧ some k_ ≠ (v912 : Value).ownBlock) (.slice Ao8 t905.length co8) t905) ∧ Aside0 (Kd.V Kd.string 9 wc w.heap.size (fun k_ => some k_ ≠ ((.slice Ao7 t902.length co7) : Value).ownBlock ∧ some k_ ≠ (v912 : Value).ownBlock) (.slice Ao9 t908.length co9) t908) ∧ Aside0 (Kd.R Kd.string 9 wc w.heap.size (fun k_ => some k_ ≠ ((.slice Ao7 t902.length co7) : Value).ownBlock) v912 t911) ∧ Aside0 (Below w.heap.size w wc))
  case first =>
   have H := HC5.out; clear HC5; replace H := Option.bind_eq_some_iff.mp H; obtain ⟨t914, A110, H⟩ := H; replace H : ((laws_smTexts.f k t911 t914).bind fun t917 => (if t917 = true then ((impl_MergeClash.f k t902 t905 t908).bind fun t918 => (laws_FnMergeShow.j0 k t902 t905 t908 t911 (decide (t918 < 0)))) else (laws_FnMergeShow.j0 k t902 t905 t908 t911 true))) = some r := H; have A11 := Aside0.mk A110; clear A110; replace H := Option.bind_eq_some_iff.mp H; obtain ⟨t917, A120, H⟩ := H; replace H : (if t917 = true then ((impl_MergeClash.f k t902 t905 t908).bind fun t918 => (laws_FnMergeShow.j0 k t902 t905 t908 t911 (decide (t918 < 0)))) else (laws_FnMergeShow.j0 k t902 t905 t908 t911 true)) = some r := H; have A12 := Aside0.mk A120; clear A120; by_cases c13 : t917 = true
   ·subst c13; (have H1 : ((impl_MergeClash.f k t902 t905 t908).bind fun t918 => (laws_FnMergeShow.j0 k t902 t905 t908 t911 (decide (t918 < 0)))) = some r := by rw [if_pos rfl] at H; exact H); clear H; have H := H1; clear H1; replace H := Option.bind_eq_some_iff.mp H; obtain ⟨t918, A140, H⟩ := H; replace H : (laws_FnMergeShow.j0 k t902 t905 t908 t911 (decide (t918 < 0))) = some r := H; have A14 := Aside0.mk A140; clear A140; have H' := Aside0.mk H; clear H; go_wp2_with (first | ((with_reducible refine gate_callee (f := 43) rfl ?_); refine goesL_ (some 28) rfl rfl Try.func43 (by kernel_rfl) rfl #[.slice Ao7 t902.length co7, .slice Ao8 t905.length co8, .slice Ao9 t908.length co9] rfl (by (try simp only [List.map_toArray, List.map_cons, List.map_nil]); first | done | rfl | (simp only [List.length_drop, List.length_take]; rfl)) ?_; (with_reducible refine (spec_MergeShow.calls k _ _ t902 _ _ t905 _ _ t908 t914 _ ?side1 ?side2 ?side3 ?side4 ?side5 ?side6 A11.out).mono ?_); (case side1 => repeat (first | exact (Kd.R_reads' HO904.out).2.2 | (with_reducible refine Kd.C_alloc ?_ _) | (with_reducible refine Kd.C_drewN ?_ _) | (with_reducible refine Kd.C_drew ?_))); (case side2 => exact (Kd.R_reads' HO904.out).2.1); (case side3 => repeat (first | exact (Kd.V_reads' HO907.out).2.2 | (with_reducible refine Kd.C_alloc ?_ _) | (with_reducible refine Kd.C_drewN ?_ _) | (with_reducible refine Kd.C_drew ?_))); (case side4 => exact (Kd.V_reads' HO907.out).2.1); (case side5 => repeat (first | exact (Kd.V_reads' HO910.out).2.2 | (with_reducible refine Kd.C_alloc ?_ _) | (with_reducible refine Kd.C_drewN ?_ _) | (with_reducible refine Kd.C_drew ?_))); (case side6 => exact (Kd.V_reads' HO910.out).2.1); rintro e w15 ⟨v915, rfl, ho0, hb⟩; refine ⟨_, rfl, ?_⟩; have n0_ := Aside0.mk (Kd.R_elder' (by (with_reducible repeat (first | apply Kd.R_alloc | apply Kd.R_drewN | apply Kd.R_drew)); exact HO904.out) (Kd.R_base ho0) hb); have n1_ := Aside0.mk (Kd.V_elder' (by (with_reducible repeat (first | apply Kd.V_alloc | apply Kd.V_drewN | apply Kd.V_drew)); exact HO907.out) (Kd.R_base ho0) hb); have n2_ := Aside0.mk (Kd.V_elder' (by (with_reducible repeat (first | apply Kd.V_alloc | apply Kd.V_drewN | apply Kd.V_drew)); exact HO910.out) (Kd.R_base ho0) hb); have n3_ := Aside0.mk (Kd.R_elder' (by (with_reducible repeat (first | apply Kd.R_alloc | apply Kd.R_drewN | apply Kd.R_drew)); exact HO913.out) (Kd.R_base ho0) hb); have n4_ := Aside0.mk (Kd.R_lower (Kd.R_new' (Kd.R_new' ho0 (Kd.R_lt (by (with_reducible repeat (first | apply Kd.R_alloc | apply Kd.R_drewN | apply Kd.R_drew)); exact HO904.out))) (Kd.R_lt (by (with_reducible repeat (first | apply Kd.R_alloc | apply Kd.R_drewN | apply Kd.R_drew)); exact HO913.out))) (below_size (by repeat (first | (with_reducible first | exact HB.out | apply below_alloc | apply pw_below_drewN | apply below_drew1) | exact HB.out)))); have n5_ := Aside0.mk (below_step (by repeat (first | (with_reducible first | exact HB.out | apply below_alloc | apply pw_below_drewN | apply below_drew1) | exact HB.out)) hb); clear HO904; clear HO907; clear HO910; clear HO913; clear HB; have HO904 := n0_; have HO907 := n1_; have HO910 := n2_; have HO913 := n3_; have HO916 := n4_; have HB := n5_; clear n0_ n1_ n2_ n3_ n4_ n5_; (try clear hb); (try clear hb2); (try clear hk); (try clear hi); (try clear ho0); obtain ⟨Ao16, co16, eo16⟩ := Kd.R_slice HO913.out; subst eo16; obtain ⟨Ao17, co17, eo17⟩ := Kd.R_slice HO916.out; subst eo17) | ((with_reducible refine gate_callee (f := 20) rfl ?_); refine goesL_ (some 29) rfl rfl Try.func20 (by kernel_rfl) rfl #[.slice Ao16 t911.length co16, .slice Ao17 t914.length co17] rfl (by (try simp only [List.map_toArray, List.map_cons, List.map_nil]); first | done | rfl | (simp only [List.length_drop, List.length_take]; rfl)) ?_; (with_reducible refine (laws_smTexts.calls k _ _ t911 _ _ t914 true _ ?side1 ?side2 ?side3 ?side4 A12.out).mono ?_); (case side1 => repeat (first | exact (Kd.R_reads' HO913.out).2.2 | (with_reducible refine Kd.C_alloc ?_ _) | (with_reducible refine Kd.C_drewN ?_ _) | (with_reducible refine Kd.C_drew ?_))); (case side2 => exact (Kd.R_reads' HO913.out).2.1); (case side3 => repeat (first | exact (Kd.R_reads' HO916.out).2.2 | (with_reducible refine Kd.C_alloc ?_ _) | (with_reducible refine Kd.C_drewN ?_ _) | (with_reducible refine Kd.C_drew ?_))); (case side4 => exact (Kd.R_reads' HO916.out).2.1); rintro e w' ⟨rfl, ⟨nd, rfl⟩⟩; refine ⟨_, rfl, ?_⟩) | (go_at_call 28; (with_reducible refine (impl_MergeClash.calls k _ _ t902 _ _ t905 _ _ t908 t918 _ ?side1 ?side2 ?side3 ?side4 ?side5 ?side6 A14.out).mono ?_); (case side1 => repeat (first | exact (Kd.R_reads' HO904.out).2.2 | (with_reducible refine Kd.C_alloc ?_ _) | (with_reducible refine Kd.C_drewN ?_ _) | (with_reducible refine Kd.C_drew ?_))); (case side2 => exact (Kd.R_reads' HO904.out).2.1); (case side3 => repeat (first | exact (Kd.V_reads' HO907.out).2.2 | (with_reducible refine Kd.C_alloc ?_ _) | (with_reducible refine Kd.C_drewN ?_ _) | (with_reducible refine Kd.C_drew ?_))); (case side4 => exact (Kd.V_reads' HO907.out).2.1); (case side5 => repeat (first | exact (Kd.V_reads' HO910.out).2.2 | (with_reducible refine Kd.C_alloc ?_ _) | (with_reducible refine Kd.C_drewN ?_ _) | (with_reducible refine Kd.C_drew ?_))); (case side6 => exact (Kd.V_reads' HO910.out).2.1); rintro e w18 ⟨rfl, hb⟩; have n0_ := Aside0.mk (Kd.R_below (by (with_reducible repeat (first | apply Kd.R_alloc | apply Kd.R_drewN | apply Kd.R_drew)); exact HO904.out) hb); have n1_ := Aside0.mk (Kd.V_below (by (with_reducible repeat (first | apply Kd.V_alloc | apply Kd.V_drewN | apply Kd.V_drew)); exact HO907.out) hb); have n2_ := Aside0.mk (Kd.V_below (by (with_reducible repeat (first | apply Kd.V_alloc | apply Kd.V_drewN | apply Kd.V_drew)); exact HO910.out) hb); have n3_ := Aside0.mk (Kd.R_below (by (with_reducible repeat (first | apply Kd.R_alloc | apply Kd.R_drewN | apply Kd.R_drew)); exact HO913.out) hb); have n4_ := Aside0.mk (Kd.R_below (by (with_reducible repeat (first | apply Kd.R_alloc | apply Kd.R_drewN | apply Kd.R_drew)); exact HO916.out) hb); have n5_ := Aside0.mk (below_step (by repeat (first | (with_reducible first | exact HB.out | apply below_alloc | apply pw_below_drewN | apply below_drew1) | exact HB.out)) hb); clear HO904; clear HO907; clear HO910; clear HO913; clear HO916; clear HB; have HO904 := n0_; have HO907 := n1_; have HO910 := n2_; have HO913 := n3_; have HO916 := n4_; have HB := n5_; clear n0_ n1_ n2_ n3_ n4_ n5_; (try clear hb); (try clear hb2); (try clear hk); (try clear hi)))
    go_meet
    case rel => exact ⟨_, (decide (t918 < 0)), (by first | rfl | (simp; done) | (simp [*]; done)), H', ⟨by first | omega | exact Nat.le_refl _⟩, ⟨by (with_reducible repeat (first | apply Kd.R_alloc | apply Kd.R_drewN | apply Kd.R_drew)); exact Kd.R_mono HO904.out (fun _ hk => hk.1.2)⟩, ⟨by (with_reducible repeat (first | apply Kd.V_alloc | apply Kd.V_drewN | apply Kd.V_drew)); exact Kd.V_mono HO907.out (fun _ hk => ⟨hk.1.1, hk.1.2⟩)⟩, ⟨by (with_reducible repeat (first | apply Kd.V_alloc | apply Kd.V_drewN | apply Kd.V_drew)); exact Kd.V_mono HO910.out (fun _ hk => ⟨hk.1.1, hk.1.2⟩)⟩, ⟨by (with_reducible repeat (first | apply Kd.R_alloc | apply Kd.R_drewN | apply Kd.R_drew)); exact Kd.R_mono HO913.out (fun _ hk => hk.1.2)⟩, ⟨by repeat (first | (with_reducible first | exact HB.out | apply below_alloc | apply pw_below_drewN | apply below_drew1) | exact HB.out)⟩⟩
   ·replace c13 := Bool.eq_false_iff.mpr c13; subst c13; (have H1 : (laws_FnMergeShow.j0 k t902 t905 t908 t911 true) = some r := by rw [if_neg (show ¬ (false = true) by decide)] at H; exact H); clear H; have H := H1; clear H1; have H' := Aside0.mk H; clear H; go_wp2_with (first | ((with_reducible refine gate_callee (f := 43) rfl ?_); refine goesL_ (some 28) rfl rfl Try.func43 (by kernel_rfl) rfl #[.slice Ao7 t902.length co7, .slice Ao8 t905.length co8, .slice Ao9 t908.length co9] rfl (by (try simp only [List.map_toArray, List.map_cons, List.map_nil]); first | done | rfl | (simp only [List.length_drop, List.length_take]; rfl)) ?_; (with_reducible refine (spec_MergeShow.calls k _ _ t902 _ _ t905 _ _ t908 t914 _ ?side1 ?side2 ?side3 ?side4 ?side5 ?side6 A11.out).mono ?_); (case side1 => repeat (first | exact (Kd.R_reads' HO904.out).2.2 | (with_reducible refine Kd.C_alloc ?_ _) | (with_reducible refine Kd.C_drewN ?_ _) | (with_reducible refine Kd.C_drew ?_))); (case side2 => exact (Kd.R_reads' HO904.out).2.1); (case side3 => repeat (first | exact (Kd.V_reads' HO907.out).2.2 | (with_reducible refine Kd.C_alloc ?_ _) | (with_reducible refine Kd.C_drewN ?_ _) | (with_reducible refine Kd.C_drew ?_))); (case side4 => exact (Kd.V_reads' HO907.out).2.1); (case side5 => repeat (first | exact (Kd.V_reads' HO910.out).2.2 | (with_reducible refine Kd.C_alloc ?_ _) | (with_reducible refine Kd.C_drewN ?_ _) | (with_reducible refine Kd.C_drew ?_))); (case side6 => exact (Kd.V_reads' HO910.out).2.1); rintro e w19 ⟨v915, rfl, ho0, hb⟩; refine ⟨_, rfl, ?_⟩; have n0_ := Aside0.mk (Kd.R_elder' (by (with_reducible repeat (first | apply Kd.R_alloc | apply Kd.R_drewN | apply Kd.R_drew)); exact HO904.out) (Kd.R_base ho0) hb); have n1_ := Aside0.mk (Kd.V_elder' (by (with_reducible repeat (first | apply Kd.V_alloc | apply Kd.V_drewN | apply Kd.V_drew)); exact HO907.out) (Kd.R_base ho0) hb); have n2_ := Aside0.mk (Kd.V_elder' (by (with_reducible repeat (first | apply Kd.V_alloc | apply Kd.V_drewN | apply Kd.V_drew)); exact HO910.out) (Kd.R_base ho0) hb); have n3_ := Aside0.mk (Kd.R_elder' (by (with_reducible repeat (first | apply Kd.R_alloc | apply Kd.R_drewN | apply Kd.R_drew)); exact HO913.out) (Kd.R_base ho0) hb); have n4_ := Aside0.mk (Kd.R_lower (Kd.R_new' (Kd.R_new' ho0 (Kd.R_lt (by (with_reducible repeat (first | apply Kd.R_alloc | apply Kd.R_drewN | apply Kd.R_drew)); exact HO904.out))) (Kd.R_lt (by (with_reducible repeat (first | apply Kd.R_alloc | apply Kd.R_drewN | apply Kd.R_drew)); exact HO913.out))) (below_size (by repeat (first | (with_reducible first | exact HB.out | apply below_alloc | apply pw_below_drewN | apply below_drew1) | exact HB.out)))); have n5_ := Aside0.mk (below_step (by repeat (first | (with_reducible first | exact HB.out | apply below_alloc | apply pw_below_drewN | apply below_drew1) | exact HB.out)) hb); clear HO904; clear HO907; clear HO910; clear HO913; clear HB; have HO904 := n0_; have HO907 := n1_; have HO910 := n2_; have HO913 := n3_; have HO916 := n4_; have HB := n5_; clear n0_ n1_ n2_ n3_ n4_ n5_; (try clear hb); (try clear hb2); (try clear hk); (try clear hi); (try clear ho0); obtain ⟨Ao20, co20, eo20⟩ := Kd.R_slice HO913.out; subst eo20; obtain ⟨Ao21, co21, eo21⟩ := Kd.R_slice HO916.out; subst eo21) | ((with_reducible refine gate_callee (f := 20) rfl ?_); refine goesL_ (some 29) rfl rfl Try.func20 (by kernel_rfl) rfl #[.slice Ao20 t911.length co20, .slice Ao21 t914.length co21] rfl (by (try simp only [List.map_toArray, List.map_cons, List.map_nil]); first | done | rfl | (simp only [List.length_drop, List.length_take]; rfl)) ?_; (with_reducible refine (laws_smTexts.calls k _ _ t911 _ _ t914 false _ ?side1 ?side2 ?side3 ?side4 A12.out).mono ?_); (case side1 => repeat (first | exact (Kd.R_reads' HO913.out).2.2 | (with_reducible refine Kd.C_alloc ?_ _) | (with_reducible refine Kd.C_drewN ?_ _) | (with_reducible refine Kd.C_drew ?_))); (case side2 => exact (Kd.R_reads' HO913.out).2.1); (case side3 => repeat (first | exact (Kd.R_reads' HO916.out).2.2 | (with_reducible refine Kd.C_alloc ?_ _) | (with_reducible refine Kd.C_drewN ?_ _) | (with_reducible refine Kd.C_drew ?_))); (case side4 => exact (Kd.R_reads' HO916.out).2.1); rintro e w' ⟨rfl, ⟨nd, rfl⟩⟩; refine ⟨_, rfl, ?_⟩))
    go_meet
    case rel => exact ⟨_, (true), (by first | rfl | (simp; done) | (simp [*]; done)), H', ⟨by first | omega | exact Nat.le_refl _⟩, ⟨by (with_reducible repeat (first | apply Kd.R_alloc | apply Kd.R_drewN | apply Kd.R_drew)); exact Kd.R_mono HO904.out (fun _ hk => hk.1.2)⟩, ⟨by (with_reducible repeat (first | apply Kd.V_alloc | apply Kd.V_drewN | apply Kd.V_drew)); exact Kd.V_mono HO907.out (fun _ hk => ⟨hk.1.1, hk.1.2⟩)⟩, ⟨by (with_reducible repeat (first | apply Kd.V_alloc | apply Kd.V_drewN | apply Kd.V_drew)); exact Kd.V_mono HO910.out (fun _ hk => ⟨hk.1.1, hk.1.2⟩)⟩, ⟨by (with_reducible repeat (first | apply Kd.R_alloc | apply Kd.R_drewN | apply Kd.R_drew)); exact Kd.R_mono HO913.out (fun _ hk => hk.1.2)⟩, ⟨by repeat (first | (with_reducible first | exact HB.out | apply below_alloc | apply pw_below_drewN | apply below_drew1) | exact HB.out)⟩⟩
  case rest =>
   clear HC5; (try clear c1); (try clear c2); (try clear c2b0); (try clear c2b1); (try clear p2); (try clear c4); (try clear c10); (try clear c13); (try clear c20); obtain ⟨kq, x37_4, rfl, HA, HJ4, HO_3, HO_4, HO_5, HO_6, HB⟩ := hcut
   cases kq with
   | zero => exact absurd HA.out (by simp [laws_FnMergeShow.j0])
   | succ kj4 =>
    have H := HA.out; clear HA; simp only [laws_FnMergeShow.j0] at H; by_cases c22 : x37_4 = true
    ·subst c22; (have H1 : ((spec_MergeShow.f kj4 t902 t905 t908).bind fun t919 => ((laws_smTexts.f kj4 t911 t919).bind fun t922 => (some t922))) = some r := by rw [if_pos rfl] at H; exact H); clear H; have H := H1; clear H1; replace H := Option.bind_eq_some_iff.mp H; obtain ⟨t919, A230, H⟩ := H; replace H : ((laws_smTexts.f kj4 t911 t919).bind fun t922 => (some t922)) = some r := H; have A23 := Aside0.mk A230; clear A230; replace H := Option.bind_eq_some_iff.mp H; obtain ⟨t922, A240, H⟩ := H; replace H : (some t922) = some r := H; have A24 := Aside0.mk A240; clear A240; obtain rfl := Option.some.inj H; go_wp2_with (first | ((with_reducible refine gate_callee (f := 43) rfl ?_); refine goesL_ (some 42) rfl rfl Try.func43 (by kernel_rfl) rfl #[.slice Ao7 t902.length co7, .slice Ao8 t905.length co8, .slice Ao9 t908.length co9] rfl (by (try simp only [List.map_toArray, List.map_cons, List.map_nil]); first | done | rfl | (simp only [List.length_drop, List.length_take]; rfl)) ?_; (with_reducible refine (spec_MergeShow.calls kj4 _ _ t902 _ _ t905 _ _ t908 t919 _ ?side1 ?side2 ?side3 ?side4 ?side5 ?side6 A23.out).mono ?_); (case side1 => repeat (first | exact (Kd.R_reads' HO_3.out).2.2 | (with_reducible refine Kd.C_alloc ?_ _) | (with_reducible refine Kd.C_drewN ?_ _) | (with_reducible refine Kd.C_drew ?_))); (case side2 => exact (Kd.R_reads' HO_3.out).2.1); (case side3 => repeat (first | exact (Kd.V_reads' HO_4.out).2.2 | (with_reducible refine Kd.C_alloc ?_ _) | (with_reducible refine Kd.C_drewN ?_ _) | (with_reducible refine Kd.C_drew ?_))); (case side4 => exact (Kd.V_reads' HO_4.out).2.1); (case side5 => repeat (first | exact (Kd.V_reads' HO_5.out).2.2 | (with_reducible refine Kd.C_alloc ?_ _) | (with_reducible refine Kd.C_drewN ?_ _) | (with_reducible refine Kd.C_drew ?_))); (case side6 => exact (Kd.V_reads' HO_5.out).2.1); rintro e w25 ⟨v920, rfl, ho0, hb⟩; refine ⟨_, rfl, ?_⟩; have n0_ := Aside0.mk (Kd.R_elder' (by (with_reducible repeat (first | apply Kd.R_alloc | apply Kd.R_drewN | apply Kd.R_drew)); exact HO_3.out) (Kd.R_base ho0) hb); have n1_ := Aside0.mk (Kd.V_elder' (by (with_reducible repeat (first | apply Kd.V_alloc | apply Kd.V_drewN | apply Kd.V_drew)); exact HO_4.out) (Kd.R_base ho0) hb); have n2_ := Aside0.mk (Kd.V_elder' (by (with_reducible repeat (first | apply Kd.V_alloc | apply Kd.V_drewN | apply Kd.V_drew)); exact HO_5.out) (Kd.R_base ho0) hb); have n3_ := Aside0.mk (Kd.R_elder' (by (with_reducible repeat (first | apply Kd.R_alloc | apply Kd.R_drewN | apply Kd.R_drew)); exact HO_6.out) (Kd.R_base ho0) hb); have n4_ := Aside0.mk (Kd.R_lower (Kd.R_new' (Kd.R_new' ho0 (Kd.R_lt (by (with_reducible repeat (first | apply Kd.R_alloc | apply Kd.R_drewN | apply Kd.R_drew)); exact HO_3.out))) (Kd.R_lt (by (with_reducible repeat (first | apply Kd.R_alloc | apply Kd.R_drewN | apply Kd.R_drew)); exact HO_6.out))) (below_size (by repeat (first | (with_reducible first | exact HB.out | apply below_alloc | apply pw_below_drewN | apply below_drew1) | exact HB.out)))); have n5_ := Aside0.mk (below_step (by repeat (first | (with_reducible first | exact HB.out | apply below_alloc | apply pw_below_drewN | apply below_drew1) | exact HB.out)) hb); clear HO_3; clear HO_4; clear HO_5; clear HO_6; clear HB; have HO_3 := n0_; have HO_4 := n1_; have HO_5 := n2_; have HO_6 := n3_; have HO921 := n4_; have HB := n5_; clear n0_ n1_ n2_ n3_ n4_ n5_; (try clear hb); (try clear hb2); (try clear hk); (try clear hi); (try clear ho0); obtain ⟨Ao26, co26, eo26⟩ := Kd.R_slice HO_6.out; subst eo26; obtain ⟨Ao27, co27, eo27⟩ := Kd.R_slice HO921.out; subst eo27) | ((with_reducible refine gate_callee (f := 20) rfl ?_); refine goesL_ (some 43) rfl rfl Try.func20 (by kernel_rfl) rfl #[.slice Ao26 t911.length co26, .slice Ao27 t919.length co27] rfl (by (try simp only [List.map_toArray, List.map_cons, List.map_nil]); first | done | rfl | (simp only [List.length_drop, List.length_take]; rfl)) ?_; (with_reducible refine (laws_smTexts.calls kj4 _ _ t911 _ _ t919 t922 _ ?side1 ?side2 ?side3 ?side4 A24.out).mono ?_); (case side1 => repeat (first | exact (Kd.R_reads' HO_6.out).2.2 | (with_reducible refine Kd.C_alloc ?_ _) | (with_reducible refine Kd.C_drewN ?_ _) | (with_reducible refine Kd.C_drew ?_))); (case side2 => exact (Kd.R_reads' HO_6.out).2.1); (case side3 => repeat (first | exact (Kd.R_reads' HO921.out).2.2 | (with_reducible refine Kd.C_alloc ?_ _) | (with_reducible refine Kd.C_drewN ?_ _) | (with_reducible refine Kd.C_drew ?_))); (case side4 => exact (Kd.R_reads' HO921.out).2.1); rintro e w' ⟨rfl, ⟨nd, rfl⟩⟩; refine ⟨_, rfl, ?_⟩))
     go_ret; exact ⟨by first | rfl | (simp <;> rfl) | (simp [*] <;> rfl), by repeat (first | (with_reducible first | exact HB.out | apply below_alloc | apply pw_below_drewN | apply below_drew1) | exact HB.out)⟩
    ·replace c22 := Bool.eq_false_iff.mpr c22; subst c22; (have H1 : ((impl_MergeClash.f kj4 t902 t905 t908).bind fun t923 => ((impl_MergeText.f kj4 t902 t905 t908).bind fun bt924 => ((laws_smHas.f kj4 t905 (⟨#[60, 60, 60]⟩ : ByteArray)).bind fun t928 => (if t928 = true then (if bt924.2 = true then ((laws_smTexts.f kj4 t911 bt924.1).bind fun t929 => (some t929)) else (some true)) else ((laws_smHas.f kj4 t908 (⟨#[60, 60, 60]⟩ : ByteArray)).bind fun t930 => (if t930 = true then (if bt924.2 = true then ((laws_smTexts.f kj4 t911 bt924.1).bind fun t931 => (some t931)) else (some true)) else ((laws_smHas.f kj4 t902 (⟨#[60, 60, 60]⟩ : ByteArray)).bind fun t932 => (if t932 = true then (if bt924.2 = true then ((laws_smTexts.f kj4 t911 bt924.1).bind fun t933 => (some t933)) else (some true)) else ((laws_smMany.f kj4 t911 (⟨#[60, 60, 60]⟩ : ByteArray)).bind fun t934 => (if t934 = t923 then (if bt924.2 = true then ((laws_smTexts.f kj4 t911 bt924.1).bind fun t935 => (some t935)) else (some true)) else (some false))))))))))) = some r := by rw [if_neg (show ¬ (false = true) by decide)] at H; exact H); clear H; have H := H1; clear H1; replace H := Option.bind_eq_some_iff.mp H; obtain ⟨t923, A280, H⟩ := H; replace H : ((impl_MergeText.f kj4 t902 t905 t908).bind fun bt924 => ((laws_smHas.f kj4 t905 (⟨#[60, 60, 60]⟩ : ByteArray)).bind fun t928 => (if t928 = true then (if bt924.2 = true then ((laws_smTexts.f kj4 t911 bt924.1).bind fun t929 => (some t929)) else (some true)) else ((laws_smHas.f kj4 t908 (⟨#[60, 60, 60]⟩ : ByteArray)).bind fun t930 => (if t930 = true then (if bt924.2 = true then ((laws_smTexts.f kj4 t911 bt924.1).bind fun t931 => (some t931)) else (some true)) else ((laws_smHas.f kj4 t902 (⟨#[60, 60, 60]⟩ : ByteArray)).bind fun t932 => (if t932 = true then (if bt924.2 = true then ((laws_smTexts.f kj4 t911 bt924.1).bind fun t933 => (some t933)) else (some true)) else ((laws_smMany.f kj4 t911 (⟨#[60, 60, 60]⟩ : ByteArray)).bind fun t934 => (if t934 = t923 then (if bt924.2 = true then ((laws_smTexts.f kj4 t911 bt924.1).bind fun t935 => (some t935)) else (some true)) else (some false)))))))))) = some r := H; have A28 := Aside0.mk A280; clear A280; replace H := Option.bind_eq_some_iff.mp H; obtain ⟨⟨t924, t925⟩, A290, H⟩ := H; replace H : ((laws_smHas.f kj4 t905 (⟨#[60, 60, 60]⟩ : ByteArray)).bind fun t928 => (if t928 = true then (if t925 = true then ((laws_smTexts.f kj4 t911 t924).bind fun t929 => (some t929)) else (some true)) else ((laws_smHas.f kj4 t908 (⟨#[60, 60, 60]⟩ : ByteArray)).bind fun t930 => (if t930 = true then (if t925 = true then ((laws_smTexts.f kj4 t911 t924).bind fun t931 => (some t931)) else (some true)) else ((laws_smHas.f kj4 t902 (⟨#[60, 60, 60]⟩ : ByteArray)).bind fun t932 => (if t932 = true then (if t925 = true then ((laws_smTexts.f kj4 t911 t924).bind fun t933 => (some t933)) else (some true)) else ((laws_smMany.f kj4 t911 (⟨#[60, 60, 60]⟩ : ByteArray)).bind fun t934 => (if t934 = t923 then (if t925 = true then ((laws_smTexts.f kj4 t911 t924).bind fun t935 => (some t935)) else (some true)) else (some false))))))))) = some r := H
     have A29 := Aside0.mk A290; clear A290; replace H := Option.bind_eq_some_iff.mp H; obtain ⟨t928, A300, H⟩ := H; replace H : (if t928 = true then (if t925 = true then ((laws_smTexts.f kj4 t911 t924).bind fun t929 => (some t929)) else (some true)) else ((laws_smHas.f kj4 t908 (⟨#[60, 60, 60]⟩ : ByteArray)).bind fun t930 => (if t930 = true then (if t925 = true then ((laws_smTexts.f kj4 t911 t924).bind fun t931 => (some t931)) else (some true)) else ((laws_smHas.f kj4 t902 (⟨#[60, 60, 60]⟩ : ByteArray)).bind fun t932 => (if t932 = true then (if t925 = true then ((laws_smTexts.f kj4 t911 t924).bind fun t933 => (some t933)) else (some true)) else ((laws_smMany.f kj4 t911 (⟨#[60, 60, 60]⟩ : ByteArray)).bind fun t934 => (if t934 = t923 then (if t925 = true then ((laws_smTexts.f kj4 t911 t924).bind fun t935 => (some t935)) else (some true)) else (some false)))))))) = some r := H; have A30 := Aside0.mk A300; clear A300; by_cases c31 : t928 = true
     ·subst c31; (have H1 : (if t925 = true then ((laws_smTexts.f kj4 t911 t924).bind fun t929 => (some t929)) else (some true)) = some r := by rw [if_pos rfl] at H; exact H); clear H; have H := H1; clear H1; by_cases c32 : t925 = true
      ·subst c32; (have H1 : ((laws_smTexts.f kj4 t911 t924).bind fun t929 => (some t929)) = some r := by rw [if_pos rfl] at H; exact H); clear H; have H := H1; clear H1; replace H := Option.bind_eq_some_iff.mp H; obtain ⟨t929, A330, H⟩ := H; replace H : (some t929) = some r := H; have A33 := Aside0.mk A330; clear A330; obtain rfl := Option.some.inj H; go_wp2_with (first | ((with_reducible refine gate_callee (f := 28) rfl ?_); refine goesL_ (some 47) rfl rfl Try.func28 (by kernel_rfl) rfl #[.slice Ao7 t902.length co7, .slice Ao8 t905.length co8, .slice Ao9 t908.length co9] rfl (by (try simp only [List.map_toArray, List.map_cons, List.map_nil]); first | done | rfl | (simp only [List.length_drop, List.length_take]; rfl)) ?_; (with_reducible refine (impl_MergeClash.calls kj4 _ _ t902 _ _ t905 _ _ t908 t923 _ ?side1 ?side2 ?side3 ?side4 ?side5 ?side6 A28.out).mono ?_); (case side1 => repeat (first | exact (Kd.R_reads' HO_3.out).2.2 | (with_reducible refine Kd.C_alloc ?_ _) | (with_reducible refine Kd.C_drewN ?_ _) | (with_reducible refine Kd.C_drew ?_))); (case side2 => exact (Kd.R_reads' HO_3.out).2.1); (case side3 => repeat (first | exact (Kd.V_reads' HO_4.out).2.2 | (with_reducible refine Kd.C_alloc ?_ _) | (with_reducible refine Kd.C_drewN ?_ _) | (with_reducible refine Kd.C_drew ?_))); (case side4 => exact (Kd.V_reads' HO_4.out).2.1); (case side5 => repeat (first | exact (Kd.V_reads' HO_5.out).2.2 | (with_reducible refine Kd.C_alloc ?_ _) | (with_reducible refine Kd.C_drewN ?_ _) | (with_reducible refine Kd.C_drew ?_))); (case side6 => exact (Kd.V_reads' HO_5.out).2.1); rintro e w34 ⟨rfl, hb⟩; refine ⟨_, rfl, ?_⟩; have n0_ := Aside0.mk (Kd.R_below (by (with_reducible repeat (first | apply Kd.R_alloc | apply Kd.R_drewN | apply Kd.R_drew)); exact HO_3.out) hb); have n1_ := Aside0.mk (Kd.V_below (by (with_reducible repeat (first | apply Kd.V_alloc | apply Kd.V_drewN | apply Kd.V_drew)); exact HO_4.out) hb); have n2_ := Aside0.mk (Kd.V_below (by (with_reducible repeat (first | apply Kd.V_alloc | apply Kd.V_drewN | apply Kd.V_drew)); exact HO_5.out) hb); have n3_ := Aside0.mk (Kd.R_below (by (with_reducible repeat (first | apply Kd.R_alloc | apply Kd.R_drewN | apply Kd.R_drew)); exact HO_6.out) hb); have n4_ := Aside0.mk (below_step (by repeat (first | (with_reducible first | exact HB.out | apply below_alloc | apply pw_below_drewN | apply below_drew1) | exact HB.out)) hb); clear HO_3; clear HO_4; clear HO_5; clear HO_6; clear HB; have HO_3 := n0_; have HO_4 := n1_; have HO_5 := n2_; have HO_6 := n3_; have HB := n4_; clear n0_ n1_ n2_ n3_ n4_; (try clear hb); (try clear hb2); (try clear hk); (try clear hi)) | ((with_reducible refine gate_callee (f := 25) rfl ?_); refine goesL_ (some 52) rfl rfl Try.func25 (by kernel_rfl) rfl #[.slice Ao7 t902.length co7, .slice Ao8 t905.length co8, .slice Ao9 t908.length co9] rfl (by (try simp only [List.map_toArray, List.map_cons, List.map_nil]); first | done | rfl | (simp only [List.length_drop, List.length_take]; rfl)) ?_; (with_reducible refine (impl_MergeText.calls kj4 _ _ t902 _ _ t905 _ _ t908 t924 true _ ?side1 ?side2 ?side3 ?side4 ?side5 ?side6 A29.out).mono ?_); (case side1 => repeat (first | exact (Kd.R_reads' HO_3.out).2.2 | (with_reducible refine Kd.C_alloc ?_ _) | (with_reducible refine Kd.C_drewN ?_ _) | (with_reducible refine Kd.C_drew ?_))); (case side2 => exact (Kd.R_reads' HO_3.out).2.1); (case side3 => repeat (first | exact (Kd.V_reads' HO_4.out).2.2 | (with_reducible refine Kd.C_alloc ?_ _) | (with_reducible refine Kd.C_drewN ?_ _) | (with_reducible refine Kd.C_drew ?_))); (case side4 => exact (Kd.V_reads' HO_4.out).2.1); (case side5 => repeat (first | exact (Kd.V_reads' HO_5.out).2.2 | (with_reducible refine Kd.C_alloc ?_ _) | (with_reducible refine Kd.C_drewN ?_ _) | (with_reducible refine Kd.C_drew ?_))); (case side6 => exact (Kd.V_reads' HO_5.out).2.1); rintro e w35 ⟨v926, rfl, ho0, hb⟩; refine ⟨_, rfl, ?_⟩; have n0_ := Aside0.mk (Kd.R_elder' (by (with_reducible repeat (first | apply Kd.R_alloc | apply Kd.R_drewN | apply Kd.R_drew)); exact HO_3.out) (Kd.R_base ho0) hb); have n1_ := Aside0.mk (Kd.V_elder' (by (with_reducible repeat (first | apply Kd.V_alloc | apply Kd.V_drewN | apply Kd.V_drew)); exact HO_4.out) (Kd.R_base ho0) hb); have n2_ := Aside0.mk (Kd.V_elder' (by (with_reducible repeat (first | apply Kd.V_alloc | apply Kd.V_drewN | apply Kd.V_drew)); exact HO_5.out) (Kd.R_base ho0) hb); have n3_ := Aside0.mk (Kd.R_elder' (by (with_reducible repeat (first | apply Kd.R_alloc | apply Kd.R_drewN | apply Kd.R_drew)); exact HO_6.out) (Kd.R_base ho0) hb); have n4_ := Aside0.mk (Kd.R_lower (Kd.R_new' (Kd.R_new' ho0 (Kd.R_lt (by (with_reducible repeat (first | apply Kd.R_alloc | apply Kd.R_drewN | apply Kd.R_drew)); exact HO_3.out))) (Kd.R_lt (by (with_reducible repeat (first | apply Kd.R_alloc | apply Kd.R_drewN | apply Kd.R_drew)); exact HO_6.out))) (below_size (by repeat (first | (with_reducible first | exact HB.out | apply below_alloc | apply pw_below_drewN | apply below_drew1) | exact HB.out)))); have n5_ := Aside0.mk (below_step (by repeat (first | (with_reducible first | exact HB.out | apply below_alloc | apply pw_below_drewN | apply below_drew1) | exact HB.out)) hb); clear HO_3; clear HO_4; clear HO_5; clear HO_6; clear HB; have HO_3 := n0_; have HO_4 := n1_; have HO_5 := n2_; have HO_6 := n3_; have HO927 := n4_; have HB := n5_; clear n0_ n1_ n2_ n3_ n4_ n5_; (try clear hb); (try clear hb2); (try clear hk); (try clear hi); (try clear ho0)) | ((with_reducible refine gate_callee (f := 44) rfl ?_); refine goesL_ (some 56) rfl rfl Try.func44 (by kernel_rfl) rfl #[.slice Ao8 t905.length co8, .string (⟨#[60, 60, 60]⟩ : ByteArray)] rfl (by (try simp only [List.map_toArray, List.map_cons, List.map_nil]); first | done | rfl | (simp only [List.length_drop, List.length_take]; rfl)) ?_; (with_reducible refine (laws_smHas.calls kj4 _ _ t905 (⟨#[60, 60, 60]⟩ : ByteArray) true _ ?side1 ?side2 A30.out).mono ?_); (case side1 => repeat (first | exact (Kd.V_reads' HO_4.out).2.2 | (with_reducible refine Kd.C_alloc ?_ _) | (with_reducible refine Kd.C_drewN ?_ _) | (with_reducible refine Kd.C_drew ?_))); (case side2 => exact (Kd.V_reads' HO_4.out).2.1); rintro e w' ⟨rfl, ⟨nd, rfl⟩⟩; refine ⟨_, rfl, ?_⟩; obtain ⟨Ao36, co36, eo36⟩ := Kd.R_slice HO_6.out; subst eo36; obtain ⟨Ao37, co37, eo37⟩ := Kd.R_slice HO927.out; subst eo37) | (go_at_call 20; (with_reducible refine (laws_smTexts.calls kj4 _ _ t911 _ _ t924 t929 _ ?side1 ?side2 ?side3 ?side4 A33.out).mono ?_); (case side1 => repeat (first | exact (Kd.R_reads' HO_6.out).2.2 | (with_reducible refine Kd.C_alloc ?_ _) | (with_reducible refine Kd.C_drewN ?_ _) | (with_reducible refine Kd.C_drew ?_))); (case side2 => exact (Kd.R_reads' HO_6.out).2.1); (case side3 => repeat (first | exact (Kd.R_reads' HO927.out).2.2 | (with_reducible refine Kd.C_alloc ?_ _) | (with_reducible refine Kd.C_drewN ?_ _) | (with_reducible refine Kd.C_drew ?_))); (case side4 => exact (Kd.R_reads' HO927.out).2.1); rintro e w' ⟨rfl, ⟨nd, rfl⟩⟩))
       go_ret; exact ⟨by first | rfl | (simp <;> rfl) | (simp [*] <;> rfl), by repeat (first | (with_reducible first | exact HB.out | apply below_alloc | apply pw_below_drewN | apply below_drew1) | exact HB.out)⟩
      ·replace c32 := Bool.eq_false_iff.mpr c32; subst c32; (have H1 : (some true) = some r := by rw [if_neg (show ¬ (false = true) by decide)] at H; exact H); clear H; have H := H1; clear H1; obtain rfl := Option.some.inj H; go_wp2_with (first | ((with_reducible refine gate_callee (f := 28) rfl ?_); refine goesL_ (some 47) rfl rfl Try.func28 (by kernel_rfl) rfl #[.slice Ao7 t902.length co7, .slice Ao8 t905.length co8, .slice Ao9 t908.length co9] rfl (by (try simp only [List.map_toArray, List.map_cons, List.map_nil]); first | done | rfl | (simp only [List.length_drop, List.length_take]; rfl)) ?_; (with_reducible refine (impl_MergeClash.calls kj4 _ _ t902 _ _ t905 _ _ t908 t923 _ ?side1 ?side2 ?side3 ?side4 ?side5 ?side6 A28.out).mono ?_); (case side1 => repeat (first | exact (Kd.R_reads' HO_3.out).2.2 | (with_reducible refine Kd.C_alloc ?_ _) | (with_reducible refine Kd.C_drewN ?_ _) | (with_reducible refine Kd.C_drew ?_))); (case side2 => exact (Kd.R_reads' HO_3.out).2.1); (case side3 => repeat (first | exact (Kd.V_reads' HO_4.out).2.2 | (with_reducible refine Kd.C_alloc ?_ _) | (with_reducible refine Kd.C_drewN ?_ _) | (with_reducible refine Kd.C_drew ?_))); (case side4 => exact (Kd.V_reads' HO_4.out).2.1); (case side5 => repeat (first | exact (Kd.V_reads' HO_5.out).2.2 | (with_reducible refine Kd.C_alloc ?_ _) | (with_reducible refine Kd.C_drewN ?_ _) | (with_reducible refine Kd.C_drew ?_))); (case side6 => exact (Kd.V_reads' HO_5.out).2.1); rintro e w38 ⟨rfl, hb⟩; refine ⟨_, rfl, ?_⟩; have n0_ := Aside0.mk (Kd.R_below (by (with_reducible repeat (first | apply Kd.R_alloc | apply Kd.R_drewN | apply Kd.R_drew)); exact HO_3.out) hb); have n1_ := Aside0.mk (Kd.V_below (by (with_reducible repeat (first | apply Kd.V_alloc | apply Kd.V_drewN | apply Kd.V_drew)); exact HO_4.out) hb); have n2_ := Aside0.mk (Kd.V_below (by (with_reducible repeat (first | apply Kd.V_alloc | apply Kd.V_drewN | apply Kd.V_drew)); exact HO_5.out) hb); have n3_ := Aside0.mk (Kd.R_below (by (with_reducible repeat (first | apply Kd.R_alloc | apply Kd.R_drewN | apply Kd.R_drew)); exact HO_6.out) hb); have n4_ := Aside0.mk (below_step (by repeat (first | (with_reducible first | exact HB.out | apply below_alloc | apply pw_below_drewN | apply below_drew1) | exact HB.out)) hb); clear HO_3; clear HO_4; clear HO_5; clear HO_6; clear HB; have HO_3 := n0_; have HO_4 := n1_; have HO_5 := n2_; have HO_6 := n3_; have HB := n4_; clear n0_ n1_ n2_ n3_ n4_; (try clear hb); (try clear hb2); (try clear hk); (try clear hi)) | ((with_reducible refine gate_callee (f := 25) rfl ?_); refine goesL_ (some 52) rfl rfl Try.func25 (by kernel_rfl) rfl #[.slice Ao7 t902.length co7, .slice Ao8 t905.length co8, .slice Ao9 t908.length co9] rfl (by (try simp only [List.map_toArray, List.map_cons, List.map_nil]); first | done | rfl | (simp only [List.length_drop, List.length_take]; rfl)) ?_; (with_reducible refine (impl_MergeText.calls kj4 _ _ t902 _ _ t905 _ _ t908 t924 false _ ?side1 ?side2 ?side3 ?side4 ?side5 ?side6 A29.out).mono ?_); (case side1 => repeat (first | exact (Kd.R_reads' HO_3.out).2.2 | (with_reducible refine Kd.C_alloc ?_ _) | (with_reducible refine Kd.C_drewN ?_ _) | (with_reducible refine Kd.C_drew ?_))); (case side2 => exact (Kd.R_reads' HO_3.out).2.1); (case side3 => repeat (first | exact (Kd.V_reads' HO_4.out).2.2 | (with_reducible refine Kd.C_alloc ?_ _) | (with_reducible refine Kd.C_drewN ?_ _) | (with_reducible refine Kd.C_drew ?_))); (case side4 => exact (Kd.V_reads' HO_4.out).2.1); (case side5 => repeat (first | exact (Kd.V_reads' HO_5.out).2.2 | (with_reducible refine Kd.C_alloc ?_ _) | (with_reducible refine Kd.C_drewN ?_ _) | (with_reducible refine Kd.C_drew ?_))); (case side6 => exact (Kd.V_reads' HO_5.out).2.1); rintro e w39 ⟨v926, rfl, ho0, hb⟩; refine ⟨_, rfl, ?_⟩; have n0_ := Aside0.mk (Kd.R_elder' (by (with_reducible repeat (first | apply Kd.R_alloc | apply Kd.R_drewN | apply Kd.R_drew)); exact HO_3.out) (Kd.R_base ho0) hb); have n1_ := Aside0.mk (Kd.V_elder' (by (with_reducible repeat (first | apply Kd.V_alloc | apply Kd.V_drewN | apply Kd.V_drew)); exact HO_4.out) (Kd.R_base ho0) hb); have n2_ := Aside0.mk (Kd.V_elder' (by (with_reducible repeat (first | apply Kd.V_alloc | apply Kd.V_drewN | apply Kd.V_drew)); exact HO_5.out) (Kd.R_base ho0) hb); have n3_ := Aside0.mk (Kd.R_elder' (by (with_reducible repeat (first | apply Kd.R_alloc | apply Kd.R_drewN | apply Kd.R_drew)); exact HO_6.out) (Kd.R_base ho0) hb); have n4_ := Aside0.mk (Kd.R_lower (Kd.R_new' (Kd.R_new' ho0 (Kd.R_lt (by (with_reducible repeat (first | apply Kd.R_alloc | apply Kd.R_drewN | apply Kd.R_drew)); exact HO_3.out))) (Kd.R_lt (by (with_reducible repeat (first | apply Kd.R_alloc | apply Kd.R_drewN | apply Kd.R_drew)); exact HO_6.out))) (below_size (by repeat (first | (with_reducible first | exact HB.out | apply below_alloc | apply pw_below_drewN | apply below_drew1) | exact HB.out)))); have n5_ := Aside0.mk (below_step (by repeat (first | (with_reducible first | exact HB.out | apply below_alloc | apply pw_below_drewN | apply below_drew1) | exact HB.out)) hb); clear HO_3; clear HO_4; clear HO_5; clear HO_6; clear HB; have HO_3 := n0_; have HO_4 := n1_; have HO_5 := n2_; have HO_6 := n3_; have HO927 := n4_; have HB := n5_; clear n0_ n1_ n2_ n3_ n4_ n5_; (try clear hb); (try clear hb2); (try clear hk); (try clear hi); (try clear ho0)) | ((with_reducible refine gate_callee (f := 44) rfl ?_); refine goesL_ (some 56) rfl rfl Try.func44 (by kernel_rfl) rfl #[.slice Ao8 t905.length co8, .string (⟨#[60, 60, 60]⟩ : ByteArray)] rfl (by (try simp only [List.map_toArray, List.map_cons, List.map_nil]); first | done | rfl | (simp only [List.length_drop, List.length_take]; rfl)) ?_; (with_reducible refine (laws_smHas.calls kj4 _ _ t905 (⟨#[60, 60, 60]⟩ : ByteArray) true _ ?side1 ?side2 A30.out).mono ?_); (case side1 => repeat (first | exact (Kd.V_reads' HO_4.out).2.2 | (with_reducible refine Kd.C_alloc ?_ _) | (with_reducible refine Kd.C_drewN ?_ _) | (with_reducible refine Kd.C_drew ?_))); (case side2 => exact (Kd.V_reads' HO_4.out).2.1); rintro e w' ⟨rfl, ⟨nd, rfl⟩⟩; refine ⟨_, rfl, ?_⟩))
       go_ret; exact ⟨by first | rfl | (simp <;> rfl) | (simp [*] <;> rfl), by repeat (first | (with_reducible first | exact HB.out | apply below_alloc | apply pw_below_drewN | apply below_drew1) | exact HB.out)⟩
     ·replace c31 := Bool.eq_false_iff.mpr c31; subst c31; (have H1 : ((laws_smHas.f kj4 t908 (⟨#[60, 60, 60]⟩ : ByteArray)).bind fun t930 => (if t930 = true then (if t925 = true then ((laws_smTexts.f kj4 t911 t924).bind fun t931 => (some t931)) else (some true)) else ((laws_smHas.f kj4 t902 (⟨#[60, 60, 60]⟩ : ByteArray)).bind fun t932 => (if t932 = true then (if t925 = true then ((laws_smTexts.f kj4 t911 t924).bind fun t933 => (some t933)) else (some true)) else ((laws_smMany.f kj4 t911 (⟨#[60, 60, 60]⟩ : ByteArray)).bind fun t934 => (if t934 = t923 then (if t925 = true then ((laws_smTexts.f kj4 t911 t924).bind fun t935 => (some t935)) else (some true)) else (some false))))))) = some r := by rw [if_neg (show ¬ (false = true) by decide)] at H; exact H); clear H; have H := H1; clear H1; replace H := Option.bind_eq_some_iff.mp H; obtain ⟨t930, A400, H⟩ := H; replace H : (if t930 = true then (if t925 = true then ((laws_smTexts.f kj4 t911 t924).bind fun t931 => (some t931)) else (some true)) else ((laws_smHas.f kj4 t902 (⟨#[60, 60, 60]⟩ : ByteArray)).bind fun t932 => (if t932 = true then (if t925 = true then ((laws_smTexts.f kj4 t911 t924).bind fun t933 => (some t933)) else (some true)) else ((laws_smMany.f kj4 t911 (⟨#[60, 60, 60]⟩ : ByteArray)).bind fun t934 => (if t934 = t923 then (if t925 = true then ((laws_smTexts.f kj4 t911 t924).bind fun t935 => (some t935)) else (some true)) else (some false)))))) = some r := H; have A40 := Aside0.mk A400; clear A400; by_cases c41 : t930 = true
      ·subst c41; (have H1 : (if t925 = true then ((laws_smTexts.f kj4 t911 t924).bind fun t931 => (some t931)) else (some true)) = some r := by rw [if_pos rfl] at H; exact H); clear H; have H := H1; clear H1; by_cases c42 : t925 = true
       ·subst c42; (have H1 : ((laws_smTexts.f kj4 t911 t924).bind fun t931 => (some t931)) = some r := by rw [if_pos rfl] at H; exact H); clear H; have H := H1; clear H1; replace H := Option.bind_eq_some_iff.mp H; obtain ⟨t931, A430, H⟩ := H; replace H : (some t931) = some r := H; have A43 := Aside0.mk A430; clear A430; obtain rfl := Option.some.inj H; go_wp2_with (first | ((with_reducible refine gate_callee (f := 28) rfl ?_); refine goesL_ (some 47) rfl rfl Try.func28 (by kernel_rfl) rfl #[.slice Ao7 t902.length co7, .slice Ao8 t905.length co8, .slice Ao9 t908.length co9] rfl (by (try simp only [List.map_toArray, List.map_cons, List.map_nil]); first | done | rfl | (simp only [List.length_drop, List.length_take]; rfl)) ?_; (with_reducible refine (impl_MergeClash.calls kj4 _ _ t902 _ _ t905 _ _ t908 t923 _ ?side1 ?side2 ?side3 ?side4 ?side5 ?side6 A28.out).mono ?_); (case side1 => repeat (first | exact (Kd.R_reads' HO_3.out).2.2 | (with_reducible refine Kd.C_alloc ?_ _) | (with_reducible refine Kd.C_drewN ?_ _) | (with_reducible refine Kd.C_drew ?_))); (case side2 => exact (Kd.R_reads' HO_3.out).2.1); (case side3 => repeat (first | exact (Kd.V_reads' HO_4.out).2.2 | (with_reducible refine Kd.C_alloc ?_ _) | (with_reducible refine Kd.C_drewN ?_ _) | (with_reducible refine Kd.C_drew ?_))); (case side4 => exact (Kd.V_reads' HO_4.out).2.1); (case side5 => repeat (first | exact (Kd.V_reads' HO_5.out).2.2 | (with_reducible refine Kd.C_alloc ?_ _) | (with_reducible refine Kd.C_drewN ?_ _) | (with_reducible refine Kd.C_drew ?_))); (case side6 => exact (Kd.V_reads' HO_5.out).2.1); rintro e w44 ⟨rfl, hb⟩; refine ⟨_, rfl, ?_⟩; have n0_ := Aside0.mk (Kd.R_below (by (with_reducible repeat (first | apply Kd.R_alloc | apply Kd.R_drewN | apply Kd.R_drew)); exact HO_3.out) hb); have n1_ := Aside0.mk (Kd.V_below (by (with_reducible repeat (first | apply Kd.V_alloc | apply Kd.V_drewN | apply Kd.V_drew)); exact HO_4.out) hb); have n2_ := Aside0.mk (Kd.V_below (by (with_reducible repeat (first | apply Kd.V_alloc | apply Kd.V_drewN | apply Kd.V_drew)); exact HO_5.out) hb); have n3_ := Aside0.mk (Kd.R_below (by (with_reducible repeat (first | apply Kd.R_alloc | apply Kd.R_drewN | apply Kd.R_drew)); exact HO_6.out) hb); have n4_ := Aside0.mk (below_step (by repeat (first | (with_reducible first | exact HB.out | apply below_alloc | apply pw_below_drewN | apply below_drew1) | exact HB.out)) hb); clear HO_3; clear HO_4; clear HO_5; clear HO_6; clear HB; have HO_3 := n0_; have HO_4 := n1_; have HO_5 := n2_; have HO_6 := n3_; have HB := n4_; clear n0_ n1_ n2_ n3_ n4_; (try clear hb); (try clear hb2); (try clear hk); (try clear hi)) | ((with_reducible refine gate_callee (f := 25) rfl ?_); refine goesL_ (some 52) rfl rfl Try.func25 (by kernel_rfl) rfl #[.slice Ao7 t902.length co7, .slice Ao8 t905.length co8, .slice Ao9 t908.length co9] rfl (by (try simp only [List.map_toArray, List.map_cons, List.map_nil]); first | done | rfl | (simp only [List.length_drop, List.length_take]; rfl)) ?_; (with_reducible refine (impl_MergeText.calls kj4 _ _ t902 _ _ t905 _ _ t908 t924 true _ ?side1 ?side2 ?side3 ?side4 ?side5 ?side6 A29.out).mono ?_); (case side1 => repeat (first | exact (Kd.R_reads' HO_3.out).2.2 | (with_reducible refine Kd.C_alloc ?_ _) | (with_reducible refine Kd.C_drewN ?_ _) | (with_reducible refine Kd.C_drew ?_))); (case side2 => exact (Kd.R_reads' HO_3.out).2.1); (case side3 => repeat (first | exact (Kd.V_reads' HO_4.out).2.2 | (with_reducible refine Kd.C_alloc ?_ _) | (with_reducible refine Kd.C_drewN ?_ _) | (with_reducible refine Kd.C_drew ?_))); (case side4 => exact (Kd.V_reads' HO_4.out).2.1); (case side5 => repeat (first | exact (Kd.V_reads' HO_5.out).2.2 | (with_reducible refine Kd.C_alloc ?_ _) | (with_reducible refine Kd.C_drewN ?_ _) | (with_reducible refine Kd.C_drew ?_))); (case side6 => exact (Kd.V_reads' HO_5.out).2.1); rintro e w45 ⟨v926, rfl, ho0, hb⟩; refine ⟨_, rfl, ?_⟩; have n0_ := Aside0.mk (Kd.R_elder' (by (with_reducible repeat (first | apply Kd.R_alloc | apply Kd.R_drewN | apply Kd.R_drew)); exact HO_3.out) (Kd.R_base ho0) hb); have n1_ := Aside0.mk (Kd.V_elder' (by (with_reducible repeat (first | apply Kd.V_alloc | apply Kd.V_drewN | apply Kd.V_drew)); exact HO_4.out) (Kd.R_base ho0) hb); have n2_ := Aside0.mk (Kd.V_elder' (by (with_reducible repeat (first | apply Kd.V_alloc | apply Kd.V_drewN | apply Kd.V_drew)); exact HO_5.out) (Kd.R_base ho0) hb); have n3_ := Aside0.mk (Kd.R_elder' (by (with_reducible repeat (first | apply Kd.R_alloc | apply Kd.R_drewN | apply Kd.R_drew)); exact HO_6.out) (Kd.R_base ho0) hb); have n4_ := Aside0.mk (Kd.R_lower (Kd.R_new' (Kd.R_new' ho0 (Kd.R_lt (by (with_reducible repeat (first | apply Kd.R_alloc | apply Kd.R_drewN | apply Kd.R_drew)); exact HO_3.out))) (Kd.R_lt (by (with_reducible repeat (first | apply Kd.R_alloc | apply Kd.R_drewN | apply Kd.R_drew)); exact HO_6.out))) (below_size (by repeat (first | (with_reducible first | exact HB.out | apply below_alloc | apply pw_below_drewN | apply below_drew1) | exact HB.out)))); have n5_ := Aside0.mk (below_step (by repeat (first | (with_reducible first | exact HB.out | apply below_alloc | apply pw_below_drewN | apply below_drew1) | exact HB.out)) hb); clear HO_3; clear HO_4; clear HO_5; clear HO_6; clear HB; have HO_3 := n0_; have HO_4 := n1_; have HO_5 := n2_; have HO_6 := n3_; have HO927 := n4_; have HB := n5_; clear n0_ n1_ n2_ n3_ n4_ n5_; (try clear hb); (try clear hb2); (try clear hk); (try clear hi); (try clear ho0)) | ((with_reducible refine gate_callee (f := 44) rfl ?_); refine goesL_ (some 56) rfl rfl Try.func44 (by kernel_rfl) rfl #[.slice Ao8 t905.length co8, .string (⟨#[60, 60, 60]⟩ : ByteArray)] rfl (by (try simp only [List.map_toArray, List.map_cons, List.map_nil]); first | done | rfl | (simp only [List.length_drop, List.length_take]; rfl)) ?_; (with_reducible refine (laws_smHas.calls kj4 _ _ t905 (⟨#[60, 60, 60]⟩ : ByteArray) false _ ?side1 ?side2 A30.out).mono ?_); (case side1 => repeat (first | exact (Kd.V_reads' HO_4.out).2.2 | (with_reducible refine Kd.C_alloc ?_ _) | (with_reducible refine Kd.C_drewN ?_ _) | (with_reducible refine Kd.C_drew ?_))); (case side2 => exact (Kd.V_reads' HO_4.out).2.1); rintro e w' ⟨rfl, ⟨nd, rfl⟩⟩; refine ⟨_, rfl, ?_⟩) | (go_at_call 44; (with_reducible refine (laws_smHas.calls kj4 _ _ t908 (⟨#[60, 60, 60]⟩ : ByteArray) true _ ?side1 ?side2 A40.out).mono ?_); (case side1 => repeat (first | exact (Kd.V_reads' HO_5.out).2.2 | (with_reducible refine Kd.C_alloc ?_ _) | (with_reducible refine Kd.C_drewN ?_ _) | (with_reducible refine Kd.C_drew ?_))); (case side2 => exact (Kd.V_reads' HO_5.out).2.1); rintro e w' ⟨rfl, ⟨nd, rfl⟩⟩; obtain ⟨Ao46, co46, eo46⟩ := Kd.R_slice HO_6.out; subst eo46; obtain ⟨Ao47, co47, eo47⟩ := Kd.R_slice HO927.out; subst eo47) | (go_at_call 20; (with_reducible refine (laws_smTexts.calls kj4 _ _ t911 _ _ t924 t931 _ ?side1 ?side2 ?side3 ?side4 A43.out).mono ?_); (case side1 => repeat (first | exact (Kd.R_reads' HO_6.out).2.2 | (with_reducible refine Kd.C_alloc ?_ _) | (with_reducible refine Kd.C_drewN ?_ _) | (with_reducible refine Kd.C_drew ?_))); (case side2 => exact (Kd.R_reads' HO_6.out).2.1); (case side3 => repeat (first | exact (Kd.R_reads' HO927.out).2.2 | (with_reducible refine Kd.C_alloc ?_ _) | (with_reducible refine Kd.C_drewN ?_ _) | (with_reducible refine Kd.C_drew ?_))); (case side4 => exact (Kd.R_reads' HO927.out).2.1); rintro e w' ⟨rfl, ⟨nd, rfl⟩⟩))
        go_ret; exact ⟨by first | rfl | (simp <;> rfl) | (simp [*] <;> rfl), by repeat (first | (with_reducible first | exact HB.out | apply below_alloc | apply pw_below_drewN | apply below_drew1) | exact HB.out)⟩
       ·replace c42 := Bool.eq_false_iff.mpr c42; subst c42; (have H1 : (some true) = some r := by rw [if_neg (show ¬ (false = true) by decide)] at H; exact H); clear H; have H := H1; clear H1; obtain rfl := Option.some.inj H; go_wp2_with (first | ((with_reducible refine gate_callee (f := 28) rfl ?_); refine goesL_ (some 47) rfl rfl Try.func28 (by kernel_rfl) rfl #[.slice Ao7 t902.length co7, .slice Ao8 t905.length co8, .slice Ao9 t908.length co9] rfl (by (try simp only [List.map_toArray, List.map_cons, List.map_nil]); first | done | rfl | (simp only [List.length_drop, List.length_take]; rfl)) ?_; (with_reducible refine (impl_MergeClash.calls kj4 _ _ t902 _ _ t905 _ _ t908 t923 _ ?side1 ?side2 ?side3 ?side4 ?side5 ?side6 A28.out).mono ?_); (case side1 => repeat (first | exact (Kd.R_reads' HO_3.out).2.2 | (with_reducible refine Kd.C_alloc ?_ _) | (with_reducible refine Kd.C_drewN ?_ _) | (with_reducible refine Kd.C_drew ?_))); (case side2 => exact (Kd.R_reads' HO_3.out).2.1); (case side3 => repeat (first | exact (Kd.V_reads' HO_4.out).2.2 | (with_reducible refine Kd.C_alloc ?_ _) | (with_reducible refine Kd.C_drewN ?_ _) | (with_reducible refine Kd.C_drew ?_))); (case side4 => exact (Kd.V_reads' HO_4.out).2.1); (case side5 => repeat (first | exact (Kd.V_reads' HO_5.out).2.2 | (with_reducible refine Kd.C_alloc ?_ _) | (with_reducible refine Kd.C_drewN ?_ _) | (with_reducible refine Kd.C_drew ?_))); (case side6 => exact (Kd.V_reads' HO_5.out).2.1); rintro e w48 ⟨rfl, hb⟩; refine ⟨_, rfl, ?_⟩; have n0_ := Aside0.mk (Kd.R_below (by (with_reducible repeat (first | apply Kd.R_alloc | apply Kd.R_drewN | apply Kd.R_drew)); exact HO_3.out) hb); have n1_ := Aside0.mk (Kd.V_below (by (with_reducible repeat (first | apply Kd.V_alloc | apply Kd.V_drewN | apply Kd.V_drew)); exact HO_4.out) hb); have n2_ := Aside0.mk (Kd.V_below (by (with_reducible repeat (first | apply Kd.V_alloc | apply Kd.V_drewN | apply Kd.V_drew)); exact HO_5.out) hb); have n3_ := Aside0.mk (Kd.R_below (by (with_reducible repeat (first | apply Kd.R_alloc | apply Kd.R_drewN | apply Kd.R_drew)); exact HO_6.out) hb); have n4_ := Aside0.mk (below_step (by repeat (first | (with_reducible first | exact HB.out | apply below_alloc | apply pw_below_drewN | apply below_drew1) | exact HB.out)) hb); clear HO_3; clear HO_4; clear HO_5; clear HO_6; clear HB; have HO_3 := n0_; have HO_4 := n1_; have HO_5 := n2_; have HO_6 := n3_; have HB := n4_; clear n0_ n1_ n2_ n3_ n4_; (try clear hb); (try clear hb2); (try clear hk); (try clear hi)) | ((with_reducible refine gate_callee (f := 25) rfl ?_); refine goesL_ (some 52) rfl rfl Try.func25 (by kernel_rfl) rfl #[.slice Ao7 t902.length co7, .slice Ao8 t905.length co8, .slice Ao9 t908.length co9] rfl (by (try simp only [List.map_toArray, List.map_cons, List.map_nil]); first | done | rfl | (simp only [List.length_drop, List.length_take]; rfl)) ?_; (with_reducible refine (impl_MergeText.calls kj4 _ _ t902 _ _ t905 _ _ t908 t924 false _ ?side1 ?side2 ?side3 ?side4 ?side5 ?side6 A29.out).mono ?_); (case side1 => repeat (first | exact (Kd.R_reads' HO_3.out).2.2 | (with_reducible refine Kd.C_alloc ?_ _) | (with_reducible refine Kd.C_drewN ?_ _) | (with_reducible refine Kd.C_drew ?_))); (case side2 => exact (Kd.R_reads' HO_3.out).2.1); (case side3 => repeat (first | exact (Kd.V_reads' HO_4.out).2.2 | (with_reducible refine Kd.C_alloc ?_ _) | (with_reducible refine Kd.C_drewN ?_ _) | (with_reducible refine Kd.C_drew ?_))); (case side4 => exact (Kd.V_reads' HO_4.out).2.1); (case side5 => repeat (first | exact (Kd.V_reads' HO_5.out).2.2 | (with_reducible refine Kd.C_alloc ?_ _) | (with_reducible refine Kd.C_drewN ?_ _) | (with_reducible refine Kd.C_drew ?_))); (case side6 => exact (Kd.V_reads' HO_5.out).2.1); rintro e w49 ⟨v926, rfl, ho0, hb⟩; refine ⟨_, rfl, ?_⟩; have n0_ := Aside0.mk (Kd.R_elder' (by (with_reducible repeat (first | apply Kd.R_alloc | apply Kd.R_drewN | apply Kd.R_drew)); exact HO_3.out) (Kd.R_base ho0) hb); have n1_ := Aside0.mk (Kd.V_elder' (by (with_reducible repeat (first | apply Kd.V_alloc | apply Kd.V_drewN | apply Kd.V_drew)); exact HO_4.out) (Kd.R_base ho0) hb); have n2_ := Aside0.mk (Kd.V_elder' (by (with_reducible repeat (first | apply Kd.V_alloc | apply Kd.V_drewN | apply Kd.V_drew)); exact HO_5.out) (Kd.R_base ho0) hb); have n3_ := Aside0.mk (Kd.R_elder' (by (with_reducible repeat (first | apply Kd.R_alloc | apply Kd.R_drewN | apply Kd.R_drew)); exact HO_6.out) (Kd.R_base ho0) hb); have n4_ := Aside0.mk (Kd.R_lower (Kd.R_new' (Kd.R_new' ho0 (Kd.R_lt (by (with_reducible repeat (first | apply Kd.R_alloc | apply Kd.R_drewN | apply Kd.R_drew)); exact HO_3.out))) (Kd.R_lt (by (with_reducible repeat (first | apply Kd.R_alloc | apply Kd.R_drewN | apply Kd.R_drew)); exact HO_6.out))) (below_size (by repeat (first | (with_reducible first | exact HB.out | apply below_alloc | apply pw_below_drewN | apply below_drew1) | exact HB.out)))); have n5_ := Aside0.mk (below_step (by repeat (first | (with_reducible first | exact HB.out | apply below_alloc | apply pw_below_drewN | apply below_drew1) | exact HB.out)) hb); clear HO_3; clear HO_4; clear HO_5; clear HO_6; clear HB; have HO_3 := n0_; have HO_4 := n1_; have HO_5 := n2_; have HO_6 := n3_; have HO927 := n4_; have HB := n5_; clear n0_ n1_ n2_ n3_ n4_ n5_; (try clear hb); (try clear hb2); (try clear hk); (try clear hi); (try clear ho0)) | ((with_reducible refine gate_callee (f := 44) rfl ?_); refine goesL_ (some 56) rfl rfl Try.func44 (by kernel_rfl) rfl #[.slice Ao8 t905.length co8, .string (⟨#[60, 60, 60]⟩ : ByteArray)] rfl (by (try simp only [List.map_toArray, List.map_cons, List.map_nil]); first | done | rfl | (simp only [List.length_drop, List.length_take]; rfl)) ?_; (with_reducible refine (laws_smHas.calls kj4 _ _ t905 (⟨#[60, 60, 60]⟩ : ByteArray) false _ ?side1 ?side2 A30.out).mono ?_); (case side1 => repeat (first | exact (Kd.V_reads' HO_4.out).2.2 | (with_reducible refine Kd.C_alloc ?_ _) | (with_reducible refine Kd.C_drewN ?_ _) | (with_reducible refine Kd.C_drew ?_))); (case side2 => exact (Kd.V_reads' HO_4.out).2.1); rintro e w' ⟨rfl, ⟨nd, rfl⟩⟩; refine ⟨_, rfl, ?_⟩) | (go_at_call 44; (with_reducible refine (laws_smHas.calls kj4 _ _ t908 (⟨#[60, 60, 60]⟩ : ByteArray) true _ ?side1 ?side2 A40.out).mono ?_); (case side1 => repeat (first | exact (Kd.V_reads' HO_5.out).2.2 | (with_reducible refine Kd.C_alloc ?_ _) | (with_reducible refine Kd.C_drewN ?_ _) | (with_reducible refine Kd.C_drew ?_))); (case side2 => exact (Kd.V_reads' HO_5.out).2.1); rintro e w' ⟨rfl, ⟨nd, rfl⟩⟩))
        go_ret; exact ⟨by first | rfl | (simp <;> rfl) | (simp [*] <;> rfl), by repeat (first | (with_reducible first | exact HB.out | apply below_alloc | apply pw_below_drewN | apply below_drew1) | exact HB.out)⟩
      ·replace c41 := Bool.eq_false_iff.mpr c41; subst c41; (have H1 : ((laws_smHas.f kj4 t902 (⟨#[60, 60, 60]⟩ : ByteArray)).bind fun t932 => (if t932 = true then (if t925 = true then ((laws_smTexts.f kj4 t911 t924).bind fun t933 => (some t933)) else (some true)) else ((laws_smMany.f kj4 t911 (⟨#[60, 60, 60]⟩ : ByteArray)).bind fun t934 => (if t934 = t923 then (if t925 = true then ((laws_smTexts.f kj4 t911 t924).bind fun t935 => (some t935)) else (some true)) else (some false))))) = some r := by rw [if_neg (show ¬ (false = true) by decide)] at H; exact H); clear H; have H := H1; clear H1; replace H := Option.bind_eq_some_iff.mp H; obtain ⟨t932, A500, H⟩ := H; replace H : (if t932 = true then (if t925 = true then ((laws_smTexts.f kj4 t911 t924).bind fun t933 => (some t933)) else (some true)) else ((laws_smMany.f kj4 t911 (⟨#[60, 60, 60]⟩ : ByteArray)).bind fun t934 => (if t934 = t923 then (if t925 = true then ((laws_smTexts.f kj4 t911 t924).bind fun t935 => (some t935)) else (some true)) else (some false)))) = some r := H; have A50 := Aside0.mk A500; clear A500; by_cases c51 : t932 = true
       ·subst c51; (have H1 : (if t925 = true then ((laws_smTexts.f kj4 t911 t924).bind fun t933 => (some t933)) else (some true)) = some r := by rw [if_pos rfl] at H; exact H); clear H; have H := H1; clear H1; by_cases c52 : t925 = true
        ·subst c52; (have H1 : ((laws_smTexts.f kj4 t911 t924).bind fun t933 => (some t933)) = some r := by rw [if_pos rfl] at H; exact H); clear H; have H := H1; clear H1; replace H := Option.bind_eq_some_iff.mp H; obtain ⟨t933, A530, H⟩ := H; replace H : (some t933) = some r := H; have A53 := Aside0.mk A530; clear A530; obtain rfl := Option.some.inj H; go_wp2_with (first | ((with_reducible refine gate_callee (f := 28) rfl ?_); refine goesL_ (some 47) rfl rfl Try.func28 (by kernel_rfl) rfl #[.slice Ao7 t902.length co7, .slice Ao8 t905.length co8, .slice Ao9 t908.length co9] rfl (by (try simp only [List.map_toArray, List.map_cons, List.map_nil]); first | done | rfl | (simp only [List.length_drop, List.length_take]; rfl)) ?_; (with_reducible refine (impl_MergeClash.calls kj4 _ _ t902 _ _ t905 _ _ t908 t923 _ ?side1 ?side2 ?side3 ?side4 ?side5 ?side6 A28.out).mono ?_); (case side1 => repeat (first | exact (Kd.R_reads' HO_3.out).2.2 | (with_reducible refine Kd.C_alloc ?_ _) | (with_reducible refine Kd.C_drewN ?_ _) | (with_reducible refine Kd.C_drew ?_))); (case side2 => exact (Kd.R_reads' HO_3.out).2.1); (case side3 => repeat (first | exact (Kd.V_reads' HO_4.out).2.2 | (with_reducible refine Kd.C_alloc ?_ _) | (with_reducible refine Kd.C_drewN ?_ _) | (with_reducible refine Kd.C_drew ?_))); (case side4 => exact (Kd.V_reads' HO_4.out).2.1); (case side5 => repeat (first | exact (Kd.V_reads' HO_5.out).2.2 | (with_reducible refine Kd.C_alloc ?_ _) | (with_reducible refine Kd.C_drewN ?_ _) | (with_reducible refine Kd.C_drew ?_))); (case side6 => exact (Kd.V_reads' HO_5.out).2.1); rintro e w54 ⟨rfl, hb⟩; refine ⟨_, rfl, ?_⟩; have n0_ := Aside0.mk (Kd.R_below (by (with_reducible repeat (first | apply Kd.R_alloc | apply Kd.R_drewN | apply Kd.R_drew)); exact HO_3.out) hb); have n1_ := Aside0.mk (Kd.V_below (by (with_reducible repeat (first | apply Kd.V_alloc | apply Kd.V_drewN | apply Kd.V_drew)); exact HO_4.out) hb); have n2_ := Aside0.mk (Kd.V_below (by (with_reducible repeat (first | apply Kd.V_alloc | apply Kd.V_drewN | apply Kd.V_drew)); exact HO_5.out) hb); have n3_ := Aside0.mk (Kd.R_below (by (with_reducible repeat (first | apply Kd.R_alloc | apply Kd.R_drewN | apply Kd.R_drew)); exact HO_6.out) hb); have n4_ := Aside0.mk (below_step (by repeat (first | (with_reducible first | exact HB.out | apply below_alloc | apply pw_below_drewN | apply below_drew1) | exact HB.out)) hb); clear HO_3; clear HO_4; clear HO_5; clear HO_6; clear HB; have HO_3 := n0_; have HO_4 := n1_; have HO_5 := n2_; have HO_6 := n3_; have HB := n4_; clear n0_ n1_ n2_ n3_ n4_; (try clear hb); (try clear hb2); (try clear hk); (try clear hi)) | ((with_reducible refine gate_callee (f := 25) rfl ?_); refine goesL_ (some 52) rfl rfl Try.func25 (by kernel_rfl) rfl #[.slice Ao7 t902.length co7, .slice Ao8 t905.length co8, .slice Ao9 t908.length co9] rfl (by (try simp only [List.map_toArray, List.map_cons, List.map_nil]); first | done | rfl | (simp only [List.length_drop, List.length_take]; rfl)) ?_; (with_reducible refine (impl_MergeText.calls kj4 _ _ t902 _ _ t905 _ _ t908 t924 true _ ?side1 ?side2 ?side3 ?side4 ?side5 ?side6 A29.out).mono ?_); (case side1 => repeat (first | exact (Kd.R_reads' HO_3.out).2.2 | (with_reducible refine Kd.C_alloc ?_ _) | (with_reducible refine Kd.C_drewN ?_ _) | (with_reducible refine Kd.C_drew ?_))); (case side2 => exact (Kd.R_reads' HO_3.out).2.1); (case side3 => repeat (first | exact (Kd.V_reads' HO_4.out).2.2 | (with_reducible refine Kd.C_alloc ?_ _) | (with_reducible refine Kd.C_drewN ?_ _) | (with_reducible refine Kd.C_drew ?_))); (case side4 => exact (Kd.V_reads' HO_4.out).2.1); (case side5 => repeat (first | exact (Kd.V_reads' HO_5.out).2.2 | (with_reducible refine Kd.C_alloc ?_ _) | (with_reducible refine Kd.C_drewN ?_ _) | (with_reducible refine Kd.C_drew ?_))); (case side6 => exact (Kd.V_reads' HO_5.out).2.1); rintro e w55 ⟨v926, rfl, ho0, hb⟩; refine ⟨_, rfl, ?_⟩; have n0_ := Aside0.mk (Kd.R_elder' (by (with_reducible repeat (first | apply Kd.R_alloc | apply Kd.R_drewN | apply Kd.R_drew)); exact HO_3.out) (Kd.R_base ho0) hb); have n1_ := Aside0.mk (Kd.V_elder' (by (with_reducible repeat (first | apply Kd.V_alloc | apply Kd.V_drewN | apply Kd.V_drew)); exact HO_4.out) (Kd.R_base ho0) hb); have n2_ := Aside0.mk (Kd.V_elder' (by (with_reducible repeat (first | apply Kd.V_alloc | apply Kd.V_drewN | apply Kd.V_drew)); exact HO_5.out) (Kd.R_base ho0) hb); have n3_ := Aside0.mk (Kd.R_elder' (by (with_reducible repeat (first | apply Kd.R_alloc | apply Kd.R_drewN | apply Kd.R_drew)); exact HO_6.out) (Kd.R_base ho0) hb); have n4_ := Aside0.mk (Kd.R_lower (Kd.R_new' (Kd.R_new' ho0 (Kd.R_lt (by (with_reducible repeat (first | apply Kd.R_alloc | apply Kd.R_drewN | apply Kd.R_drew)); exact HO_3.out))) (Kd.R_lt (by (with_reducible repeat (first | apply Kd.R_alloc | apply Kd.R_drewN | apply Kd.R_drew)); exact HO_6.out))) (below_size (by repeat (first | (with_reducible first | exact HB.out | apply below_alloc | apply pw_below_drewN | apply below_drew1) | exact HB.out)))); have n5_ := Aside0.mk (below_step (by repeat (first | (with_reducible first | exact HB.out | apply below_alloc | apply pw_below_drewN | apply below_drew1) | exact HB.out)) hb); clear HO_3; clear HO_4; clear HO_5; clear HO_6; clear HB; have HO_3 := n0_; have HO_4 := n1_; have HO_5 := n2_; have HO_6 := n3_; have HO927 := n4_; have HB := n5_; clear n0_ n1_ n2_ n3_ n4_ n5_; (try clear hb); (try clear hb2); (try clear hk); (try clear hi); (try clear ho0)) | ((with_reducible refine gate_callee (f := 44) rfl ?_); refine goesL_ (some 56) rfl rfl Try.func44 (by kernel_rfl) rfl #[.slice Ao8 t905.length co8, .string (⟨#[60, 60, 60]⟩ : ByteArray)] rfl (by (try simp only [List.map_toArray, List.map_cons, List.map_nil]); first | done | rfl | (simp only [List.length_drop, List.length_take]; rfl)) ?_; (with_reducible refine (laws_smHas.calls kj4 _ _ t905 (⟨#[60, 60, 60]⟩ : ByteArray) false _ ?side1 ?side2 A30.out).mono ?_); (case side1 => repeat (first | exact (Kd.V_reads' HO_4.out).2.2 | (with_reducible refine Kd.C_alloc ?_ _) | (with_reducible refine Kd.C_drewN ?_ _) | (with_reducible refine Kd.C_drew ?_))); (case side2 => exact (Kd.V_reads' HO_4.out).2.1); rintro e w' ⟨rfl, ⟨nd, rfl⟩⟩; refine ⟨_, rfl, ?_⟩) | (go_at_call 44; (with_reducible refine (laws_smHas.calls kj4 _ _ t908 (⟨#[60, 60, 60]⟩ : ByteArray) false _ ?side1 ?side2 A40.out).mono ?_); (case side1 => repeat (first | exact (Kd.V_reads' HO_5.out).2.2 | (with_reducible refine Kd.C_alloc ?_ _) | (with_reducible refine Kd.C_drewN ?_ _) | (with_reducible refine Kd.C_drew ?_))); (case side2 => exact (Kd.V_reads' HO_5.out).2.1); rintro e w' ⟨rfl, ⟨nd, rfl⟩⟩) | (go_at_call 44; (with_reducible refine (laws_smHas.calls kj4 _ _ t902 (⟨#[60, 60, 60]⟩ : ByteArray) true _ ?side1 ?side2 A50.out).mono ?_); (case side1 => repeat (first | exact (Kd.R_reads' HO_3.out).2.2 | (with_reducible refine Kd.C_alloc ?_ _) | (with_reducible refine Kd.C_drewN ?_ _) | (with_reducible refine Kd.C_drew ?_))); (case side2 => exact (Kd.R_reads' HO_3.out).2.1); rintro e w' ⟨rfl, ⟨nd, rfl⟩⟩; obtain ⟨Ao56, co56, eo56⟩ := Kd.R_slice HO_6.out; subst eo56; obtain ⟨Ao57, co57, eo57⟩ := Kd.R_slice HO927.out; subst eo57) | (go_at_call 20; (with_reducible refine (laws_smTexts.calls kj4 _ _ t911 _ _ t924 t933 _ ?side1 ?side2 ?side3 ?side4 A53.out).mono ?_); (case side1 => repeat (first | exact (Kd.R_reads' HO_6.out).2.2 | (with_reducible refine Kd.C_alloc ?_ _) | (with_reducible refine Kd.C_drewN ?_ _) | (with_reducible refine Kd.C_drew ?_))); (case side2 => exact (Kd.R_reads' HO_6.out).2.1); (case side3 => repeat (first | exact (Kd.R_reads' HO927.out).2.2 | (with_reducible refine Kd.C_alloc ?_ _) | (with_reducible refine Kd.C_drewN ?_ _) | (with_reducible refine Kd.C_drew ?_))); (case side4 => exact (Kd.R_reads' HO927.out).2.1); rintro e w' ⟨rfl, ⟨nd, rfl⟩⟩))
         go_ret; exact ⟨by first | rfl | (simp <;> rfl) | (simp [*] <;> rfl), by repeat (first | (with_reducible first | exact HB.out | apply below_alloc | apply pw_below_drewN | apply below_drew1) | exact HB.out)⟩
        ·replace c52 := Bool.eq_false_iff.mpr c52; subst c52; (have H1 : (some true) = some r := by rw [if_neg (show ¬ (false = true) by decide)] at H; exact H); clear H; have H := H1; clear H1; obtain rfl := Option.some.inj H; go_wp2_with (first | ((with_reducible refine gate_callee (f := 28) rfl ?_); refine goesL_ (some 47) rfl rfl Try.func28 (by kernel_rfl) rfl #[.slice Ao7 t902.length co7, .slice Ao8 t905.length co8, .slice Ao9 t908.length co9] rfl (by (try simp only [List.map_toArray, List.map_cons, List.map_nil]); first | done | rfl | (simp only [List.length_drop, List.length_take]; rfl)) ?_; (with_reducible refine (impl_MergeClash.calls kj4 _ _ t902 _ _ t905 _ _ t908 t923 _ ?side1 ?side2 ?side3 ?side4 ?side5 ?side6 A28.out).mono ?_); (case side1 => repeat (first | exact (Kd.R_reads' HO_3.out).2.2 | (with_reducible refine Kd.C_alloc ?_ _) | (with_reducible refine Kd.C_drewN ?_ _) | (with_reducible refine Kd.C_drew ?_))); (case side2 => exact (Kd.R_reads' HO_3.out).2.1); (case side3 => repeat (first | exact (Kd.V_reads' HO_4.out).2.2 | (with_reducible refine Kd.C_alloc ?_ _) | (with_reducible refine Kd.C_drewN ?_ _) | (with_reducible refine Kd.C_drew ?_))); (case side4 => exact (Kd.V_reads' HO_4.out).2.1); (case side5 => repeat (first | exact (Kd.V_reads' HO_5.out).2.2 | (with_reducible refine Kd.C_alloc ?_ _) | (with_reducible refine Kd.C_drewN ?_ _) | (with_reducible refine Kd.C_drew ?_))); (case side6 => exact (Kd.V_reads' HO_5.out).2.1); rintro e w58 ⟨rfl, hb⟩; refine ⟨_, rfl, ?_⟩; have n0_ := Aside0.mk (Kd.R_below (by (with_reducible repeat (first | apply Kd.R_alloc | apply Kd.R_drewN | apply Kd.R_drew)); exact HO_3.out) hb); have n1_ := Aside0.mk (Kd.V_below (by (with_reducible repeat (first | apply Kd.V_alloc | apply Kd.V_drewN | apply Kd.V_drew)); exact HO_4.out) hb); have n2_ := Aside0.mk (Kd.V_below (by (with_reducible repeat (first | apply Kd.V_alloc | apply Kd.V_drewN | apply Kd.V_drew)); exact HO_5.out) hb); have n3_ := Aside0.mk (Kd.R_below (by (with_reducible repeat (first | apply Kd.R_alloc | apply Kd.R_drewN | apply Kd.R_drew)); exact HO_6.out) hb); have n4_ := Aside0.mk (below_step (by repeat (first | (with_reducible first | exact HB.out | apply below_alloc | apply pw_below_drewN | apply below_drew1) | exact HB.out)) hb); clear HO_3; clear HO_4; clear HO_5; clear HO_6; clear HB; have HO_3 := n0_; have HO_4 := n1_; have HO_5 := n2_; have HO_6 := n3_; have HB := n4_; clear n0_ n1_ n2_ n3_ n4_; (try clear hb); (try clear hb2); (try clear hk); (try clear hi)) | ((with_reducible refine gate_callee (f := 25) rfl ?_); refine goesL_ (some 52) rfl rfl Try.func25 (by kernel_rfl) rfl #[.slice Ao7 t902.length co7, .slice Ao8 t905.length co8, .slice Ao9 t908.length co9] rfl (by (try simp only [List.map_toArray, List.map_cons, List.map_nil]); first | done | rfl | (simp only [List.length_drop, List.length_take]; rfl)) ?_; (with_reducible refine (impl_MergeText.calls kj4 _ _ t902 _ _ t905 _ _ t908 t924 false _ ?side1 ?side2 ?side3 ?side4 ?side5 ?side6 A29.out).mono ?_); (case side1 => repeat (first | exact (Kd.R_reads' HO_3.out).2.2 | (with_reducible refine Kd.C_alloc ?_ _) | (with_reducible refine Kd.C_drewN ?_ _) | (with_reducible refine Kd.C_drew ?_))); (case side2 => exact (Kd.R_reads' HO_3.out).2.1); (case side3 => repeat (first | exact (Kd.V_reads' HO_4.out).2.2 | (with_reducible refine Kd.C_alloc ?_ _) | (with_reducible refine Kd.C_drewN ?_ _) | (with_reducible refine Kd.C_drew ?_))); (case side4 => exact (Kd.V_reads' HO_4.out).2.1); (case side5 => repeat (first | exact (Kd.V_reads' HO_5.out).2.2 | (with_reducible refine Kd.C_alloc ?_ _) | (with_reducible refine Kd.C_drewN ?_ _) | (with_reducible refine Kd.C_drew ?_))); (case side6 => exact (Kd.V_reads' HO_5.out).2.1); rintro e w59 ⟨v926, rfl, ho0, hb⟩; refine ⟨_, rfl, ?_⟩; have n0_ := Aside0.mk (Kd.R_elder' (by (with_reducible repeat (first | apply Kd.R_alloc | apply Kd.R_drewN | apply Kd.R_drew)); exact HO_3.out) (Kd.R_base ho0) hb); have n1_ := Aside0.mk (Kd.V_elder' (by (with_reducible repeat (first | apply Kd.V_alloc | apply Kd.V_drewN | apply Kd.V_drew)); exact HO_4.out) (Kd.R_base ho0) hb); have n2_ := Aside0.mk (Kd.V_elder' (by (with_reducible repeat (first | apply Kd.V_alloc | apply Kd.V_drewN | apply Kd.V_drew)); exact HO_5.out) (Kd.R_base ho0) hb); have n3_ := Aside0.mk (Kd.R_elder' (by (with_reducible repeat (first | apply Kd.R_alloc | apply Kd.R_drewN | apply Kd.R_drew)); exact HO_6.out) (Kd.R_base ho0) hb); have n4_ := Aside0.mk (Kd.R_lower (Kd.R_new' (Kd.R_new' ho0 (Kd.R_lt (by (with_reducible repeat (first | apply Kd.R_alloc | apply Kd.R_drewN | apply Kd.R_drew)); exact HO_3.out))) (Kd.R_lt (by (with_reducible repeat (first | apply Kd.R_alloc | apply Kd.R_drewN | apply Kd.R_drew)); exact HO_6.out))) (below_size (by repeat (first | (with_reducible first | exact HB.out | apply below_alloc | apply pw_below_drewN | apply below_drew1) | exact HB.out)))); have n5_ := Aside0.mk (below_step (by repeat (first | (with_reducible first | exact HB.out | apply below_alloc | apply pw_below_drewN | apply below_drew1) | exact HB.out)) hb); clear HO_3; clear HO_4; clear HO_5; clear HO_6; clear HB; have HO_3 := n0_; have HO_4 := n1_; have HO_5 := n2_; have HO_6 := n3_; have HO927 := n4_; have HB := n5_; clear n0_ n1_ n2_ n3_ n4_ n5_; (try clear hb); (try clear hb2); (try clear hk); (try clear hi); (try clear ho0)) | ((with_reducible refine gate_callee (f := 44) rfl ?_); refine goesL_ (some 56) rfl rfl Try.func44 (by kernel_rfl) rfl #[.slice Ao8 t905.length co8, .string (⟨#[60, 60, 60]⟩ : ByteArray)] rfl (by (try simp only [List.map_toArray, List.map_cons, List.map_nil]); first | done | rfl | (simp only [List.length_drop, List.length_take]; rfl)) ?_; (with_reducible refine (laws_smHas.calls kj4 _ _ t905 (⟨#[60, 60, 60]⟩ : ByteArray) false _ ?side1 ?side2 A30.out).mono ?_); (case side1 => repeat (first | exact (Kd.V_reads' HO_4.out).2.2 | (with_reducible refine Kd.C_alloc ?_ _) | (with_reducible refine Kd.C_drewN ?_ _) | (with_reducible refine Kd.C_drew ?_))); (case side2 => exact (Kd.V_reads' HO_4.out).2.1); rintro e w' ⟨rfl, ⟨nd, rfl⟩⟩; refine ⟨_, rfl, ?_⟩) | (go_at_call 44; (with_reducible refine (laws_smHas.calls kj4 _ _ t908 (⟨#[60, 60, 60]⟩ : ByteArray) false _ ?side1 ?side2 A40.out).mono ?_); (case side1 => repeat (first | exact (Kd.V_reads' HO_5.out).2.2 | (with_reducible refine Kd.C_alloc ?_ _) | (with_reducible refine Kd.C_drewN ?_ _) | (with_reducible refine Kd.C_drew ?_))); (case side2 => exact (Kd.V_reads' HO_5.out).2.1); rintro e w' ⟨rfl, ⟨nd, rfl⟩⟩) | (go_at_call 44; (with_reducible refine (laws_smHas.calls kj4 _ _ t902 (⟨#[60, 60, 60]⟩ : ByteArray) true _ ?side1 ?side2 A50.out).mono ?_); (case side1 => repeat (first | exact (Kd.R_reads' HO_3.out).2.2 | (with_reducible refine Kd.C_alloc ?_ _) | (with_reducible refine Kd.C_drewN ?_ _) | (with_reducible refine Kd.C_drew ?_))); (case side2 => exact (Kd.R_reads' HO_3.out).2.1); rintro e w' ⟨rfl, ⟨nd, rfl⟩⟩))
         go_ret; exact ⟨by first | rfl | (simp <;> rfl) | (simp [*] <;> rfl), by repeat (first | (with_reducible first | exact HB.out | apply below_alloc | apply pw_below_drewN | apply below_drew1) | exact HB.out)⟩
       ·replace c51 := Bool.eq_false_iff.mpr c51; subst c51; (have H1 : ((laws_smMany.f kj4 t911 (⟨#[60, 60, 60]⟩ : ByteArray)).bind fun t934 => (if t934 = t923 then (if t925 = true then ((laws_smTexts.f kj4 t911 t924).bind fun t935 => (some t935)) else (some true)) else (some false))) = some r := by rw [if_neg (show ¬ (false = true) by decide)] at H; exact H); clear H; have H := H1; clear H1; replace H := Option.bind_eq_some_iff.mp H; obtain ⟨t934, A600, H⟩ := H; replace H : (if t934 = t923 then (if t925 = true then ((laws_smTexts.f kj4 t911 t924).bind fun t935 => (some t935)) else (some true)) else (some false)) = some r := H; have A60 := Aside0.mk A600; clear A600; by_cases c61 : t934 = t923
        ·rw [if_pos c61] at H; have c61b0 : (t934 == t923) = true := beq_iff_eq.mpr c61; have c61b1 : (t934 != t923) = false := bne_eq_false_iff_eq.mpr c61; clear c61; by_cases c62 : t925 = true
         ·subst c62; (have H1 : ((laws_smTexts.f kj4 t911 t924).bind fun t935 => (some t935)) = some r := by rw [if_pos rfl] at H; exact H); clear H; have H := H1; clear H1; replace H := Option.bind_eq_some_iff.mp H; obtain ⟨t935, A630, H⟩ := H; replace H : (some t935) = some r := H; have A63 := Aside0.mk A630; clear A630; obtain rfl := Option.some.inj H; go_wp2_with (first | ((with_reducible refine gate_callee (f := 28) rfl ?_); refine goesL_ (some 47) rfl rfl Try.func28 (by kernel_rfl) rfl #[.slice Ao7 t902.length co7, .slice Ao8 t905.length co8, .slice Ao9 t908.length co9] rfl (by (try simp only [List.map_toArray, List.map_cons, List.map_nil]); first | done | rfl | (simp only [List.length_drop, List.length_take]; rfl)) ?_; (with_reducible refine (impl_MergeClash.calls kj4 _ _ t902 _ _ t905 _ _ t908 t923 _ ?side1 ?side2 ?side3 ?side4 ?side5 ?side6 A28.out).mono ?_); (case side1 => repeat (first | exact (Kd.R_reads' HO_3.out).2.2 | (with_reducible refine Kd.C_alloc ?_ _) | (with_reducible refine Kd.C_drewN ?_ _) | (with_reducible refine Kd.C_drew ?_))); (case side2 => exact (Kd.R_reads' HO_3.out).2.1); (case side3 => repeat (first | exact (Kd.V_reads' HO_4.out).2.2 | (with_reducible refine Kd.C_alloc ?_ _) | (with_reducible refine Kd.C_drewN ?_ _) | (with_reducible refine Kd.C_drew ?_))); (case side4 => exact (Kd.V_reads' HO_4.out).2.1); (case side5 => repeat (first | exact (Kd.V_reads' HO_5.out).2.2 | (with_reducible refine Kd.C_alloc ?_ _) | (with_reducible refine Kd.C_drewN ?_ _) | (with_reducible refine Kd.C_drew ?_))); (case side6 => exact (Kd.V_reads' HO_5.out).2.1); rintro e w64 ⟨rfl, hb⟩; refine ⟨_, rfl, ?_⟩; have n0_ := Aside0.mk (Kd.R_below (by (with_reducible repeat (first | apply Kd.R_alloc | apply Kd.R_drewN | apply Kd.R_drew)); exact HO_3.out) hb); have n1_ := Aside0.mk (Kd.V_below (by (with_reducible repeat (first | apply Kd.V_alloc | apply Kd.V_drewN | apply Kd.V_drew)); exact HO_4.out) hb); have n2_ := Aside0.mk (Kd.V_below (by (with_reducible repeat (first | apply Kd.V_alloc | apply Kd.V_drewN | apply Kd.V_drew)); exact HO_5.out) hb); have n3_ := Aside0.mk (Kd.R_below (by (with_reducible repeat (first | apply Kd.R_alloc | apply Kd.R_drewN | apply Kd.R_drew)); exact HO_6.out) hb); have n4_ := Aside0.mk (below_step (by repeat (first | (with_reducible first | exact HB.out | apply below_alloc | apply pw_below_drewN | apply below_drew1) | exact HB.out)) hb); clear HO_3; clear HO_4; clear HO_5; clear HO_6; clear HB; have HO_3 := n0_; have HO_4 := n1_; have HO_5 := n2_; have HO_6 := n3_; have HB := n4_; clear n0_ n1_ n2_ n3_ n4_; (try clear hb); (try clear hb2); (try clear hk); (try clear hi)) | ((with_reducible refine gate_callee (f := 25) rfl ?_); refine goesL_ (some 52) rfl rfl Try.func25 (by kernel_rfl) rfl #[.slice Ao7 t902.length co7, .slice Ao8 t905.length co8, .slice Ao9 t908.length co9] rfl (by (try simp only [List.map_toArray, List.map_cons, List.map_nil]); first | done | rfl | (simp only [List.length_drop, List.length_take]; rfl)) ?_; (with_reducible refine (impl_MergeText.calls kj4 _ _ t902 _ _ t905 _ _ t908 t924 true _ ?side1 ?side2 ?side3 ?side4 ?side5 ?side6 A29.out).mono ?_); (case side1 => repeat (first | exact (Kd.R_reads' HO_3.out).2.2 | (with_reducible refine Kd.C_alloc ?_ _) | (with_reducible refine Kd.C_drewN ?_ _) | (with_reducible refine Kd.C_drew ?_))); (case side2 => exact (Kd.R_reads' HO_3.out).2.1); (case side3 => repeat (first | exact (Kd.V_reads' HO_4.out).2.2 | (with_reducible refine Kd.C_alloc ?_ _) | (with_reducible refine Kd.C_drewN ?_ _) | (with_reducible refine Kd.C_drew ?_))); (case side4 => exact (Kd.V_reads' HO_4.out).2.1); (case side5 => repeat (first | exact (Kd.V_reads' HO_5.out).2.2 | (with_reducible refine Kd.C_alloc ?_ _) | (with_reducible refine Kd.C_drewN ?_ _) | (with_reducible refine Kd.C_drew ?_))); (case side6 => exact (Kd.V_reads' HO_5.out).2.1); rintro e w65 ⟨v926, rfl, ho0, hb⟩; refine ⟨_, rfl, ?_⟩; have n0_ := Aside0.mk (Kd.R_elder' (by (with_reducible repeat (first | apply Kd.R_alloc | apply Kd.R_drewN | apply Kd.R_drew)); exact HO_3.out) (Kd.R_base ho0) hb); have n1_ := Aside0.mk (Kd.V_elder' (by (with_reducible repeat (first | apply Kd.V_alloc | apply Kd.V_drewN | apply Kd.V_drew)); exact HO_4.out) (Kd.R_base ho0) hb); have n2_ := Aside0.mk (Kd.V_elder' (by (with_reducible repeat (first | apply Kd.V_alloc | apply Kd.V_drewN | apply Kd.V_drew)); exact HO_5.out) (Kd.R_base ho0) hb); have n3_ := Aside0.mk (Kd.R_elder' (by (with_reducible repeat (first | apply Kd.R_alloc | apply Kd.R_drewN | apply Kd.R_drew)); exact HO_6.out) (Kd.R_base ho0) hb); have n4_ := Aside0.mk (Kd.R_lower (Kd.R_new' (Kd.R_new' ho0 (Kd.R_lt (by (with_reducible repeat (first | apply Kd.R_alloc | apply Kd.R_drewN | apply Kd.R_drew)); exact HO_3.out))) (Kd.R_lt (by (with_reducible repeat (first | apply Kd.R_alloc | apply Kd.R_drewN | apply Kd.R_drew)); exact HO_6.out))) (below_size (by repeat (first | (with_reducible first | exact HB.out | apply below_alloc | apply pw_below_drewN | apply below_drew1) | exact HB.out)))); have n5_ := Aside0.mk (below_step (by repeat (first | (with_reducible first | exact HB.out | apply below_alloc | apply pw_below_drewN | apply below_drew1) | exact HB.out)) hb); clear HO_3; clear HO_4; clear HO_5; clear HO_6; clear HB; have HO_3 := n0_; have HO_4 := n1_; have HO_5 := n2_; have HO_6 := n3_; have HO927 := n4_; have HB := n5_; clear n0_ n1_ n2_ n3_ n4_ n5_; (try clear hb); (try clear hb2); (try clear hk); (try clear hi); (try clear ho0)) | ((with_reducible refine gate_callee (f := 44) rfl ?_); refine goesL_ (some 56) rfl rfl Try.func44 (by kernel_rfl) rfl #[.slice Ao8 t905.length co8, .string (⟨#[60, 60, 60]⟩ : ByteArray)] rfl (by (try simp only [List.map_toArray, List.map_cons, List.map_nil]); first | done | rfl | (simp only [List.length_drop, List.length_take]; rfl)) ?_; (with_reducible refine (laws_smHas.calls kj4 _ _ t905 (⟨#[60, 60, 60]⟩ : ByteArray) false _ ?side1 ?side2 A30.out).mono ?_); (case side1 => repeat (first | exact (Kd.V_reads' HO_4.out).2.2 | (with_reducible refine Kd.C_alloc ?_ _) | (with_reducible refine Kd.C_drewN ?_ _) | (with_reducible refine Kd.C_drew ?_))); (case side2 => exact (Kd.V_reads' HO_4.out).2.1); rintro e w' ⟨rfl, ⟨nd, rfl⟩⟩; refine ⟨_, rfl, ?_⟩) | (go_at_call 44; (with_reducible refine (laws_smHas.calls kj4 _ _ t908 (⟨#[60, 60, 60]⟩ : ByteArray) false _ ?side1 ?side2 A40.out).mono ?_); (case side1 => repeat (first | exact (Kd.V_reads' HO_5.out).2.2 | (with_reducible refine Kd.C_alloc ?_ _) | (with_reducible refine Kd.C_drewN ?_ _) | (with_reducible refine Kd.C_drew ?_))); (case side2 => exact (Kd.V_reads' HO_5.out).2.1); rintro e w' ⟨rfl, ⟨nd, rfl⟩⟩) | (go_at_call 44; (with_reducible refine (laws_smHas.calls kj4 _ _ t902 (⟨#[60, 60, 60]⟩ : ByteArray) false _ ?side1 ?side2 A50.out).mono ?_); (case side1 => repeat (first | exact (Kd.R_reads' HO_3.out).2.2 | (with_reducible refine Kd.C_alloc ?_ _) | (with_reducible refine Kd.C_drewN ?_ _) | (with_reducible refine Kd.C_drew ?_))); (case side2 => exact (Kd.R_reads' HO_3.out).2.1); rintro e w' ⟨rfl, ⟨nd, rfl⟩⟩; obtain ⟨Ao66, co66, eo66⟩ := Kd.R_slice HO_6.out; subst eo66) | (go_at_call 39; (with_reducible refine (laws_smMany.calls kj4 _ _ t911 (⟨#[60, 60, 60]⟩ : ByteArray) t934 _ ?side1 ?side2 A60.out).mono ?_); (case side1 => repeat (first | exact (Kd.R_reads' HO_6.out).2.2 | (with_reducible refine Kd.C_alloc ?_ _) | (with_reducible refine Kd.C_drewN ?_ _) | (with_reducible refine Kd.C_drew ?_))); (case side2 => exact (Kd.R_reads' HO_6.out).2.1); rintro e w' ⟨rfl, ⟨nd, rfl⟩⟩; obtain ⟨Ao67, co67, eo67⟩ := Kd.R_slice HO927.out; subst eo67) | (go_at_call 20; (with_reducible refine (laws_smTexts.calls kj4 _ _ t911 _ _ t924 t935 _ ?side1 ?side2 ?side3 ?side4 A63.out).mono ?_); (case side1 => repeat (first | exact (Kd.R_reads' HO_6.out).2.2 | (with_reducible refine Kd.C_alloc ?_ _) | (with_reducible refine Kd.C_drewN ?_ _) | (with_reducible refine Kd.C_drew ?_))); (case side2 => exact (Kd.R_reads' HO_6.out).2.1); (case side3 => repeat (first | exact (Kd.R_reads' HO927.out).2.2 | (with_reducible refine Kd.C_alloc ?_ _) | (with_reducible refine Kd.C_drewN ?_ _) | (with_reducible refine Kd.C_drew ?_))); (case side4 => exact (Kd.R_reads' HO927.out).2.1); rintro e w' ⟨rfl, ⟨nd, rfl⟩⟩))
          go_ret; exact ⟨by first | rfl | (simp <;> rfl) | (simp [*] <;> rfl), by repeat (first | (with_reducible first | exact HB.out | apply below_alloc | apply pw_below_drewN | apply below_drew1) | exact HB.out)⟩
         ·replace c62 := Bool.eq_false_iff.mpr c62; subst c62; (have H1 : (some true) = some r := by rw [if_neg (show ¬ (false = true) by decide)] at H; exact H); clear H; have H := H1; clear H1; obtain rfl := Option.some.inj H; go_wp2_with (first | ((with_reducible refine gate_callee (f := 28) rfl ?_); refine goesL_ (some 47) rfl rfl Try.func28 (by kernel_rfl) rfl #[.slice Ao7 t902.length co7, .slice Ao8 t905.length co8, .slice Ao9 t908.length co9] rfl (by (try simp only [List.map_toArray, List.map_cons, List.map_nil]); first | done | rfl | (simp only [List.length_drop, List.length_take]; rfl)) ?_; (with_reducible refine (impl_MergeClash.calls kj4 _ _ t902 _ _ t905 _ _ t908 t923 _ ?side1 ?side2 ?side3 ?side4 ?side5 ?side6 A28.out).mono ?_); (case side1 => repeat (first | exact (Kd.R_reads' HO_3.out).2.2 | (with_reducible refine Kd.C_alloc ?_ _) | (with_reducible refine Kd.C_drewN ?_ _) | (with_reducible refine Kd.C_drew ?_))); (case side2 => exact (Kd.R_reads' HO_3.out).2.1); (case side3 => repeat (first | exact (Kd.V_reads' HO_4.out).2.2 | (with_reducible refine Kd.C_alloc ?_ _) | (with_reducible refine Kd.C_drewN ?_ _) | (with_reducible refine Kd.C_drew ?_))); (case side4 => exact (Kd.V_reads' HO_4.out).2.1); (case side5 => repeat (first | exact (Kd.V_reads' HO_5.out).2.2 | (with_reducible refine Kd.C_alloc ?_ _) | (with_reducible refine Kd.C_drewN ?_ _) | (with_reducible refine Kd.C_drew ?_))); (case side6 => exact (Kd.V_reads' HO_5.out).2.1); rintro e w68 ⟨rfl, hb⟩; refine ⟨_, rfl, ?_⟩; have n0_ := Aside0.mk (Kd.R_below (by (with_reducible repeat (first | apply Kd.R_alloc | apply Kd.R_drewN | apply Kd.R_drew)); exact HO_3.out) hb); have n1_ := Aside0.mk (Kd.V_below (by (with_reducible repeat (first | apply Kd.V_alloc | apply Kd.V_drewN | apply Kd.V_drew)); exact HO_4.out) hb); have n2_ := Aside0.mk (Kd.V_below (by (with_reducible repeat (first | apply Kd.V_alloc | apply Kd.V_drewN | apply Kd.V_drew)); exact HO_5.out) hb); have n3_ := Aside0.mk (Kd.R_below (by (with_reducible repeat (first | apply Kd.R_alloc | apply Kd.R_drewN | apply Kd.R_drew)); exact HO_6.out) hb); have n4_ := Aside0.mk (below_step (by repeat (first | (with_reducible first | exact HB.out | apply below_alloc | apply pw_below_drewN | apply below_drew1) | exact HB.out)) hb); clear HO_3; clear HO_4; clear HO_5; clear HO_6; clear HB; have HO_3 := n0_; have HO_4 := n1_; have HO_5 := n2_; have HO_6 := n3_; have HB := n4_; clear n0_ n1_ n2_ n3_ n4_; (try clear hb); (try clear hb2); (try clear hk); (try clear hi)) | ((with_reducible refine gate_callee (f := 25) rfl ?_); refine goesL_ (some 52) rfl rfl Try.func25 (by kernel_rfl) rfl #[.slice Ao7 t902.length co7, .slice Ao8 t905.length co8, .slice Ao9 t908.length co9] rfl (by (try simp only [List.map_toArray, List.map_cons, List.map_nil]); first | done | rfl | (simp only [List.length_drop, List.length_take]; rfl)) ?_; (with_reducible refine (impl_MergeText.calls kj4 _ _ t902 _ _ t905 _ _ t908 t924 false _ ?side1 ?side2 ?side3 ?side4 ?side5 ?side6 A29.out).mono ?_); (case side1 => repeat (first | exact (Kd.R_reads' HO_3.out).2.2 | (with_reducible refine Kd.C_alloc ?_ _) | (with_reducible refine Kd.C_drewN ?_ _) | (with_reducible refine Kd.C_drew ?_))); (case side2 => exact (Kd.R_reads' HO_3.out).2.1); (case side3 => repeat (first | exact (Kd.V_reads' HO_4.out).2.2 | (with_reducible refine Kd.C_alloc ?_ _) | (with_reducible refine Kd.C_drewN ?_ _) | (with_reducible refine Kd.C_drew ?_))); (case side4 => exact (Kd.V_reads' HO_4.out).2.1); (case side5 => repeat (first | exact (Kd.V_reads' HO_5.out).2.2 | (with_reducible refine Kd.C_alloc ?_ _) | (with_reducible refine Kd.C_drewN ?_ _) | (with_reducible refine Kd.C_drew ?_))); (case side6 => exact (Kd.V_reads' HO_5.out).2.1); rintro e w69 ⟨v926, rfl, ho0, hb⟩; refine ⟨_, rfl, ?_⟩; have n0_ := Aside0.mk (Kd.R_elder' (by (with_reducible repeat (first | apply Kd.R_alloc | apply Kd.R_drewN | apply Kd.R_drew)); exact HO_3.out) (Kd.R_base ho0) hb); have n1_ := Aside0.mk (Kd.V_elder' (by (with_reducible repeat (first | apply Kd.V_alloc | apply Kd.V_drewN | apply Kd.V_drew)); exact HO_4.out) (Kd.R_base ho0) hb); have n2_ := Aside0.mk (Kd.V_elder' (by (with_reducible repeat (first | apply Kd.V_alloc | apply Kd.V_drewN | apply Kd.V_drew)); exact HO_5.out) (Kd.R_base ho0) hb); have n3_ := Aside0.mk (Kd.R_elder' (by (with_reducible repeat (first | apply Kd.R_alloc | apply Kd.R_drewN | apply Kd.R_drew)); exact HO_6.out) (Kd.R_base ho0) hb); have n4_ := Aside0.mk (Kd.R_lower (Kd.R_new' (Kd.R_new' ho0 (Kd.R_lt (by (with_reducible repeat (first | apply Kd.R_alloc | apply Kd.R_drewN | apply Kd.R_drew)); exact HO_3.out))) (Kd.R_lt (by (with_reducible repeat (first | apply Kd.R_alloc | apply Kd.R_drewN | apply Kd.R_drew)); exact HO_6.out))) (below_size (by repeat (first | (with_reducible first | exact HB.out | apply below_alloc | apply pw_below_drewN | apply below_drew1) | exact HB.out)))); have n5_ := Aside0.mk (below_step (by repeat (first | (with_reducible first | exact HB.out | apply below_alloc | apply pw_below_drewN | apply below_drew1) | exact HB.out)) hb); clear HO_3; clear HO_4; clear HO_5; clear HO_6; clear HB; have HO_3 := n0_; have HO_4 := n1_; have HO_5 := n2_; have HO_6 := n3_; have HO927 := n4_; have HB := n5_; clear n0_ n1_ n2_ n3_ n4_ n5_; (try clear hb); (try clear hb2); (try clear hk); (try clear hi); (try clear ho0)) | ((with_reducible refine gate_callee (f := 44) rfl ?_); refine goesL_ (some 56) rfl rfl Try.func44 (by kernel_rfl) rfl #[.slice Ao8 t905.length co8, .string (⟨#[60, 60, 60]⟩ : ByteArray)] rfl (by (try simp only [List.map_toArray, List.map_cons, List.map_nil]); first | done | rfl | (simp only [List.length_drop, List.length_take]; rfl)) ?_; (with_reducible refine (laws_smHas.calls kj4 _ _ t905 (⟨#[60, 60, 60]⟩ : ByteArray) false _ ?side1 ?side2 A30.out).mono ?_); (case side1 => repeat (first | exact (Kd.V_reads' HO_4.out).2.2 | (with_reducible refine Kd.C_alloc ?_ _) | (with_reducible refine Kd.C_drewN ?_ _) | (with_reducible refine Kd.C_drew ?_))); (case side2 => exact (Kd.V_reads' HO_4.out).2.1); rintro e w' ⟨rfl, ⟨nd, rfl⟩⟩; refine ⟨_, rfl, ?_⟩) | (go_at_call 44; (with_reducible refine (laws_smHas.calls kj4 _ _ t908 (⟨#[60, 60, 60]⟩ : ByteArray) false _ ?side1 ?side2 A40.out).mono ?_); (case side1 => repeat (first | exact (Kd.V_reads' HO_5.out).2.2 | (with_reducible refine Kd.C_alloc ?_ _) | (with_reducible refine Kd.C_drewN ?_ _) | (with_reducible refine Kd.C_drew ?_))); (case side2 => exact (Kd.V_reads' HO_5.out).2.1); rintro e w' ⟨rfl, ⟨nd, rfl⟩⟩) | (go_at_call 44; (with_reducible refine (laws_smHas.calls kj4 _ _ t902 (⟨#[60, 60, 60]⟩ : ByteArray) false _ ?side1 ?side2 A50.out).mono ?_); (case side1 => repeat (first | exact (Kd.R_reads' HO_3.out).2.2 | (with_reducible refine Kd.C_alloc ?_ _) | (with_reducible refine Kd.C_drewN ?_ _) | (with_reducible refine Kd.C_drew ?_))); (case side2 => exact (Kd.R_reads' HO_3.out).2.1); rintro e w' ⟨rfl, ⟨nd, rfl⟩⟩; obtain ⟨Ao70, co70, eo70⟩ := Kd.R_slice HO_6.out; subst eo70) | (go_at_call 39; (with_reducible refine (laws_smMany.calls kj4 _ _ t911 (⟨#[60, 60, 60]⟩ : ByteArray) t934 _ ?side1 ?side2 A60.out).mono ?_); (case side1 => repeat (first | exact (Kd.R_reads' HO_6.out).2.2 | (with_reducible refine Kd.C_alloc ?_ _) | (with_reducible refine Kd.C_drewN ?_ _) | (with_reducible refine Kd.C_drew ?_))); (case side2 => exact (Kd.R_reads' HO_6.out).2.1); rintro e w' ⟨rfl, ⟨nd, rfl⟩⟩))
          go_ret; exact ⟨by first | rfl | (simp <;> rfl) | (simp [*] <;> rfl), by repeat (first | (with_reducible first | exact HB.out | apply below_alloc | apply pw_below_drewN | apply below_drew1) | exact HB.out)⟩
        ·rw [if_neg c61] at H; have c61b0 : (t934 == t923) = false := beq_eq_false_iff_ne.mpr c61; have c61b1 : (t934 != t923) = true := bne_iff_ne.mpr c61; obtain rfl := Option.some.inj H; go_wp2_with (first | ((with_reducible refine gate_callee (f := 28) rfl ?_); refine goesL_ (some 47) rfl rfl Try.func28 (by kernel_rfl) rfl #[.slice Ao7 t902.length co7, .slice Ao8 t905.length co8, .slice Ao9 t908.length co9] rfl (by (try simp only [List.map_toArray, List.map_cons, List.map_nil]); first | done | rfl | (simp only [List.length_drop, List.length_take]; rfl)) ?_; (with_reducible refine (impl_MergeClash.calls kj4 _ _ t902 _ _ t905 _ _ t908 t923 _ ?side1 ?side2 ?side3 ?side4 ?side5 ?side6 A28.out).mono ?_); (case side1 => repeat (first | exact (Kd.R_reads' HO_3.out).2.2 | (with_reducible refine Kd.C_alloc ?_ _) | (with_reducible refine Kd.C_drewN ?_ _) | (with_reducible refine Kd.C_drew ?_))); (case side2 => exact (Kd.R_reads' HO_3.out).2.1); (case side3 => repeat (first | exact (Kd.V_reads' HO_4.out).2.2 | (with_reducible refine Kd.C_alloc ?_ _) | (with_reducible refine Kd.C_drewN ?_ _) | (with_reducible refine Kd.C_drew ?_))); (case side4 => exact (Kd.V_reads' HO_4.out).2.1); (case side5 => repeat (first | exact (Kd.V_reads' HO_5.out).2.2 | (with_reducible refine Kd.C_alloc ?_ _) | (with_reducible refine Kd.C_drewN ?_ _) | (with_reducible refine Kd.C_drew ?_))); (case side6 => exact (Kd.V_reads' HO_5.out).2.1); rintro e w71 ⟨rfl, hb⟩; refine ⟨_, rfl, ?_⟩; have n0_ := Aside0.mk (Kd.R_below (by (with_reducible repeat (first | apply Kd.R_alloc | apply Kd.R_drewN | apply Kd.R_drew)); exact HO_3.out) hb); have n1_ := Aside0.mk (Kd.V_below (by (with_reducible repeat (first | apply Kd.V_alloc | apply Kd.V_drewN | apply Kd.V_drew)); exact HO_4.out) hb); have n2_ := Aside0.mk (Kd.V_below (by (with_reducible repeat (first | apply Kd.V_alloc | apply Kd.V_drewN | apply Kd.V_drew)); exact HO_5.out) hb); have n3_ := Aside0.mk (Kd.R_below (by (with_reducible repeat (first | apply Kd.R_alloc | apply Kd.R_drewN | apply Kd.R_drew)); exact HO_6.out) hb); have n4_ := Aside0.mk (below_step (by repeat (first | (with_reducible first | exact HB.out | apply below_alloc | apply pw_below_drewN | apply below_drew1) | exact HB.out)) hb); clear HO_3; clear HO_4; clear HO_5; clear HO_6; clear HB; have HO_3 := n0_; have HO_4 := n1_; have HO_5 := n2_; have HO_6 := n3_; have HB := n4_; clear n0_ n1_ n2_ n3_ n4_; (try clear hb); (try clear hb2); (try clear hk); (try clear hi)) | ((with_reducible refine gate_callee (f := 25) rfl ?_); refine goesL_ (some 52) rfl rfl Try.func25 (by kernel_rfl) rfl #[.slice Ao7 t902.length co7, .slice Ao8 t905.length co8, .slice Ao9 t908.length co9] rfl (by (try simp only [List.map_toArray, List.map_cons, List.map_nil]); first | done | rfl | (simp only [List.length_drop, List.length_take]; rfl)) ?_; (with_reducible refine (impl_MergeText.calls kj4 _ _ t902 _ _ t905 _ _ t908 t924 t925 _ ?side1 ?side2 ?side3 ?side4 ?side5 ?side6 A29.out).mono ?_); (case side1 => repeat (first | exact (Kd.R_reads' HO_3.out).2.2 | (with_reducible refine Kd.C_alloc ?_ _) | (with_reducible refine Kd.C_drewN ?_ _) | (with_reducible refine Kd.C_drew ?_))); (case side2 => exact (Kd.R_reads' HO_3.out).2.1); (case side3 => repeat (first | exact (Kd.V_reads' HO_4.out).2.2 | (with_reducible refine Kd.C_alloc ?_ _) | (with_reducible refine Kd.C_drewN ?_ _) | (with_reducible refine Kd.C_drew ?_))); (case side4 => exact (Kd.V_reads' HO_4.out).2.1); (case side5 => repeat (first | exact (Kd.V_reads' HO_5.out).2.2 | (with_reducible refine Kd.C_alloc ?_ _) | (with_reducible refine Kd.C_drewN ?_ _) | (with_reducible refine Kd.C_drew ?_))); (case side6 => exact (Kd.V_reads' HO_5.out).2.1); rintro e w72 ⟨v926, rfl, ho0, hb⟩; refine ⟨_, rfl, ?_⟩; have n0_ := Aside0.mk (Kd.R_elder' (by (with_reducible repeat (first | apply Kd.R_alloc | apply Kd.R_drewN | apply Kd.R_drew)); exact HO_3.out) (Kd.R_base ho0) hb); have n1_ := Aside0.mk (Kd.V_elder' (by (with_reducible repeat (first | apply Kd.V_alloc | apply Kd.V_drewN | apply Kd.V_drew)); exact HO_4.out) (Kd.R_base ho0) hb); have n2_ := Aside0.mk (Kd.V_elder' (by (with_reducible repeat (first | apply Kd.V_alloc | apply Kd.V_drewN | apply Kd.V_drew)); exact HO_5.out) (Kd.R_base ho0) hb); have n3_ := Aside0.mk (Kd.R_elder' (by (with_reducible repeat (first | apply Kd.R_alloc | apply Kd.R_drewN | apply Kd.R_drew)); exact HO_6.out) (Kd.R_base ho0) hb); have n4_ := Aside0.mk (Kd.R_lower (Kd.R_new' (Kd.R_new' ho0 (Kd.R_lt (by (with_reducible repeat (first | apply Kd.R_alloc | apply Kd.R_drewN | apply Kd.R_drew)); exact HO_3.out))) (Kd.R_lt (by (with_reducible repeat (first | apply Kd.R_alloc | apply Kd.R_drewN | apply Kd.R_drew)); exact HO_6.out))) (below_size (by repeat (first | (with_reducible first | exact HB.out | apply below_alloc | apply pw_below_drewN | apply below_drew1) | exact HB.out)))); have n5_ := Aside0.mk (below_step (by repeat (first | (with_reducible first | exact HB.out | apply below_alloc | apply pw_below_drewN | apply below_drew1) | exact HB.out)) hb); clear HO_3; clear HO_4; clear HO_5; clear HO_6; clear HB; have HO_3 := n0_; have HO_4 := n1_; have HO_5 := n2_; have HO_6 := n3_; have HO927 := n4_; have HB := n5_; clear n0_ n1_ n2_ n3_ n4_ n5_; (try clear hb); (try clear hb2); (try clear hk); (try clear hi); (try clear ho0)) | ((with_reducible refine gate_callee (f := 44) rfl ?_); refine goesL_ (some 56) rfl rfl Try.func44 (by kernel_rfl) rfl #[.slice Ao8 t905.length co8, .string (⟨#[60, 60, 60]⟩ : ByteArray)] rfl (by (try simp only [List.map_toArray, List.map_cons, List.map_nil]); first | done | rfl | (simp only [List.length_drop, List.length_take]; rfl)) ?_; (with_reducible refine (laws_smHas.calls kj4 _ _ t905 (⟨#[60, 60, 60]⟩ : ByteArray) false _ ?side1 ?side2 A30.out).mono ?_); (case side1 => repeat (first | exact (Kd.V_reads' HO_4.out).2.2 | (with_reducible refine Kd.C_alloc ?_ _) | (with_reducible refine Kd.C_drewN ?_ _) | (with_reducible refine Kd.C_drew ?_))); (case side2 => exact (Kd.V_reads' HO_4.out).2.1); rintro e w' ⟨rfl, ⟨nd, rfl⟩⟩; refine ⟨_, rfl, ?_⟩) | (go_at_call 44; (with_reducible refine (laws_smHas.calls kj4 _ _ t908 (⟨#[60, 60, 60]⟩ : ByteArray) false _ ?side1 ?side2 A40.out).mono ?_); (case side1 => repeat (first | exact (Kd.V_reads' HO_5.out).2.2 | (with_reducible refine Kd.C_alloc ?_ _) | (with_reducible refine Kd.C_drewN ?_ _) | (with_reducible refine Kd.C_drew ?_))); (case side2 => exact (Kd.V_reads' HO_5.out).2.1); rintro e w' ⟨rfl, ⟨nd, rfl⟩⟩) | (go_at_call 44; (with_reducible refine (laws_smHas.calls kj4 _ _ t902 (⟨#[60, 60, 60]⟩ : ByteArray) false _ ?side1 ?side2 A50.out).mono ?_); (case side1 => repeat (first | exact (Kd.R_reads' HO_3.out).2.2 | (with_reducible refine Kd.C_alloc ?_ _) | (with_reducible refine Kd.C_drewN ?_ _) | (with_reducible refine Kd.C_drew ?_))); (case side2 => exact (Kd.R_reads' HO_3.out).2.1); rintro e w' ⟨rfl, ⟨nd, rfl⟩⟩; obtain ⟨Ao73, co73, eo73⟩ := Kd.R_slice HO_6.out; subst eo73) | (go_at_call 39; (with_reducible refine (laws_smMany.calls kj4 _ _ t911 (⟨#[60, 60, 60]⟩ : ByteArray) t934 _ ?side1 ?side2 A60.out).mono ?_); (case side1 => repeat (first | exact (Kd.R_reads' HO_6.out).2.2 | (with_reducible refine Kd.C_alloc ?_ _) | (with_reducible refine Kd.C_drewN ?_ _) | (with_reducible refine Kd.C_drew ?_))); (case side2 => exact (Kd.R_reads' HO_6.out).2.1); rintro e w' ⟨rfl, ⟨nd, rfl⟩⟩))
         go_ret; exact ⟨by first | rfl | (simp <;> rfl) | (simp [*] <;> rfl), by repeat (first | (with_reducible first | exact HB.out | apply below_alloc | apply pw_below_drewN | apply below_drew1) | exact HB.out)⟩
/-- THE ONE PURE STATEMENT of laws_FnMergeShow: yours. -/
def laws_FnMergeShow.Pure : Prop := ∀ (l0 : List Int), l0.length ≤ maxLen → l0.length * 1 ≤ 140737488351232 → (∀ x ∈ l0, (Lit.int .u8 x).wf = true) → ∃ k, laws_FnMergeShow.f k l0 = some true
theorem laws_FnMergeShow.walk (P : laws_FnMergeShow.Pure) (a0 : Option Addr) (len0 cap0 : Nat) (z0 : List Int) (w : World) (w0 : (a0 = none ∧ len0 = 0 ∧ cap0 = 0 ∧ z0 = []) ∨ ∃ x, a0 = some x ∧ len0 ≤ cap0 ∧ cap0 ≤ maxLen ∧ z0.length = cap0 ∧ (∀ i, i < z0.length → w.cell? (x.add i) = some (.int .u8 (z0.getD i 0))) ∧ ∀ n ∈ z0, (Lit.int .u8 n).wf = true) (y0 : len0 * 1 ≤ 140737488351232) :
 Calls Try.prog 10 #[.slice a0 len0 cap0] w fun e w' => e = .returned (.bool true) ∧ Below w.heap.size w w' := by
 obtain ⟨l0, rfl, hr0, hm0, hw0, hc0⟩ := ReadsInt.ofRowC w0; obtain ⟨k, h⟩ := P l0 hm0 y0 hw0; refine (laws_FnMergeShow.calls k _ _ l0 true w (Kd.C_of_reads (d := (0 : Int)) (h1 := fun _ => rfl) hr0) hc0 h).mono ?_; rintro e w' ⟨rfl, hd⟩; exact ⟨rfl, hd⟩
end Go.Proofs.Ytfpdkeolecmepaa.Q
end
section
namespace Go.Proofs.Ytfpdkeolecmepaa.Q
set_option linter.unusedVariables false
set_option linter.unusedSimpArgs false
section
variable {α : Type} [DecidableEq α]
def L : List α → List α → Nat
  | [], _ => 0
  | _ :: _, [] => 0
  | a :: x, b :: y => if a = b then L x y + 1 else max (L x (b :: y)) (L (a :: x) y)
termination_by x y => x.length + y.length
theorem L_nil_left (y : List α) : L [] y = 0 := by rw [L]
theorem L_nil_right (x : List α) : L x [] = 0 := by cases x <;> rw [L]
theorem L_same (a : α) (x y : List α) : L (a :: x) (a :: y) = L x y + 1 := by rw [L, if_pos rfl]
theorem L_diff {a b : α} (h : a ≠ b) (x y : List α) : L (a :: x) (b :: y) = max (L x (b :: y)) (L (a :: x) y) := by rw [L, if_neg h]
theorem L_upper : ∀ (n : Nat) (x y z : List α), x.length + y.length ≤ n → z.Sublist x → z.Sublist y → z.length ≤ L x y
  | n, [], y, z, hn, hx, hy => by rw [List.sublist_nil.mp hx]; simp
  | n, a :: x, [], z, hn, hx, hy => by rw [List.sublist_nil.mp hy]; simp
  | 0, a :: x, b :: y, z, hn, hx, hy => by simp at hn
  | n + 1, a :: x, b :: y, z, hn, hx, hy => by
    simp only [List.length_cons] at hn
    by_cases e : a = b
    · subst e
      rw [L_same]
      cases z with
      | nil => simp
      | cons c z =>
        have h1 : z.Sublist x := by
          cases hx with
          | cons _ h => exact (List.sublist_cons_self c z).trans h
          | cons_cons _ h => exact h
        have h2 : z.Sublist y := by
          cases hy with
          | cons _ h => exact (List.sublist_cons_self c z).trans h
          | cons_cons _ h => exact h
        have := L_upper n x y z (by omega) h1 h2
        simp only [List.length_cons]; omega
    · rw [L_diff e]
      cases hx with
      | cons _ h => exact Nat.le_trans (L_upper n x (b :: y) z (by simp only [List.length_cons]; omega) h hy) (Nat.le_max_left _ _)
      | cons_cons _ h =>
        cases hy with
        | cons _ h' => exact Nat.le_trans (L_upper n (a :: x) y _ (by simp only [List.length_cons]; omega) (h.cons_cons a) h') (Nat.le_max_right _ _)
        | cons_cons _ h' => exact absurd rfl e
theorem L_attain : ∀ (n : Nat) (x y : List α), x.length + y.length ≤ n → ∃ z : List α, z.Sublist x ∧ z.Sublist y ∧ z.length = L x y
  | n, [], y, hn => ⟨[], List.nil_sublist _, List.nil_sublist _, by rw [L_nil_left]; rfl⟩
  | n, a :: x, [], hn => ⟨[], List.nil_sublist _, List.nil_sublist _, by rw [L_nil_right]; rfl⟩
  | 0, a :: x, b :: y, hn => by simp at hn
  | n + 1, a :: x, b :: y, hn => by
    simp only [List.length_cons] at hn
    by_cases e : a = b
    · subst e
      obtain ⟨z, h1, h2, h3⟩ := L_attain n x y (by omega)
      exact ⟨a :: z, h1.cons_cons a, h2.cons_cons a, by rw [L_same, List.length_cons, h3]⟩
    · obtain ⟨z1, p1, p2, p3⟩ := L_attain n x (b :: y) (by simp only [List.length_cons]; omega)
      obtain ⟨z2, q1, q2, q3⟩ := L_attain n (a :: x) y (by simp only [List.length_cons]; omega)
      rw [L_diff e]
      by_cases c : L (a :: x) y ≤ L x (b :: y)
      · exact ⟨z1, p1.cons a, p2, by omega⟩
      · exact ⟨z2, q1, q2.cons b, by omega⟩
theorem L_le_rev (x y : List α) : L x y ≤ L x.reverse y.reverse := by
  obtain ⟨z, h1, h2, h3⟩ := L_attain _ x y (Nat.le_refl _)
  rw [← h3, ← List.length_reverse]
  exact L_upper _ _ _ _ (Nat.le_refl _) h1.reverse h2.reverse
theorem L_rev (x y : List α) : L x.reverse y.reverse = L x y := by
  refine Nat.le_antisymm ?_ (L_le_rev x y)
  have := L_le_rev x.reverse y.reverse
  rwa [List.reverse_reverse, List.reverse_reverse] at this
theorem L_snoc_same (a : α) (x y : List α) : L (x ++ [a]) (y ++ [a]) = L x y + 1 := by
  rw [← L_rev, List.reverse_append, List.reverse_append]
  show L (a :: x.reverse) (a :: y.reverse) = _
  rw [L_same, L_rev]
theorem L_snoc_diff {a b : α} (h : a ≠ b) (x y : List α) : L (x ++ [a]) (y ++ [b]) = max (L x (y ++ [b])) (L (x ++ [a]) y) := by
  rw [← L_rev, List.reverse_append, List.reverse_append]
  show L (a :: x.reverse) (b :: y.reverse) = _
  rw [L_diff h]
  have e1 : L x.reverse (b :: y.reverse) = L x (y ++ [b]) := by rw [← L_rev x (y ++ [b]), List.reverse_append]; rfl
  have e2 : L (a :: x.reverse) y.reverse = L (x ++ [a]) y := by rw [← L_rev (x ++ [a]) y, List.reverse_append]; rfl
  rw [e1, e2]
theorem L_le (x y : List α) : L x y ≤ x.length ∧ L x y ≤ y.length := by
  obtain ⟨z, h1, h2, h3⟩ := L_attain _ x y (Nat.le_refl _)
  rw [← h3]
  exact ⟨h1.length_le, h2.length_le⟩
/-- Of each line of a which of b's it is; -1, if it is none. -/
def mtc : List α → List α → Nat → List Int
  | [], _, _ => []
  | a :: x, [], j => -1 :: mtc x [] j
  | a :: x, b :: y, j => if a = b then (j : Int) :: mtc x y (j + 1) else if L (a :: x) y ≤ L x (b :: y) then -1 :: mtc x (b :: y) j else mtc (a :: x) y (j + 1)
termination_by x y => x.length + y.length
theorem mtc_len : ∀ (n : Nat) (x y : List α) (j : Nat), x.length + y.length ≤ n → (mtc x y j).length = x.length
  | n, [], y, j, hn => by rw [mtc]; rfl
  | 0, a :: x, y, j, hn => by simp at hn
  | n + 1, a :: x, [], j, hn => by rw [mtc, List.length_cons, mtc_len n x [] j (by simp at hn ⊢; omega)]; rfl
  | n + 1, a :: x, b :: y, j, hn => by
    simp only [List.length_cons] at hn
    rw [mtc]
    split
    · rw [List.length_cons, mtc_len n x y (j + 1) (by omega)]; rfl
    · split
      · rw [List.length_cons, mtc_len n x (b :: y) j (by simp; omega)]; rfl
      · rw [mtc_len n (a :: x) y (j + 1) (by simp; omega)]
end
end Go.Proofs.Ytfpdkeolecmepaa.Q
end
section
namespace Go.Proofs.Ytfpdkeolecmepaa.Q
set_option linter.unusedVariables false
set_option linter.unusedSimpArgs false
abbrev Tl := List ByteArray
/-- All parts, between lines that both sides still have. -/
def mg (o a b : Tl) (mA mB : List Int) : Nat → Nat → Nat → Nat → List Pt → List Pt
  | 0, i, j, k, ps => reg ps (o.drop i) (a.drop j) (b.drop k)
  | d + 1, i, j, k, ps =>
    let n := o.length - (d + 1)
    if mA.getD n 0 < 0 ∨ mB.getD n 0 < 0 then mg o a b mA mB d i j k ps
    else mg o a b mA mB d (n + 1) ((mA.getD n 0).toNat + 1) ((mB.getD n 0).toNat + 1) (res (reg ps (seg2 o i n) (seg2 a j (mA.getD n 0).toNat) (seg2 b k (mB.getD n 0).toNat)) [o.getD n ByteArray.empty])
def mrg (o a b : Tl) : List Pt := mg o a b (mtc o a 0) (mtc o b 0) o.length 0 0 0 []
theorem mtc_in {α : Type} [DecidableEq α] : ∀ (n : Nat) (x y : List α) (j : Nat), x.length + y.length ≤ n → ∀ v ∈ mtc x y j, v = -1 ∨ ((j : Int) ≤ v ∧ v < j + y.length)
  | n, [], y, j, hn, v, hv => by rw [mtc] at hv; cases hv
  | 0, a :: x, y, j, hn, v, hv => by simp at hn
  | n + 1, a :: x, [], j, hn, v, hv => by
    rw [mtc] at hv
    rcases List.mem_cons.mp hv with e | h
    · exact .inl e
    · exact mtc_in n x [] j (by simp at hn ⊢; omega) v h
  | n + 1, a :: x, b :: y, j, hn, v, hv => by
    simp only [List.length_cons] at hn
    rw [mtc] at hv
    simp only [List.length_cons]
    split at hv
    · rcases List.mem_cons.mp hv with e | h
      · exact .inr (by omega)
      · rcases mtc_in n x y (j + 1) (by omega) v h with e | e
        · exact .inl e
        · exact .inr (by omega)
    · split at hv
      · rcases List.mem_cons.mp hv with e | h
        · exact .inl e
        · have := mtc_in n x (b :: y) j (by simp; omega) v h
          simpa only [List.length_cons] using this
      · rcases mtc_in n (a :: x) y (j + 1) (by simp; omega) v hv with e | e
        · exact .inl e
        · exact .inr (by omega)
theorem mtc_inc {α : Type} [DecidableEq α] : ∀ (n : Nat) (x y : List α) (j : Nat), x.length + y.length ≤ n → (mtc x y j).Pairwise (fun u v => 0 ≤ u → 0 ≤ v → u < v)
  | n, [], y, j, hn => by rw [mtc]; exact List.Pairwise.nil
  | 0, a :: x, y, j, hn => by simp at hn
  | n + 1, a :: x, [], j, hn => by
    rw [mtc]
    exact List.Pairwise.cons (fun v hv h => absurd h (by decide)) (mtc_inc n x [] j (by simp at hn ⊢; omega))
  | n + 1, a :: x, b :: y, j, hn => by
    simp only [List.length_cons] at hn
    rw [mtc]
    split
    · refine List.Pairwise.cons (fun v hv h0 h1 => ?_) (mtc_inc n x y (j + 1) (by omega))
      rcases mtc_in _ x y (j + 1) (Nat.le_refl _) v hv with e | e <;> omega
    · split
      · exact List.Pairwise.cons (fun v hv h => absurd h (by decide)) (mtc_inc n x (b :: y) j (by simp; omega))
      · exact mtc_inc n (a :: x) y (j + 1) (by simp; omega)
theorem getD_in {m : List Int} {n : Nat} (h : n < m.length) : m.getD n 0 ∈ m := by
  rw [List.getD_eq_getElem?_getD, List.getElem?_eq_getElem h]
  exact List.getElem_mem h
theorem pw_at {m : List Int} (h : m.Pairwise (fun u v => 0 ≤ u → 0 ≤ v → u < v)) {n n' : Nat} (hn : n < n') (hl : n' < m.length) (h0 : 0 ≤ m.getD n 0) (h1 : 0 ≤ m.getD n' 0) : m.getD n 0 < m.getD n' 0 := by
  have := List.pairwise_iff_getElem.mp h n n' (by omega) hl hn
  rw [List.getD_eq_getElem?_getD, List.getElem?_eq_getElem (by omega : n < m.length)] at h0 ⊢
  rw [List.getD_eq_getElem?_getD, List.getElem?_eq_getElem hl] at h1 ⊢
  exact this h0 h1
theorem mgO_mg {o a b : Tl} {mA mB : List Int} (lA : mA.length = o.length) (lB : mB.length = o.length) (pA : mA.Pairwise (fun u v => 0 ≤ u → 0 ≤ v → u < v)) (pB : mB.Pairwise (fun u v => 0 ≤ u → 0 ≤ v → u < v))
    (iA : ∀ v ∈ mA, v < (a.length : Int)) (iB : ∀ v ∈ mB, v < (b.length : Int)) : ∀ (d i j k : Nat) (ps : List Pt), d ≤ o.length → j ≤ a.length → k ≤ b.length →
    (∀ n, o.length - d ≤ n → n < o.length → 0 ≤ mA.getD n 0 → (j : Int) ≤ mA.getD n 0) → (∀ n, o.length - d ≤ n → n < o.length → 0 ≤ mB.getD n 0 → (k : Int) ≤ mB.getD n 0) → mgO o a b mA mB d i j k ps = some (mg o a b mA mB d i j k ps)
  | 0, i, j, k, ps, hd, hj, hk, jA, kB => by rw [mgO, mg, if_pos ⟨hj, hk⟩]
  | d + 1, i, j, k, ps, hd, hj, hk, jA, kB => by
    simp only [mg]
    rw [mgO]
    by_cases h : mA.getD (o.length - (d + 1)) 0 < 0 ∨ mB.getD (o.length - (d + 1)) 0 < 0
    · rw [if_pos h, if_pos h]
      exact mgO_mg lA lB pA pB iA iB d i j k ps (by omega) hj hk (fun n h1 h2 => jA n (by omega) h2) (fun n h1 h2 => kB n (by omega) h2)
    · rw [if_neg h, if_neg h]
      have hA : 0 ≤ mA.getD (o.length - (d + 1)) 0 := by omega
      have hB : 0 ≤ mB.getD (o.length - (d + 1)) 0 := by omega
      have g1 := jA _ (Nat.le_refl _) (by omega) hA
      have g2 := kB _ (Nat.le_refl _) (by omega) hB
      have g3 := iA _ (getD_in (by omega : o.length - (d + 1) < mA.length))
      have g4 := iB _ (getD_in (by omega : o.length - (d + 1) < mB.length))
      rw [if_pos ⟨by omega, by omega, by omega, by omega⟩]
      refine mgO_mg lA lB pA pB iA iB d _ _ _ _ (by omega) (by omega) (by omega) (fun n h1 h2 h3 => ?_) (fun n h1 h2 h3 => ?_)
      · have := pw_at pA (n := o.length - (d + 1)) (n' := n) (by omega) (by omega) hA h3
        omega
      · have := pw_at pB (n := o.length - (d + 1)) (n' := n) (by omega) (by omega) hB h3
        omega
theorem mgG_mrg {o a b : Tl} (ho : o.length ≤ 1000) (ha : a.length ≤ 1000) (hb : b.length ≤ 1000) : mgG o a b (mtc o a 0) (mtc o b 0) = some (mrg o a b) := by
  have lA := mtc_len _ o a 0 (Nat.le_refl _)
  have lB := mtc_len _ o b 0 (Nat.le_refl _)
  unfold mgG
  rw [if_pos ⟨lA, lB, ho, ha, hb⟩]
  exact mgO_mg lA lB (mtc_inc _ o a 0 (Nat.le_refl _)) (mtc_inc _ o b 0 (Nat.le_refl _)) (fun v hv => by rcases mtc_in _ o a 0 (Nat.le_refl _) v hv with e | e <;> omega) (fun v hv => by rcases mtc_in _ o b 0 (Nat.le_refl _) v hv with e | e <;> omega)
    o.length 0 0 0 [] (Nat.le_refl _) (Nat.zero_le _) (Nat.zero_le _) (fun n h1 h2 h3 => by omega) (fun n h1 h2 h3 => by omega)
end Go.Proofs.Ytfpdkeolecmepaa.Q
end
section
namespace Go.Proofs.Ytfpdkeolecmepaa.Q
open Go.RowKit Go.Proofs.YtfpdkeolecmepaaW.PrintWords Go.Proofs.YtfpdkeolecmepaaW.PrintMore
set_option linter.unusedVariables false
set_option linter.unusedSimpArgs false
/-- A row by its places. -/
def tab {α : Type} (n : Nat) (f : Nat → α) : List α := (List.range n).map f
theorem tab_len {α : Type} (n : Nat) (f : Nat → α) : (tab n f).length = n := by simp [tab]
theorem tab_at {α : Type} (n : Nat) (f : Nat → α) (i : Nat) : (tab n f)[i]? = if i < n then some (f i) else none := by
  unfold tab
  rw [List.getElem?_map]
  by_cases h : i < n
  · rw [List.getElem?_range h, if_pos h]; rfl
  · rw [List.getElem?_eq_none (by simp; omega), if_neg h]; rfl
theorem tab_rd {n : Nat} {f : Nat → Int} {i : Nat} (h : i < n) : rd (tab n f) (i : Int) = f i := by
  unfold rd
  rw [List.getD_eq_getElem?_getD, Int.toNat_natCast, tab_at, if_pos h]; rfl
theorem tab_rdL {n : Nat} {f : Nat → List Int} {i : Nat} (h : i < n) : rd_L7 (tab n f) (i : Int) = f i := by
  unfold rd_L7
  rw [List.getD_eq_getElem?_getD, Int.toNat_natCast, tab_at, if_pos h]; rfl
theorem tab_set {α : Type} {n : Nat} {f : Nat → α} {i : Nat} (v : α) : (tab n f).set i v = tab n (fun j => if j = i then v else f j) := by
  apply List.ext_getElem?
  intro j
  rw [List.getElem?_set, tab_len, tab_at, tab_at]
  by_cases h1 : i = j
  · subst h1
    by_cases h2 : i < n <;> simp [h2]
  · rw [if_neg h1]
    by_cases h2 : j < n
    · rw [if_pos h2, if_pos h2, if_neg (fun e => h1 e.symm)]
    · rw [if_neg h2, if_neg h2]
theorem tab_same {α : Type} {n : Nat} {f g : Nat → α} (h : ∀ i, i < n → f i = g i) : tab n f = tab n g := by
  unfold tab
  exact List.map_congr_left (fun i hi => h i (List.mem_range.mp hi))
theorem tab_const {α : Type} (n : Nat) (c : α) : List.replicate n c = tab n (fun _ => c) := by
  unfold tab
  rw [List.map_const', List.length_range]
theorem drop_at {α : Type} {l : List α} {i : Nat} (h : i < l.length) : l.drop i = l[i] :: l.drop (i + 1) := List.drop_eq_getElem_cons h
theorem take_at {α : Type} {l : List α} {i : Nat} (h : i < l.length) : l.take (i + 1) = l.take i ++ [l[i]] := by
  rw [List.take_add_one, List.getElem?_eq_getElem h]; rfl
theorem L_take_le (x y : List ByteArray) (i k : Nat) : L (x.take i) (y.take k) ≤ x.length := Nat.le_trans (L_le _ _).1 (by simp; omega)
theorem L_drop_le (x y : List ByteArray) (i k : Nat) : L (x.drop i) (y.drop k) ≤ x.length := Nat.le_trans (L_le _ _).1 (by simp)
def lrow (x y : List ByteArray) (i : Nat) : List Int := tab (y.length + 1) (fun j => (L (x.take i) (y.take j) : Int))
def lmid (x y : List ByteArray) (i k : Nat) : List Int := tab (y.length + 1) (fun j => if j ≤ k then (L (x.take (i + 1)) (y.take j) : Int) else (L (x.take i) (y.take j) : Int))
theorem lmid_first (x y : List ByteArray) (i : Nat) : lmid x y i 0 = lrow x y i := tab_same (fun j hj => by
  show (if j ≤ 0 then _ else _) = _
  by_cases h : j ≤ 0
  · rw [if_pos h]
    obtain rfl : j = 0 := by omega
    rw [List.take_zero, L_nil_right, L_nil_right]
  · rw [if_neg h])
theorem lmid_last (x y : List ByteArray) (i : Nat) : lmid x y i y.length = lrow x y (i + 1) := tab_same (fun j hj => by
  show (if j ≤ y.length then _ else _) = _
  rw [if_pos (by omega)])
theorem lmid_step (x y : List ByteArray) (i k : Nat) (v : Int) (hv : v = (L (x.take (i + 1)) (y.take (k + 1)) : Int)) : (lmid x y i k).set (k + 1) v = lmid x y i (k + 1) := by
  unfold lmid
  rw [tab_set]
  refine tab_same (fun j hj => ?_)
  by_cases h : j = k + 1
  · subst h
    rw [if_pos rfl, if_pos (Nat.le_refl _), hv]
  · rw [if_neg h]
    by_cases h2 : j ≤ k
    · rw [if_pos h2, if_pos (by omega)]
    · rw [if_neg h2, if_neg (by omega)]
theorem lcs1_ev {x y : List ByteArray} (hx : x.length ≤ 1000000) (hy : y.length ≤ 1000000) (i : Nat) (hi : i < x.length) (r : Int) : ∀ (d k : Nat), k ≤ y.length → y.length - k = d →
    Ev (fun K => impl_lcs.l0 K y (lrow x y (i + 1)) x x.length ((i + 1 : Nat) : Int)) r → Ev (fun K => impl_lcs.l1 K y (lmid x y i k) x[i] (L (x.take i) (y.take k)) x x.length i y y.length k) r
  | 0, k, hk, hd, H => by
    obtain rfl : k = y.length := by omega
    refine Ev.step' ?_
    simp only [impl_lcs.l1]
    rw [w64_succ i (by omega), lmid_last]
    exact Ev.negf (by omega) H
  | d + 1, k, hk, hd, H => by
    have ih := lcs1_ev hx hy i hi r d (k + 1) (by omega) (by omega) H
    have hkl : k < y.length := by omega
    have hL := L_take_le x y i k
    refine Ev.step' ?_
    simp only [impl_lcs.l1]
    rw [w64_succ k (by omega)]
    have hlen : ((lmid x y i k).length : Int) = (y.length : Int) + 1 := by unfold lmid; rw [tab_len]; omega
    have hr1 : rd (lmid x y i k) ((k + 1 : Nat) : Int) = (L (x.take i) (y.take (k + 1)) : Int) := by
      unfold lmid; rw [tab_rd (by omega), if_neg (by omega)]
    have hr0 : rd (lmid x y i k) (k : Int) = (L (x.take (i + 1)) (y.take k) : Int) := by
      unfold lmid; rw [tab_rd (by omega), if_pos (Nat.le_refl _)]
    rw [rdAt hkl, hr1, hr0, hlen]
    refine Ev.posf (by omega) (Ev.posf (by omega) (Ev.posf (by omega) (Ev.posf (by omega) (Ev.posf (by omega) ?_))))
    by_cases c : x[i].toList = y[k].toList
    · refine Ev.posf c ?_
      rw [w64 (by omega) (by omega), Int.toNat_natCast, lmid_step x y i k _ (by rw [take_at hi, take_at hkl, bstr.mp c, L_snoc_same]; omega)]
      exact ih
    · refine Ev.negf c (Ev.posf (by omega) ?_)
      rw [Int.toNat_natCast, lmid_step x y i k _ (by
        have e1 := L_snoc_diff (fun e => c (bstr.mpr e)) (x.take i) (y.take k)
        rw [← take_at hi, ← take_at hkl] at e1
        rw [e1]; unfold mx; split <;> omega)]
      exact ih
theorem lcs0_ev {x y : List ByteArray} (hx : x.length ≤ 1000000) (hy : y.length ≤ 1000000) : ∀ (d i : Nat), i ≤ x.length → x.length - i = d → Ev (fun K => impl_lcs.l0 K y (lrow x y i) x x.length i) (L x y : Int)
  | 0, i, hi, hd => by
    obtain rfl : i = x.length := by omega
    refine Ev.step' ?_
    simp only [impl_lcs.l0]
    have hlen : ((lrow x y x.length).length : Int) = (y.length : Int) + 1 := by unfold lrow; rw [tab_len]; omega
    rw [hlen]
    refine Ev.negf (by omega) (Ev.posf (by omega) (Ev.posf (by omega) (EvT (Ev.now _) ?_)))
    unfold lrow
    rw [tab_rd (by omega), List.take_length, List.take_length]
  | d + 1, i, hi, hd => by
    have ih := lcs0_ev hx hy d (i + 1) (by omega) (by omega)
    have hil : i < x.length := by omega
    have h1 := lcs1_ev hx hy i hil _ _ 0 (Nat.zero_le _) rfl ih
    refine Ev.step' ?_
    simp only [impl_lcs.l0]
    rw [rdAt hil]
    refine Ev.posf (by omega) (Ev.posf (by omega) (Ev.posf (by omega) ?_))
    rw [lmid_first, List.take_zero, L_nil_right] at h1
    exact h1
theorem lcs_ev {x y : List ByteArray} (hx : x.length ≤ 1000000) (hy : y.length ≤ 1000000) : Ev (fun k => impl_lcs.f k x y) (L x y : Int) := by
  unfold impl_lcs.f
  rw [w64_succ _ (by omega)]
  refine Ev.posf (by omega) (Ev.posf (by omega) ?_)
  have h := lcs0_ev hx hy _ 0 (Nat.zero_le _) rfl
  have e : List.replicate (((y.length + 1 : Nat) : Int)).toNat (0 : Int) = lrow x y 0 := by
    rw [Int.toNat_natCast, tab_const]
    exact tab_same (fun j hj => by rw [List.take_zero, L_nil_left]; rfl)
  rw [e]
  exact h
/-- The program's match, from line i of the first text and line j of the second one on. -/
theorem match0_ev {a b : List ByteArray} (ha : a.length ≤ 1000000) (hb : b.length ≤ 1000000) : ∀ (d i j : Nat) (out : List Int), i ≤ a.length → j ≤ b.length → (a.length - i) + (b.length - j) ≤ d → out.length ≤ i →
    Ev (fun K => impl_match.l0 K a b out j i) (out ++ mtc (a.drop i) (b.drop j) j)
  | d, i, j, out, hi, hj, hd, ho => by
    by_cases hia : i < a.length
    case neg =>
      refine Ev.step' ?_
      simp only [impl_match.l0]
      rw [List.drop_eq_nil_of_le (by omega : a.length ≤ i), mtc, List.append_nil]
      exact Ev.negf (by omega) (Ev.now _)
    case pos =>
    obtain ⟨d, rfl⟩ : ∃ e, d = e + 1 := ⟨d - 1, by omega⟩
    have w1 := w64_succ i (by omega)
    have w2 := w64_succ j (by omega)
    have hnone : Ev (fun K => impl_match.l0 K a b (out ++ [(-1)]) j ((i + 1 : Nat) : Int)) (out ++ (-1 :: mtc (a.drop (i + 1)) (b.drop j) j)) := by
      have h := match0_ev ha hb d (i + 1) j (out ++ [(-1)]) (by omega) hj (by omega) (by simp; omega)
      rwa [List.append_assoc, List.singleton_append] at h
    refine Ev.step' ?_
    simp only [impl_match.l0]
    refine Ev.posf (by omega) ?_
    by_cases hjb : j < b.length
    · refine Ev.posf (by omega) (Ev.posf (by omega) (Ev.posf (by omega) (Ev.step' ?_)))
      simp only [impl_match.j1]
      rw [rdAt hia, rdAt hjb, w1, w2]
      by_cases c : a[i].toList = b[j].toList
      · have c2 := bstr.mp c
        refine Ev.posf (by simpa using c) (Ev.posf (by omega) ?_)
        have h := match0_ev ha hb d (i + 1) (j + 1) (out ++ [(j : Int)]) (by omega) (by omega) (by omega) (by simp; omega)
        rw [drop_at hia, drop_at hjb, mtc, if_pos c2]
        rwa [List.append_assoc, List.singleton_append] at h
      · have c2 : ¬ a[i] = b[j] := fun e => c (bstr.mpr e)
        refine Ev.negf (by simpa using c) (Ev.negf (by omega) (Ev.posf (by omega) (Ev.posf (by omega) (Ev.posf (by omega) (Ev.posf (by omega) ?_)))))
        refine Ev.bind (lcs_ev (by simp; omega) (by simp; omega)) (Ev.posf (by omega) (Ev.posf (by omega) (Ev.posf (by omega) (Ev.posf (by omega) (Ev.bind (lcs_ev (by simp; omega) (by simp; omega)) ?_)))))
        simp only [Int.toNat_natCast]
        by_cases g : L (a.drop i) (b.drop (j + 1)) ≤ L (a.drop (i + 1)) (b.drop j)
        · refine Ev.posf (by omega) (Ev.posf (by omega) ?_)
          rw [drop_at hia, drop_at hjb] at g ⊢
          rw [mtc, if_neg c2, if_pos g, ← drop_at hjb]
          exact hnone
        · refine Ev.negf (by omega) ?_
          have h := match0_ev ha hb d i (j + 1) out (by omega) (by omega) (by omega) ho
          rw [drop_at hia, drop_at hjb] at g ⊢
          rw [mtc, if_neg c2, if_neg g, ← drop_at hia]
          exact h
    · refine Ev.negf (by omega) (Ev.step' ?_)
      simp only [impl_match.j1]
      rw [w1]
      refine Ev.negf (by decide) (Ev.posf (by omega) (Ev.posf (by omega) ?_))
      rw [drop_at hia, List.drop_eq_nil_of_le (by omega : b.length ≤ j), mtc]
      rw [List.drop_eq_nil_of_le (by omega : b.length ≤ j)] at hnone
      exact hnone
termination_by d => d
theorem match_ev {a b : List ByteArray} (ha : a.length ≤ 1000000) (hb : b.length ≤ 1000000) : Ev (fun K => impl_match.f K a b) (mtc a b 0) := by
  have h := match0_ev ha hb _ 0 0 [] (Nat.zero_le _) (Nat.zero_le _) (Nat.le_refl _) (by simp)
  unfold impl_match.f
  exact h
end Go.Proofs.Ytfpdkeolecmepaa.Q
end
section
namespace Go.Proofs.Ytfpdkeolecmepaa.Q
open Go.RowKit Go.Proofs.YtfpdkeolecmepaaW.PrintWords Go.Proofs.YtfpdkeolecmepaaW.PrintMore
set_option linter.unusedVariables false
set_option linter.unusedSimpArgs false
/-- The table while it is filled: the rows from p on, and the row ahead of them from place q on. -/
def tb (a b : List ByteArray) (p q : Nat) : List (List Int) := tab (a.length + 1) (fun i => tab (b.length + 1) (fun j => if p ≤ i ∨ (i + 1 = p ∧ q ≤ j) then (L (a.drop i) (b.drop j) : Int) else 0))
theorem L_end_left (a b : List ByteArray) (i j : Nat) (h : a.length ≤ i) : L (a.drop i) (b.drop j) = 0 := by rw [List.drop_eq_nil_of_le h, L_nil_left]
theorem L_end_right (a b : List ByteArray) (i j : Nat) (h : b.length ≤ j) : L (a.drop i) (b.drop j) = 0 := by rw [List.drop_eq_nil_of_le h, L_nil_right]
theorem tb_rd {a b : List ByteArray} {p q i j : Nat} (hi : i ≤ a.length) (hj : j ≤ b.length) (h : p ≤ i ∨ (i + 1 = p ∧ q ≤ j)) : rd (rd_L7 (tb a b p q) (i : Int)) (j : Int) = (L (a.drop i) (b.drop j) : Int) := by
  unfold tb
  rw [tab_rdL (by omega), tab_rd (by omega), if_pos h]
theorem tb_len (a b : List ByteArray) (p q : Nat) : (tb a b p q).length = a.length + 1 := tab_len _ _
theorem tb_rlen {a b : List ByteArray} {p q i : Nat} (hi : i ≤ a.length) : (rd_L7 (tb a b p q) (i : Int)).length = b.length + 1 := by
  unfold tb
  rw [tab_rdL (by omega), tab_len]
theorem tb_first (a b : List ByteArray) : List.replicate (a.length + 1) (List.replicate (b.length + 1) (0 : Int)) = tb a b a.length b.length := by
  unfold tb
  rw [tab_const, tab_const]
  refine tab_same (fun i hi => tab_same (fun j hj => ?_))
  split
  · rename_i h
    rcases h with h | h
    · rw [L_end_left _ _ _ _ h]; rfl
    · rw [L_end_right _ _ _ _ h.2]; rfl
  · rfl
theorem tb_next (a b : List ByteArray) (p : Nat) : tb a b (p + 1) 0 = tb a b p b.length := by
  unfold tb
  refine tab_same (fun i hi => tab_same (fun j hj => ?_))
  by_cases h : p ≤ i
  · rw [if_pos (by omega), if_pos (.inl h)]
  · rw [if_neg (by omega)]
    split
    · rename_i h2
      rcases h2 with h2 | h2
      · exact absurd h2 h
      · rw [L_end_right _ _ _ _ h2.2]; rfl
    · rfl
theorem tb_set {a b : List ByteArray} {p q : Nat} (hp : p ≤ a.length) (v : Int) (hv : v = (L (a.drop p) (b.drop q) : Int)) : (tb a b (p + 1) (q + 1)).set p ((rd_L7 (tb a b (p + 1) (q + 1)) (p : Int)).set q v) = tb a b (p + 1) q := by
  have e : rd_L7 (tb a b (p + 1) (q + 1)) (p : Int) = tab (b.length + 1) (fun j => if p + 1 ≤ p ∨ (p + 1 = p + 1 ∧ q + 1 ≤ j) then (L (a.drop p) (b.drop j) : Int) else 0) := by
    unfold tb
    rw [tab_rdL (by omega)]
  rw [e, tab_set]
  unfold tb
  rw [tab_set]
  refine tab_same (fun i hi => ?_)
  by_cases h : i = p
  · subst h
    rw [if_pos rfl]
    refine tab_same (fun j hj => ?_)
    by_cases g : j = q
    · subst g
      rw [if_pos rfl, if_pos (by omega), hv]
    · rw [if_neg g]
      by_cases g2 : q ≤ j
      · rw [if_pos (by omega), if_pos (by omega)]
      · rw [if_neg (by omega), if_neg (by omega)]
  · rw [if_neg h]
    refine tab_same (fun j hj => ?_)
    by_cases g : p + 1 ≤ i
    · rw [if_pos (.inl g), if_pos (.inl g)]
    · rw [if_neg (by omega), if_neg (by omega)]
theorem tbl2_ev {a b : List ByteArray} (ha : a.length ≤ 1000000) (hb : b.length ≤ 1000000) (p : Nat) (hp : p < a.length) (r : List (List Int)) (H : Ev (fun K => spec_l1Table.l1 K a b (tb a b (p + 1) 0) ((p : Int) - 1)) r) : ∀ q : Nat, q ≤ b.length →
    Ev (fun K => spec_l1Table.l2 K a b (tb a b (p + 1) q) p ((q : Int) - 1)) r
  | 0, hq => by
    refine Ev.step' ?_
    simp only [spec_l1Table.l2]
    rw [w64 (x := (p : Int) - 1) (by omega) (by omega)]
    exact Ev.negf (by omega) H
  | q + 1, hq => by
    have ih := tbl2_ev ha hb p hp r H q (by omega)
    have hqb : q < b.length := by omega
    refine Ev.step' ?_
    simp only [spec_l1Table.l2]
    have e0 : ((q + 1 : Nat) : Int) - 1 = (q : Int) := by omega
    rw [e0, w64_succ p (by omega), w64_succ q (by omega), w64 (x := (q : Int) - 1) (by omega) (by omega), rdAt hp, rdAt hqb, tb_len, tb_rlen (i := p) (by omega), tb_rlen (i := p + 1) (by omega), tb_rd (i := p + 1) (j := q + 1) (by omega) (by omega) (.inl (Nat.le_refl _)),
      tb_rd (i := p + 1) (j := q) (by omega) (by omega) (.inl (Nat.le_refl _)), tb_rd (i := p) (j := q + 1) (by omega) (by omega) (.inr ⟨rfl, Nat.le_refl _⟩)]
    have hL := L_drop_le a b (p + 1) (q + 1)
    refine Ev.posf (by omega) (Ev.posf (by omega) (Ev.posf (by omega) (Ev.posf (by omega) (Ev.posf (by omega) ?_))))
    simp only [Int.toNat_natCast]
    by_cases c : a[p].toList = b[q].toList
    · refine Ev.posf c (Ev.posf (by omega) (Ev.posf (by omega) (Ev.posf (by omega) (Ev.posf (by omega) (Ev.posf (by omega) (Ev.posf (by omega) ?_))))))
      rw [w64 (by omega) (by omega), tb_set (by omega) _ (by rw [drop_at hp, drop_at hqb, bstr.mp c, L_same]; omega)]
      exact ih
    · have e1 := L_diff (fun e => c (bstr.mpr e)) (a.drop (p + 1)) (b.drop (q + 1))
      rw [← drop_at hp, ← drop_at hqb] at e1
      refine Ev.negf c (Ev.posf (by omega) (Ev.posf (by omega) (Ev.posf (by omega) (Ev.posf (by omega) (Ev.posf (by omega) (Ev.posf (by omega) ?_))))))
      by_cases g : L (a.drop p) (b.drop (q + 1)) ≤ L (a.drop (p + 1)) (b.drop q)
      · refine Ev.posf (by omega) (Ev.posf (by omega) ?_)
        rw [tb_set (by omega) _ (by rw [e1]; omega)]
        exact ih
      · refine Ev.negf (by omega) (Ev.posf (by omega) ?_)
        rw [tb_set (by omega) _ (by rw [e1]; omega)]
        exact ih
theorem tbl1_ev {a b : List ByteArray} (ha : a.length ≤ 1000000) (hb : b.length ≤ 1000000) : ∀ p : Nat, p ≤ a.length → Ev (fun K => spec_l1Table.l1 K a b (tb a b p b.length) ((p : Int) - 1)) (tb a b 0 b.length)
  | 0, hp => by
    refine Ev.step' ?_
    simp only [spec_l1Table.l1]
    exact Ev.negf (by omega) (Ev.now _)
  | p + 1, hp => by
    have ih := tbl1_ev ha hb p (by omega)
    rw [← tb_next] at ih
    have h := tbl2_ev ha hb p (by omega) _ ih b.length (Nat.le_refl _)
    refine Ev.step' ?_
    simp only [spec_l1Table.l1]
    have e0 : ((p + 1 : Nat) : Int) - 1 = (p : Int) := by omega
    rw [e0, w64 (x := (b.length : Int) - 1) (by omega) (by omega)]
    exact Ev.posf (by omega) h
theorem tbl0_ev {a b : List ByteArray} (ha : a.length ≤ 1000000) (hb : b.length ≤ 1000000) : ∀ (d i : Nat), i ≤ a.length + 1 → a.length + 1 - i = d → Ev (fun K => spec_l1Table.l0 K a b (List.replicate i (List.replicate (b.length + 1) (0 : Int))) i) (tb a b 0 b.length)
  | 0, i, hi, hd => by
    obtain rfl : i = a.length + 1 := by omega
    refine Ev.step' ?_
    simp only [spec_l1Table.l0]
    rw [tb_first, w64 (x := (a.length : Int) - 1) (by omega) (by omega)]
    exact Ev.negf (by omega) (tbl1_ev ha hb a.length (Nat.le_refl _))
  | d + 1, i, hi, hd => by
    have ih := tbl0_ev ha hb d (i + 1) (by omega) (by omega)
    refine Ev.step' ?_
    simp only [spec_l1Table.l0]
    rw [w64_succ i (by omega), w64_succ b.length (by omega), List.length_replicate, Int.toNat_natCast]
    refine Ev.posf (by omega) (Ev.posf (by omega) (Ev.posf (by omega) (Ev.posf (by omega) ?_)))
    rw [List.replicate_succ'] at ih
    exact ih
theorem tbl_ev {a b : List ByteArray} (ha : a.length ≤ 1000000) (hb : b.length ≤ 1000000) : Ev (fun K => spec_l1Table.f K a b) (tb a b 0 b.length) := by
  have h := tbl0_ev ha hb _ 0 (Nat.zero_le _) rfl
  unfold spec_l1Table.f
  exact h
/-- The reference's match, from line i of the first text and line j of the second one on. -/
theorem smatch0_ev {a b : List ByteArray} (ha : a.length ≤ 1000000) (hb : b.length ≤ 1000000) : ∀ (d i j : Nat) (out : List Int), i ≤ a.length → j ≤ b.length → (a.length - i) + (b.length - j) ≤ d → out.length ≤ i →
    Ev (fun K => spec_l1Match.l0 K a b (tb a b 0 b.length) out j i) (out ++ mtc (a.drop i) (b.drop j) j)
  | d, i, j, out, hi, hj, hd, ho => by
    by_cases hia : i < a.length
    case neg =>
      refine Ev.step' ?_
      simp only [spec_l1Match.l0]
      rw [List.drop_eq_nil_of_le (by omega : a.length ≤ i), mtc, List.append_nil]
      exact Ev.negf (by omega) (Ev.now _)
    case pos =>
    obtain ⟨d, rfl⟩ : ∃ e, d = e + 1 := ⟨d - 1, by omega⟩
    have w1 := w64_succ i (by omega)
    have w2 := w64_succ j (by omega)
    have hnone : Ev (fun K => spec_l1Match.l0 K a b (tb a b 0 b.length) (out ++ [(-1)]) j ((i + 1 : Nat) : Int)) (out ++ (-1 :: mtc (a.drop (i + 1)) (b.drop j) j)) := by
      have h := smatch0_ev ha hb d (i + 1) j (out ++ [(-1)]) (by omega) hj (by omega) (by simp; omega)
      rwa [List.append_assoc, List.singleton_append] at h
    refine Ev.step' ?_
    simp only [spec_l1Match.l0]
    refine Ev.posf (by omega) ?_
    by_cases hjb : j < b.length
    · refine Ev.posf (by omega) (Ev.posf (by omega) (Ev.posf (by omega) (Ev.step' ?_)))
      simp only [spec_l1Match.j1]
      rw [rdAt hia, rdAt hjb, w1, w2]
      by_cases c : a[i].toList = b[j].toList
      · have c2 := bstr.mp c
        refine Ev.posf (by simpa using c) (Ev.posf (by omega) ?_)
        have h := smatch0_ev ha hb d (i + 1) (j + 1) (out ++ [(j : Int)]) (by omega) (by omega) (by omega) (by simp; omega)
        rw [drop_at hia, drop_at hjb, mtc, if_pos c2]
        rwa [List.append_assoc, List.singleton_append] at h
      · have c2 : ¬ a[i] = b[j] := fun e => c (bstr.mpr e)
        rw [tb_len, tb_rlen (i := i) (by omega), tb_rlen (i := i + 1) (by omega), tb_rd (i := i + 1) (j := j) (by omega) (by omega) (.inl (Nat.zero_le _)), tb_rd (i := i) (j := j + 1) (by omega) (by omega) (.inl (Nat.zero_le _))]
        refine Ev.negf (by simpa using c) (Ev.negf (by omega) (Ev.posf (by omega) (Ev.posf (by omega) (Ev.posf (by omega) (Ev.posf (by omega) (Ev.posf (by omega) (Ev.posf (by omega) (Ev.posf (by omega) (Ev.posf (by omega) ?_)))))))))
        by_cases g : L (a.drop i) (b.drop (j + 1)) ≤ L (a.drop (i + 1)) (b.drop j)
        · refine Ev.posf (by omega) (Ev.posf (by omega) ?_)
          rw [drop_at hia, drop_at hjb] at g ⊢
          rw [mtc, if_neg c2, if_pos g, ← drop_at hjb]
          exact hnone
        · refine Ev.negf (by omega) ?_
          have h := smatch0_ev ha hb d i (j + 1) out (by omega) (by omega) (by omega) ho
          rw [drop_at hia, drop_at hjb] at g ⊢
          rw [mtc, if_neg c2, if_neg g, ← drop_at hia]
          exact h
    · refine Ev.negf (by omega) (Ev.step' ?_)
      simp only [spec_l1Match.j1]
      rw [w1]
      refine Ev.negf (by decide) (Ev.posf (by omega) (Ev.posf (by omega) ?_))
      rw [drop_at hia, List.drop_eq_nil_of_le (by omega : b.length ≤ j), mtc]
      rw [List.drop_eq_nil_of_le (by omega : b.length ≤ j)] at hnone
      exact hnone
termination_by d => d
theorem smatch_ev {a b : List ByteArray} (ha : a.length ≤ 1000000) (hb : b.length ≤ 1000000) : Ev (fun K => spec_l1Match.f K a b) (mtc a b 0) := by
  have h := smatch0_ev ha hb _ 0 0 [] (Nat.zero_le _) (Nat.zero_le _) (Nat.le_refl _) (by simp)
  unfold spec_l1Match.f
  exact Ev.bind (tbl_ev ha hb) h
end Go.Proofs.Ytfpdkeolecmepaa.Q
end
section
namespace Go.Proofs.Ytfpdkeolecmepaa.Q
open Go.RowKit Go.Proofs.YtfpdkeolecmepaaW.PrintWords
set_option linter.unusedVariables false
set_option linter.unusedSimpArgs false
/-- A code: not long, of bytes. -/
def Code (b : List Int) : Prop := b.length ≤ 2000 ∧ ∀ x ∈ b, 0 ≤ x ∧ x ≤ 255
theorem Code.rd {b : List Int} (h : Code b) (i : Int) : 0 ≤ rd b i ∧ rd b i ≤ 255 := by
  show 0 ≤ b.getD i.toNat 0 ∧ b.getD i.toNat 0 ≤ 255
  rw [List.getD_eq_getElem?_getD]
  by_cases hi : i.toNat < b.length
  · simp [hi]
    exact h.2 _ (List.getElem_mem hi)
  · simp [hi]
/-- A place in a code that is far from the end of the numbers. -/
def Pl (p : Int) : Prop := 0 ≤ p ∧ p ≤ 1000000000
theorem tmod_in {x n : Int} (hx : 0 ≤ x) (hn : 1 ≤ n) : 0 ≤ Int.tmod x n ∧ Int.tmod x n < n := by
  rw [Int.tmod_eq_emod_of_nonneg hx]
  exact ⟨Int.emod_nonneg _ (by omega), Int.emod_lt_of_pos _ (by omega)⟩
theorem pick_ev {b : List Int} (hb : Code b) {p : Int} (hp : Pl p) {n : Int} (hn : n ≤ 1000000) :
    ∃ v, Ev (fun k => spec_l30Rd_pick.f k b p n) (v, p + 1) ∧ 0 ≤ v ∧ (1 ≤ n → v < n) := by
  have e1 : wrap64 (p + 1) = p + 1 := w64 (by have := hp.1; omega) (by have := hp.2; omega)
  have e2 : wrap64 (p + 1 - 1) = p := by rw [show p + 1 - 1 = p by omega]; exact w64 (by have := hp.1; omega) (by have := hp.2; omega)
  by_cases h1 : n < 1
  · refine ⟨0, ⟨1, fun k hk => ?_⟩, by omega, by omega⟩
    obtain ⟨m, rfl⟩ : ∃ m, k = m + 1 := ⟨k - 1, by omega⟩
    simp only [spec_l30Rd_pick.f]
    rw [if_pos h1]
    simp only [spec_l30Rd_pick.j0]
    rw [if_pos trivial, e1]
  · by_cases h2 : (b.length : Int) = 0
    · refine ⟨0, ⟨1, fun k hk => ?_⟩, by omega, by omega⟩
      obtain ⟨m, rfl⟩ : ∃ m, k = m + 1 := ⟨k - 1, by omega⟩
      simp only [spec_l30Rd_pick.f]
      rw [if_neg h1]
      simp only [spec_l30Rd_pick.j0]
      rw [if_pos (by simpa using h2), e1]
    · have hL1 : 1 ≤ (b.length : Int) := by omega
      have hL2 : (b.length : Int) ≤ 2000 := by have := hb.1; omega
      have e3 : wrap64 (p * 7) = p * 7 := w64 (by have := hp.1; omega) (by have := hp.2; omega)
      have e4 : wrap64 (p * 7 + 3) = p * 7 + 3 := w64 (by have := hp.1; omega) (by have := hp.2; omega)
      have m1 := tmod_in hp.1 hL1
      have m2 := tmod_in (x := p * 7 + 3) (by have := hp.1; omega) hL1
      by_cases h3 : p < (b.length : Int)
      · have hA := hb.rd p
        have e5 : wrap64 (rd b p) = rd b p := w64 (by omega) (by omega)
        have m3 := tmod_in hA.1 (n := n) (by omega)
        refine ⟨Int.tmod (rd b p) n, ⟨1, fun k hk => ?_⟩, m3.1, fun _ => m3.2⟩
        obtain ⟨m, rfl⟩ : ∃ m, k = m + 1 := ⟨k - 1, by omega⟩
        simp only [spec_l30Rd_pick.f]
        rw [if_neg h1]
        simp only [spec_l30Rd_pick.j0]
        rw [if_neg (by simpa using h2), e1, e2, if_pos h3, if_pos hp.1, if_neg (by omega), e5]
      · have hA := hb.rd (Int.tmod p b.length)
        have hB := hb.rd (Int.tmod (p * 7 + 3) b.length)
        have f1 : wrap64 (rd b (Int.tmod p b.length)) = rd b (Int.tmod p b.length) := w64 (by omega) (by omega)
        have f2 : wrap64 (rd b (Int.tmod (p * 7 + 3) b.length)) = rd b (Int.tmod (p * 7 + 3) b.length) := w64 (by omega) (by omega)
        have hD : 0 ≤ Int.tdiv p b.length ∧ Int.tdiv p b.length ≤ 1000000000 := by
          rw [Int.tdiv_eq_ediv_of_nonneg hp.1]
          exact ⟨Int.ediv_nonneg hp.1 (by omega), Int.le_trans (Int.ediv_le_self _ hp.1) hp.2⟩
        have g1 : wrap64 (rd b (Int.tmod p b.length) * 131) = rd b (Int.tmod p b.length) * 131 := w64 (by omega) (by omega)
        have g2 : wrap64 (rd b (Int.tmod (p * 7 + 3) b.length) * 1117) = rd b (Int.tmod (p * 7 + 3) b.length) * 1117 := w64 (by omega) (by omega)
        have g3 : wrap64 (p * 29) = p * 29 := w64 (by have := hp.1; omega) (by have := hp.2; omega)
        have g4 : wrap64 (Int.tdiv p b.length) = Int.tdiv p b.length := w64 (by omega) (by omega)
        have g5 : wrap64 (Int.tdiv p b.length * 53) = Int.tdiv p b.length * 53 := w64 (by omega) (by omega)
        have g6 : wrap64 (rd b (Int.tmod p b.length) * 131 + rd b (Int.tmod (p * 7 + 3) b.length) * 1117) = rd b (Int.tmod p b.length) * 131 + rd b (Int.tmod (p * 7 + 3) b.length) * 1117 := w64 (by omega) (by omega)
        have g7 : wrap64 (rd b (Int.tmod p b.length) * 131 + rd b (Int.tmod (p * 7 + 3) b.length) * 1117 + p * 29) = rd b (Int.tmod p b.length) * 131 + rd b (Int.tmod (p * 7 + 3) b.length) * 1117 + p * 29 := w64 (by have := hp.1; omega) (by have := hp.2; omega)
        obtain ⟨X, hX⟩ : ∃ X, X = rd b (Int.tmod p b.length) * 131 + rd b (Int.tmod (p * 7 + 3) b.length) * 1117 + p * 29 + Int.tdiv p b.length * 53 := ⟨_, rfl⟩
        have hX0 : 0 ≤ X ∧ X ≤ 1000000000000 := by have := hp.1; have := hp.2; omega
        have hY : 0 ≤ Int.tdiv X 64 ∧ Int.tdiv X 64 ≤ 1000000000000 := by
          rw [Int.tdiv_eq_ediv_of_nonneg hX0.1]
          omega
        have g8 : wrap64 X = X := w64 (by omega) (by omega)
        have g9 : wrap64 (Int.tdiv X 64) = Int.tdiv X 64 := w64 (by omega) (by omega)
        have hx := xor_nn hX0.1 hY.1 (by omega) (by omega)
        have m3 := tmod_in hx.1 (n := n) (by omega)
        refine ⟨Int.tmod (Go.bits .xor .i64 X (Int.tdiv X 64)) n, ⟨1, fun k hk => ?_⟩, m3.1, fun _ => m3.2⟩
        obtain ⟨m, rfl⟩ : ∃ m, k = m + 1 := ⟨k - 1, by omega⟩
        simp only [spec_l30Rd_pick.f]
        rw [if_neg h1]
        simp only [spec_l30Rd_pick.j0]
        rw [if_neg (by simpa using h2)]
        simp only [e1, e2, e3, e4, f1, f2, g1, g2, g3, g4, g5, g6, g7, g8, ← hX, g9]
        rw [if_neg h3, if_neg h2, if_pos m1.1, if_pos m1.2, if_pos m2.1, if_pos m2.2, if_neg (by omega)]
theorem of_ev {b : List Int} (hb : Code b) {p : Int} (hp : Pl p) {l : List ByteArray} (h0 : 0 < l.length) (hn : l.length ≤ 1000000) :
    ∃ s, Ev (fun k => spec_l30Rd_of.f k b p l) (s, p + 1) ∧ s ∈ l := by
  obtain ⟨v, hv, h1, h2⟩ := pick_ev hb hp (n := l.length) (by omega)
  obtain ⟨i, rfl⟩ := toNat_of h1
  have hi : i < l.length := by omega
  refine ⟨l[i], ?_, List.getElem_mem hi⟩
  unfold spec_l30Rd_of.f
  refine Ev.bind hv ?_
  refine Ev.posf h1 (Ev.posf (by show ((i : Int)) < _; omega) ?_)
  rw [rdAt hi]
  exact Ev.now _
theorem one_ev {b : List Int} (hb : Code b) {p : Int} (hp : Pl p) {l : List Int} (h0 : 0 < l.length) (hn : l.length ≤ 1000000) :
    ∃ s, Ev (fun k => spec_l30Rd_one.f k b p l) (s, p + 1) ∧ s ∈ l := by
  obtain ⟨v, hv, h1, h2⟩ := pick_ev hb hp (n := l.length) (by omega)
  obtain ⟨i, rfl⟩ := toNat_of h1
  have hi : i < l.length := by omega
  refine ⟨l[i], ?_, List.getElem_mem hi⟩
  unfold spec_l30Rd_one.f
  refine Ev.bind hv ?_
  refine Ev.posf h1 (Ev.posf (by show ((i : Int)) < _; omega) ?_)
  rw [rdI hi]
  exact Ev.now _
theorem line_ev {b : List Int} (hb : Code b) {p : Int} (hp : Pl p) : ∃ s, Ev (fun k => spec_l30Line.f k b p) (s, p + 1) ∧ s.size ≤ 100 := by
  unfold spec_l30Line.f
  obtain ⟨s, hs, hm⟩ := of_ev hb hp (l := [⟨#[97]⟩, ⟨#[98]⟩, ⟨#[99]⟩, ⟨#[100]⟩, ⟨#[]⟩, ⟨#[120, 32, 121]⟩, ⟨#[115, 101, 101, 32, 97]⟩, ⟨#[115, 101, 101, 32, 100, 47, 101]⟩, ⟨#[101, 110, 100]⟩]) (by simp) (by simp)
  refine ⟨s, Ev.bind hs (Ev.now _), ?_⟩
  simp only [List.mem_cons, List.not_mem_nil, or_false] at hm
  rcases hm with rfl | rfl | rfl | rfl | rfl | rfl | rfl | rfl | rfl <;> decide
theorem Pl.add {p : Int} (h : 0 ≤ p ∧ p ≤ 1000000) {c : Int} (h0 : 0 ≤ c) (h1 : c ≤ 1000000) : Pl (p + c) := ⟨by omega, by omega⟩
theorem text0_ev {b : List Int} (hb : Code b) : ∀ (d : Nat) (out : List ByteArray) (p : Int), 0 ≤ p → p + d ≤ 1000000000 → out.length + d ≤ 1000000 → Sz out →
    ∃ r, Ev (fun k => spec_l30Text.l0 k out d b p) (r, p + d) ∧ r.length = out.length + d ∧ Sz r
  | 0, out, p, h0, h1, h2, hz => by
    refine ⟨out, ⟨1, fun k hk => ?_⟩, rfl, hz⟩
    obtain ⟨m, rfl⟩ : ∃ m, k = m + 1 := ⟨k - 1, by omega⟩
    simp [spec_l30Text.l0]
  | d + 1, out, p, h0, h1, h2, hz => by
    obtain ⟨s, hs, hs1⟩ := line_ev hb (p := p) ⟨h0, by omega⟩
    obtain ⟨r, hr, hl, hz2⟩ := text0_ev hb d (out ++ [s]) (p + 1) (by omega) (by omega) (by simp; omega) (hz.app (Sz.one hs1))
    refine ⟨r, ?_, by rw [hl]; simp; omega, hz2⟩
    refine Ev.step (f := fun k => if (((d + 1 : Nat) : Int)) > 0 then ((spec_l30Line.f k b p).bind fun bt237 => (if out.length < 8796093022208 then (spec_l30Text.l0 k (out ++ [bt237.1]) (wrap64 ((((d + 1 : Nat) : Int)) - 1)) b bt237.2) else (none))) else (some (out, p))) (fun k => rfl) ?_
    refine Ev.posf (by omega) (Ev.bind hs (Ev.posf (by omega) ?_))
    rw [show wrap64 (((d + 1 : Nat) : Int) - 1) = (d : Int) by rw [w64 (by omega) (by omega)]; omega]
    exact EvT hr (by rw [show p + 1 + (d : Int) = p + ((d + 1 : Nat) : Int) by omega])
theorem text_ev {b : List Int} (hb : Code b) {p : Int} (h0 : 0 ≤ p) (h1 : p ≤ 1000000) : ∃ r q, Ev (fun k => spec_l30Text.f k b p) (r, q) ∧ r.length ≤ 8 ∧ Sz r ∧ p ≤ q ∧ q ≤ p + 9 := by
  obtain ⟨v, hv, hm⟩ := one_ev hb (p := p) ⟨h0, by omega⟩ (l := [0, 1, 3, 5, 8]) (by simp) (by simp)
  have hv8 : 0 ≤ v ∧ v ≤ 8 := by simp at hm; omega
  obtain ⟨d, rfl⟩ := toNat_of hv8.1
  obtain ⟨r, hr, hl, hz⟩ := text0_ev hb d [] (p + 1) (by omega) (by omega) (by simp; omega) Sz.nil
  refine ⟨r, p + 1 + d, ?_, by rw [hl]; simp; omega, hz, ?_, ?_⟩
  · unfold spec_l30Text.f
    exact Ev.bind hv hr
  · omega
  · omega
theorem anyText_ev {b : List Int} (hb : Code b) {p : Int} (h0 : 0 ≤ p) (h1 : p ≤ 1000000) : ∃ r q, Ev (fun k => spec_l30AnyText.f k b p) (r, q) ∧ r.length ≤ 18 ∧ Sz r ∧ p ≤ q ∧ q ≤ p + 11 := by
  obtain ⟨t, q, ht, hl, hz, hq1, hq2⟩ := text_ev hb h0 h1
  obtain ⟨v, hv, hv0, hv1⟩ := pick_ev hb (p := q) ⟨by omega, by omega⟩ (n := 16) (by omega)
  unfold spec_l30AnyText.f
  by_cases c0 : v = 0
  · obtain ⟨s, hs, hm⟩ := of_ev hb (p := q + 1) ⟨by omega, by omega⟩ (l := [⟨#[97, 32, 108, 105, 110, 101, 32, 116, 111, 111, 32, 108, 111, 110, 103]⟩, ⟨#[120, 10, 121]⟩, ⟨#[255]⟩]) (by simp) (by simp)
    have hs1 : s.size ≤ 100 := by
      simp only [List.mem_cons, List.not_mem_nil, or_false] at hm
      rcases hm with rfl | rfl | rfl <;> decide
    exact ⟨t ++ [s], q + 1 + 1, Ev.bind ht (Ev.bind hv (Ev.posf c0 (Ev.bind hs (Ev.posf (by show t.length < _; omega) (Ev.now _))))), by simp; omega, hz.app (Sz.one hs1), by omega, by omega⟩
  · by_cases c1 : v = 1
    · exact ⟨_, q + 1, Ev.bind ht (Ev.bind hv (Ev.negf c0 (Ev.posf c1 (Ev.somef (Ev.posf (by simp; omega) (Ev.now _)))))), by simp; omega, hz.app (fun s hs => by simp only [List.mem_cons, List.not_mem_nil, or_false] at hs; rcases hs with rfl | rfl | rfl | rfl | rfl | rfl | rfl | rfl | rfl | rfl <;> decide), by omega, by omega⟩
    · exact ⟨t, q + 1, Ev.bind ht (Ev.bind hv (Ev.negf c0 (Ev.negf c1 (Ev.now _)))), by omega, hz, by omega, by omega⟩
theorem turn0_ev {b : List Int} (hb : Code b) : ∀ (d : Nat) (out : List ByteArray) (p : Int), 0 ≤ p → p + 3 * d ≤ 1000000000 → out.length ≤ 1000 → Sz out →
    ∃ r q, Ev (fun k => spec_l30Turn.l0 k out d b p) (r, q) ∧ r.length ≤ max out.length 10 ∧ Sz r ∧ p ≤ q ∧ q ≤ p + 3 * d
  | 0, out, p, h0, h1, h2, hz => by
    refine ⟨out, p, ⟨1, fun k hk => ?_⟩, by omega, hz, by omega, by omega⟩
    obtain ⟨m, rfl⟩ : ∃ m, k = m + 1 := ⟨k - 1, by omega⟩
    simp [spec_l30Turn.l0]
  | d + 1, out, p, h0, h1, h2, hz => by
    have e1 : wrap64 ((out.length : Int) + 1) = out.length + 1 := w64 (by omega) (by omega)
    have e2 : wrap64 (((d + 1 : Nat) : Int) - 1) = (d : Int) := by rw [w64 (by omega) (by omega)]; omega
    obtain ⟨i, hi, hi0, hi1⟩ := pick_ev hb (p := p) ⟨h0, by omega⟩ (n := out.length + 1) (by omega)
    obtain ⟨c, hc, hc0, hc1⟩ := pick_ev hb (p := p + 1) ⟨by omega, by omega⟩ (n := 3) (by omega)
    obtain ⟨s, hs, hs1⟩ := line_ev hb (p := p + 1 + 1) ⟨by omega, by omega⟩
    have hi2 : i ≤ out.length := by have := hi1 (by omega); omega
    obtain ⟨n, rfl⟩ := toNat_of hi0
    have step : ∀ (o2 : List ByteArray) (q : Int), o2.length ≤ max out.length 10 → Sz o2 → p ≤ q → q ≤ p + 3 → (∀ r, Ev (fun k => spec_l30Turn.l0 k o2 d b q) r → Ev (fun k => spec_l30Turn.l0 (k + 1) out ((d + 1 : Nat) : Int) b p) r) →
        ∃ r q, Ev (fun k => spec_l30Turn.l0 k out ((d + 1 : Nat) : Int) b p) (r, q) ∧ r.length ≤ max out.length 10 ∧ Sz r ∧ p ≤ q ∧ q ≤ p + 3 * ((d + 1 : Nat) : Int) := by
      intro o2 q g1 gz g2 g3 g4
      obtain ⟨r, q', hr, hl, hz2, g5, g6⟩ := turn0_ev hb d o2 q (by omega) (by omega) (by omega) gz
      exact ⟨r, q', Ev.step' (g4 _ hr), by omega, hz2, by omega, by omega⟩
    have wn : wrap64 ((n : Int) + 1) = n + 1 := w64 (by omega) (by omega)
    have hd : ((d + 1 : Nat) : Int) > 0 := by omega
    by_cases c0 : c = 0
    · by_cases g : (out.length : Int) < 10
      · refine step (([] ++ out.take (n : Int).toNat) ++ [s] ++ out.drop (n : Int).toNat) (p + 1 + 1 + 1) (by simp; omega) (((Sz.nil.app (hz.take _)).app (Sz.one hs1)).app (hz.drop _)) (by omega) (by omega) (fun r h => ?_)
        simp only [spec_l30Turn.l0, e1, e2]
        exact Ev.posf hd (Ev.bind hi (Ev.bind hc (Ev.posf c0 (Ev.posf g (Ev.somef (Ev.posf hi0 (Ev.posf hi2 (Ev.somef (Ev.posf (by simp; omega) (Ev.somef (Ev.bind hs (Ev.posf (by simp; omega) (Ev.somef (Ev.somef (Ev.posf (by simp; omega) h)))))))))))))))
      · refine step out (p + 1 + 1) (by omega) hz (by omega) (by omega) (fun r h => ?_)
        simp only [spec_l30Turn.l0, e1, e2]
        exact Ev.posf hd (Ev.bind hi (Ev.bind hc (Ev.posf c0 (Ev.negf g h))))
    · by_cases c1 : c = 1
      · by_cases g : (n : Int) < out.length
        · refine step (([] ++ out.take (n : Int).toNat) ++ out.drop ((n : Int) + 1).toNat) (p + 1 + 1) (by simp; omega) ((Sz.nil.app (hz.take _)).app (hz.drop _)) (by omega) (by omega) (fun r h => ?_)
          simp only [spec_l30Turn.l0, e1, e2]
          refine Ev.posf hd (Ev.bind hi (Ev.bind hc ?_))
          simp only [wn, Option.bind_some]
          exact Ev.negf c0 (Ev.posf c1 (Ev.posf g (Ev.posf hi0 (Ev.posf hi2 (Ev.posf (by simp; omega) (Ev.posf (by omega) (Ev.posf (by omega) (Ev.posf (by simp; omega) h))))))))
        · refine step out (p + 1 + 1) (by omega) hz (by omega) (by omega) (fun r h => ?_)
          simp only [spec_l30Turn.l0, e1, e2]
          exact Ev.posf hd (Ev.bind hi (Ev.bind hc (Ev.negf c0 (Ev.posf c1 (Ev.negf g h)))))
      · by_cases g : (n : Int) < out.length
        · refine step (out.set (n : Int).toNat s) (p + 1 + 1 + 1) (by simp; omega) (hz.set _ hs1) (by omega) (by omega) (fun r h => ?_)
          simp only [spec_l30Turn.l0, e1, e2]
          exact Ev.posf hd (Ev.bind hi (Ev.bind hc (Ev.negf c0 (Ev.negf c1 (Ev.posf g (Ev.bind hs (Ev.posf hi0 h)))))))
        · refine step out (p + 1 + 1) (by omega) hz (by omega) (by omega) (fun r h => ?_)
          simp only [spec_l30Turn.l0, e1, e2]
          exact Ev.posf hd (Ev.bind hi (Ev.bind hc (Ev.negf c0 (Ev.negf c1 (Ev.negf g h)))))
theorem turn_ev {b : List Int} (hb : Code b) {p : Int} (h0 : 0 ≤ p) (h1 : p ≤ 1000000) (t : List ByteArray) (ht : t.length ≤ 1000) (hz : Sz t) :
    ∃ r q, Ev (fun k => spec_l30Turn.f k b p t) (r, q) ∧ r.length ≤ max t.length 10 ∧ Sz r ∧ p ≤ q ∧ q ≤ p + 10 := by
  obtain ⟨c, hc, hc0, hc1⟩ := pick_ev hb (p := p) ⟨h0, by omega⟩ (n := 4) (by omega)
  have hc2 := hc1 (by omega)
  obtain ⟨d, rfl⟩ := toNat_of hc0
  obtain ⟨r, q, hr, hl, hz2, g1, g2⟩ := turn0_ev hb d ([] ++ t) (p + 1) (by omega) (by omega) (by simpa using ht) (Sz.nil.app hz)
  refine ⟨r, q, ?_, by simpa using hl, hz2, by omega, by omega⟩
  unfold spec_l30Turn.f
  exact Ev.somef (Ev.posf (by simp; omega) (Ev.bind hc hr))
theorem open_ev {l : List Int} (hw : ∀ x ∈ l, 0 ≤ x ∧ x ≤ 255) : ∃ b, spec_l30Open.f l = some (b, 0) ∧ Code b := by
  unfold spec_l30Open.f
  by_cases h : (l.length : Int) > 2000
  · exact ⟨l.take 2000, by rw [if_pos h, if_pos (by omega)], by simp; omega, fun x hx => hw x (List.mem_of_mem_take hx)⟩
  · exact ⟨l, by rw [if_neg h], by omega, hw⟩
end Go.Proofs.Ytfpdkeolecmepaa.Q
end
section
namespace Go.Proofs.Ytfpdkeolecmepaa.Q
open Go.RowKit Go.Proofs.YtfpdkeolecmepaaW.PrintWords
set_option linter.unusedVariables false
set_option linter.unusedSimpArgs false
def okc (c : UInt8) : Bool := decide (32 ≤ c.toNat) && decide (c.toNat ≤ 126)
def lineB (s : ByteArray) : Bool := s.data.toList.all okc && decide (s.size ≤ 12)
def textB (l : List ByteArray) : Bool := decide (l.length ≤ 10) && l.all lineB
/-- Not too long for a loop over it. -/
def Sm (l : List ByteArray) : Prop := l.length ≤ 1000000 ∧ ∀ s ∈ l, s.size ≤ 1000000
theorem bt_nat {s : ByteArray} {i : Nat} (h : i < s.size) : bt s (i : Int) = ((s.data.toList[i]'(by simpa using h)).toNat : Int) := by
  simp [bt, h]
  rfl
theorem drop_all {α : Type} (p : α → Bool) (l : List α) (i : Nat) (h : i < l.length) : (l.drop i).all p = (p l[i] && (l.drop (i + 1)).all p) := by
  rw [List.drop_eq_getElem_cons h, List.all_cons]
theorem implLine0_ev (s : ByteArray) (hs : s.size ≤ 1000000) : ∀ (d i : Nat), i ≤ s.size → s.size - i = d →
    Ev (fun k => impl_lineOk.l0 k s s.size i) ((s.data.toList.drop i).all okc && decide (s.size ≤ 12))
  | 0, i, hi, hd => by
    refine Ev.step' ?_
    simp only [impl_lineOk.l0]
    refine Ev.negf (by omega) ?_
    have e : s.data.toList.drop i = [] := List.drop_eq_nil_of_le (by have : s.data.toList.length = s.size := by simp
                                                                     omega)
    rw [e]
    exact EvT (Ev.now _) (by simp; omega)
  | d + 1, i, hi, hd => by
    have hl : i < s.size := by omega
    have hl2 : i < s.data.toList.length := by simpa using hl
    refine Ev.step' ?_
    simp only [impl_lineOk.l0]
    rw [drop_all okc _ i hl2, bt_nat hl]
    refine Ev.posf (by omega) (Ev.posf (by omega) (Ev.posf (by omega) ?_))
    by_cases h1 : (((s.data.toList[i]'hl2).toNat : Nat) : Int) < 32
    · refine Ev.posf h1 (EvT (Ev.now _) ?_)
      have : okc (s.data.toList[i]'hl2) = false := by simp only [okc, Bool.and_eq_false_iff, decide_eq_false_iff_not]; omega
      rw [this]; rfl
    · by_cases h2 : (((s.data.toList[i]'hl2).toNat : Nat) : Int) > 126
      · refine Ev.negf h1 (Ev.posf h2 (EvT (Ev.now _) ?_))
        have : okc (s.data.toList[i]'hl2) = false := by simp only [okc, Bool.and_eq_false_iff, decide_eq_false_iff_not]; omega
        rw [this]; rfl
      · refine Ev.negf h1 (Ev.negf h2 ?_)
        have : okc (s.data.toList[i]'hl2) = true := by simp only [okc, Bool.and_eq_true, decide_eq_true_eq]; omega
        rw [this, Bool.true_and, show wrap64 ((i : Int) + 1) = ((i + 1 : Nat) : Int) by rw [w64 (by omega) (by omega)]; omega]
        exact implLine0_ev s hs d (i + 1) (by omega) (by omega)
theorem implLine_ev (s : ByteArray) (hs : s.size ≤ 1000000) : Ev (fun k => impl_lineOk.f k s) (lineB s) := by
  unfold impl_lineOk.f
  exact EvT (implLine0_ev s hs _ 0 (by omega) rfl) (by simp [lineB])
theorem specLine0_ev (s : ByteArray) (hs : s.size ≤ 1000000) : ∀ (d i : Nat), i ≤ s.size → s.size - i = d →
    Ev (fun k => spec_l1Line.l0 k s i) ((s.data.toList.drop i).all okc && decide (s.size ≤ 12))
  | 0, i, hi, hd => by
    refine Ev.step' ?_
    simp only [spec_l1Line.l0]
    refine Ev.negf (by omega) ?_
    have e : s.data.toList.drop i = [] := List.drop_eq_nil_of_le (by have : s.data.toList.length = s.size := by simp
                                                                     omega)
    rw [e]
    exact EvT (Ev.now _) (by simp; omega)
  | d + 1, i, hi, hd => by
    have hl : i < s.size := by omega
    have hl2 : i < s.data.toList.length := by simpa using hl
    refine Ev.step' ?_
    simp only [spec_l1Line.l0]
    rw [drop_all okc _ i hl2, bt_nat hl]
    refine Ev.posf (by omega) (Ev.posf (by omega) ?_)
    by_cases h1 : (((s.data.toList[i]'hl2).toNat : Nat) : Int) < 32
    · refine Ev.posf h1 (EvT (Ev.now _) ?_)
      have : okc (s.data.toList[i]'hl2) = false := by simp only [okc, Bool.and_eq_false_iff, decide_eq_false_iff_not]; omega
      rw [this]; rfl
    · by_cases h2 : (((s.data.toList[i]'hl2).toNat : Nat) : Int) > 126
      · refine Ev.negf h1 (Ev.posf h2 (EvT (Ev.now _) ?_))
        have : okc (s.data.toList[i]'hl2) = false := by simp only [okc, Bool.and_eq_false_iff, decide_eq_false_iff_not]; omega
        rw [this]; rfl
      · refine Ev.negf h1 (Ev.negf h2 ?_)
        have : okc (s.data.toList[i]'hl2) = true := by simp only [okc, Bool.and_eq_true, decide_eq_true_eq]; omega
        rw [this, Bool.true_and, show wrap64 ((i : Int) + 1) = ((i + 1 : Nat) : Int) by rw [w64 (by omega) (by omega)]; omega]
        exact specLine0_ev s hs d (i + 1) (by omega) (by omega)
theorem specLine_ev (s : ByteArray) (hs : s.size ≤ 1000000) : Ev (fun k => spec_l1Line.f k s) (lineB s) := by
  unfold spec_l1Line.f
  exact EvT (specLine0_ev s hs _ 0 (by omega) rfl) (by simp [lineB])
theorem anyF_ev {α : Type} (f : Nat → α → Option Bool) (p : α → Bool) : ∀ l : List α, (∀ x ∈ l, Ev (fun k => f k x) (p x)) → Ev (fun k => anyF (f k) l) (l.any p)
  | [], h => Ev.now _
  | x :: t, h => by
    show Ev (fun k => (f k x).bind fun b => if b then some true else anyF (f k) t) ((x :: t).any p)
    refine Ev.bind (h x List.mem_cons_self) ?_
    cases e : p x with
    | true => exact EvT (Ev.posf rfl (Ev.now _)) (by simp [e])
    | false => exact EvT (Ev.negf (by simp) (anyF_ev f p t (fun y hy => h y (List.mem_cons_of_mem _ hy)))) (by simp [e])
theorem implText_ev (l : List ByteArray) (hl : Sm l) : Ev (fun k => impl_TextOk.f k l) (textB l) := by
  unfold impl_TextOk.f
  by_cases c : l.length ≤ 10
  · refine Ev.posf c (EvT (Ev.mapf _ (anyF_ev impl_TextOk_1.f (fun s => !lineB s) l (fun x hx => ?_))) ?_)
    · unfold impl_TextOk_1.f
      exact Ev.bind (implLine_ev x (hl.2 x hx)) (Ev.now _)
    · rw [textB, decide_eq_true c, Bool.true_and, ← List.not_all_eq_any_not]
      simp
  · exact Ev.negf c (EvT (Ev.now _) (by simp [textB]; omega))
theorem specText0_ev (l : List ByteArray) (hl : Sm l) : ∀ (d i : Nat), i ≤ l.length → l.length - i = d →
    Ev (fun k => spec_l1Ok.l0 k l i) ((l.drop i).all lineB && decide (l.length ≤ 10))
  | 0, i, hi, hd => by
    refine Ev.step' ?_
    simp only [spec_l1Ok.l0]
    refine Ev.negf (by omega) ?_
    rw [List.drop_eq_nil_of_le (by omega)]
    exact EvT (Ev.now _) (by simp; omega)
  | d + 1, i, hi, hd => by
    have hlt : i < l.length := by omega
    have hl1 := hl.1
    refine Ev.step' ?_
    simp only [spec_l1Ok.l0]
    rw [drop_all lineB l i hlt, rdAt hlt]
    refine Ev.posf (by omega) (Ev.posf (by omega) (Ev.bind (specLine_ev _ (hl.2 _ (List.getElem_mem hlt))) ?_))
    cases e : lineB l[i] with
    | false => exact Ev.negf (by simp) (EvT (Ev.now _) (by simp))
    | true =>
      refine Ev.posf rfl ?_
      rw [Bool.true_and, show wrap64 ((i : Int) + 1) = ((i + 1 : Nat) : Int) by rw [w64 (by omega) (by omega)]; omega]
      exact specText0_ev l hl d (i + 1) (by omega) (by omega)
theorem specText_ev (l : List ByteArray) (hl : Sm l) : Ev (fun k => spec_l1Ok.f k l) (textB l) := by
  unfold spec_l1Ok.f
  exact EvT (specText0_ev l hl _ 0 (by omega) rfl) (by simp [textB, Bool.and_comm])
theorem smTexts0_ev (a b : List ByteArray) (h : a.length = b.length) (hs : a.length ≤ 100000000) : ∀ (d i : Nat), i ≤ a.length → a.length - i = d →
    ∃ r, Ev (fun k => laws_smTexts.l0 k a b i) r ∧ (r = true ↔ a.drop i = b.drop i)
  | 0, i, hi, hd => by
    refine ⟨true, Ev.step' ?_, ?_⟩
    · simp only [laws_smTexts.l0]
      exact Ev.negf (by omega) (Ev.now _)
    · rw [List.drop_eq_nil_of_le (by omega), List.drop_eq_nil_of_le (by omega)]; simp
  | d + 1, i, hi, hd => by
    have h1 : i < a.length := by omega
    have h2 : i < b.length := by omega
    rw [List.drop_eq_getElem_cons h1, List.drop_eq_getElem_cons h2]
    by_cases c : a[i].toList = b[i].toList
    · obtain ⟨r, hr, he⟩ := smTexts0_ev a b h hs d (i + 1) (by omega) (by omega)
      refine ⟨r, Ev.step' ?_, ?_⟩
      · simp only [laws_smTexts.l0]
        rw [rdAt h1, rdAt h2, show wrap64 ((i : Int) + 1) = ((i + 1 : Nat) : Int) by rw [w64 (by omega) (by omega)]; omega]
        exact Ev.posf (by omega) (Ev.posf (by omega) (Ev.posf (by omega) (Ev.posf c hr)))
      · rw [he, bstr.mp c]; exact ⟨fun e => by rw [e], fun e => (List.cons.inj e).2⟩
    · refine ⟨false, Ev.step' ?_, ?_⟩
      · simp only [laws_smTexts.l0]
        rw [rdAt h1, rdAt h2]
        exact Ev.posf (by omega) (Ev.posf (by omega) (Ev.posf (by omega) (Ev.negf c (Ev.now _))))
      · exact ⟨fun e => (by cases e), fun e => absurd (bstr.mpr (List.cons.inj e).1) c⟩
theorem smTexts_ev (a b : List ByteArray) (hs : a.length ≤ 100000000) : ∃ r, Ev (fun k => laws_smTexts.f k a b) r ∧ (r = true ↔ a = b) := by
  unfold laws_smTexts.f
  by_cases h : a.length = b.length
  · obtain ⟨r, hr, he⟩ := smTexts0_ev a b h hs _ 0 (by omega) rfl
    exact ⟨r, Ev.posf (by omega) hr, by simpa using he⟩
  · exact ⟨false, Ev.negf (by omega) (Ev.now _), by simp; intro e; exact h (by rw [e])⟩
theorem smTexts_refl (a : List ByteArray) (hs : a.length ≤ 100000000) : Ev (fun k => laws_smTexts.f k a a) true := by
  obtain ⟨r, hr, he⟩ := smTexts_ev a a hs
  rw [he.mpr rfl] at hr
  exact hr
end Go.Proofs.Ytfpdkeolecmepaa.Q
end
section
namespace Go.Proofs.Ytfpdkeolecmepaa.Q
open Go.RowKit Go.Proofs.YtfpdkeolecmepaaW.PrintWords Go.Proofs.YtfpdkeolecmepaaW.PrintMore
set_option linter.unusedVariables false
set_option linter.unusedSimpArgs false
def allB (o a b : List ByteArray) : Bool := textB o && (textB a && textB b)
def mOf (o a b : List ByteArray) : List Pt := if allB o a b = true then mrg o a b else []
theorem textB_len {l : List ByteArray} (h : textB l = true) : l.length ≤ 10 := by
  unfold textB at h
  simp only [Bool.and_eq_true, decide_eq_true_eq] at h
  exact h.1
theorem implMerge_ev {o a b : List ByteArray} (ho : o.length ≤ 1000) (ha : a.length ≤ 1000) (hb : b.length ≤ 1000) : Ev (fun k => impl_merge.f k o a b) (mrg o a b) := by
  unfold impl_merge.f
  refine Ev.bind (match_ev (by omega) (by omega)) (Ev.bind (match_ev (by omega) (by omega)) ?_)
  rw [mgG_mrg ho ha hb]
  exact Ev.now _
theorem specMerge_ev {o a b : List ByteArray} (ho : o.length ≤ 1000) (ha : a.length ≤ 1000) (hb : b.length ≤ 1000) : Ev (fun k => spec_l3Of.f k o a b) (mrg o a b) := by
  unfold spec_l3Of.f
  refine Ev.bind (smatch_ev (by omega) (by omega)) (Ev.bind (smatch_ev (by omega) (by omega)) ?_)
  rw [mgG_mrg ho ha hb]
  exact Ev.now _
theorem areTexts_ev {o a b : List ByteArray} (ho : Sm o) (ha : Sm a) (hb : Sm b) : Ev (fun k => impl_areTexts.f k o a b) (allB o a b) := by
  unfold impl_areTexts.f allB
  refine Ev.bind (implText_ev o ho) ?_
  cases textB o with
  | false => exact Ev.negf (by decide) (Ev.now _)
  | true =>
    refine Ev.posf rfl (Ev.bind (implText_ev a ha) ?_)
    cases textB a with
    | false => exact Ev.negf (by decide) (Ev.now _)
    | true => exact Ev.posf rfl (Ev.bind (implText_ev b hb) (Ev.now _))
theorem specOf_ev {o a b : List ByteArray} (ho : Sm o) (ha : Sm a) (hb : Sm b) : Ev (fun k => spec_MergeOf.f k o a b) (mOf o a b) := by
  unfold spec_MergeOf.f mOf allB
  refine Ev.bind (specText_ev o ho) ?_
  cases eo : textB o with
  | false => exact Ev.negf (by decide) (Ev.now _)
  | true =>
    refine Ev.posf rfl (Ev.bind (specText_ev a ha) ?_)
    cases ea : textB a with
    | false => exact Ev.negf (by decide) (Ev.now _)
    | true =>
      refine Ev.posf rfl (Ev.bind (specText_ev b hb) ?_)
      cases eb : textB b with
      | false => exact Ev.negf (by decide) (Ev.now _)
      | true =>
        have h1 := textB_len eo
        have h2 := textB_len ea
        have h3 := textB_len eb
        exact Ev.posf rfl (Ev.bind (specMerge_ev (by omega) (by omega) (by omega)) (Ev.now _))
/-- No row of a part is long. -/
def SmP (ps : List Pt) : Prop := ps.length ≤ 100000000 ∧ ∀ p ∈ ps, p.f1.length ≤ 100000000 ∧ p.f2.length ≤ 100000000 ∧ p.f3.length ≤ 100000000 ∧ p.f4.length ≤ 100000000
theorem rdP {ps : List Pt} {i : Nat} (h : i < ps.length) : rd_T31 ps (i : Int) = ps[i] := by
  simp [rd_T31, List.getD_eq_getElem?_getD, h]
/-- The clashes' rows are not long. -/
def clP (ps : List Pt) : Prop := ∀ p ∈ ps, p.f2.length ≤ 1000 ∧ p.f3.length ≤ 1000 ∧ p.f4.length ≤ 1000
theorem clP_res {ps : List Pt} (h : clP ps) (l : List ByteArray) : clP (res ps l) := by
  unfold res
  split
  · exact h
  · split
    · rename_i h1 h2
      rcases List.eq_nil_or_concat ps with rfl | ⟨q, p, hqp⟩
      · exact absurd h2.1 (by simp)
      · rw [List.concat_eq_append] at hqp
        subst hqp
        have e2 : (q ++ [p]).getLastD z31 = p := by simp [List.getLastD_eq_getLast?]
        rw [e2, List.dropLast_concat]
        intro x hx
        rcases List.mem_append.1 hx with hx | hx
        · exact h x (List.mem_append_left _ hx)
        · rw [List.mem_singleton.1 hx]
          exact h p (by simp)
    · intro x hx
      rcases List.mem_append.1 hx with hx | hx
      · exact h x hx
      · rw [List.mem_singleton.1 hx]
        exact ⟨by simp, by simp, by simp⟩
theorem clP_reg {ps : List Pt} (h : clP ps) {o a b : List ByteArray} (ho : o.length ≤ 1000) (ha : a.length ≤ 1000) (hb : b.length ≤ 1000) : clP (reg ps o a b) := by
  unfold reg
  split
  · exact clP_res h b
  · split
    · exact clP_res h a
    · intro x hx
      rcases List.mem_append.1 hx with hx | hx
      · exact h x hx
      · rw [List.mem_singleton.1 hx]
        exact ⟨ho, ha, hb⟩
theorem mg_small {o a b : List ByteArray} {mA mB : List Int} (ho : o.length ≤ 1000) (ha : a.length ≤ 1000) (hb : b.length ≤ 1000) : ∀ (d i j k N : Nat) (ps : List Pt), smP N ps → clP ps → smP (N + 2000 * d + 1000) (mg o a b mA mB d i j k ps) ∧ clP (mg o a b mA mB d i j k ps)
  | 0, i, j, k, N, ps, h, hc => by
    rw [mg]
    exact ⟨smP_reg h (by simp; omega) (by simp; omega), clP_reg hc (by simp; omega) (by simp; omega) (by simp; omega)⟩
  | d + 1, i, j, k, N, ps, h, hc => by
    simp only [mg]
    split
    · obtain ⟨h1, h2⟩ := mg_small (mA := mA) (mB := mB) ho ha hb d i j k N ps h hc
      exact ⟨⟨by have := h1.1; omega, fun q hq => by have := h1.2 q hq; omega⟩, h2⟩
    · have g1 := fun x y => seg2_le o x y
      have g2 := fun x y => seg2_le a x y
      have g3 := fun x y => seg2_le b x y
      obtain ⟨h1, h2⟩ := mg_small (mA := mA) (mB := mB) ho ha hb d (o.length - (d + 1) + 1) ((mA.getD (o.length - (d + 1)) 0).toNat + 1) ((mB.getD (o.length - (d + 1)) 0).toNat + 1) (N + 1000 + 1000) _
        (smP_res (smP_reg h (o := seg2 o i (o.length - (d + 1))) (a := seg2 a j (mA.getD (o.length - (d + 1)) 0).toNat) (b := seg2 b k (mB.getD (o.length - (d + 1)) 0).toNat) (Nat.le_trans (g2 _ _) ha) (Nat.le_trans (g3 _ _) hb)) (l := [o.getD (o.length - (d + 1)) ByteArray.empty]) (by simp))
        (clP_res (clP_reg hc (Nat.le_trans (g1 _ _) ho) (Nat.le_trans (g2 _ _) ha) (Nat.le_trans (g3 _ _) hb)) _)
      exact ⟨⟨by have := h1.1; omega, fun q hq => by have := h1.2 q hq; omega⟩, h2⟩
theorem mrg_small {o a b : List ByteArray} (ho : o.length ≤ 1000) (ha : a.length ≤ 1000) (hb : b.length ≤ 1000) : SmP (mrg o a b) := by
  obtain ⟨h1, h2⟩ := mg_small (mA := mtc o a 0) (mB := mtc o b 0) ho ha hb o.length 0 0 0 0 [] ⟨by simp, by simp⟩ (fun p hp => by cases hp)
  unfold mrg
  exact ⟨by have := h1.1; omega, fun p hp => ⟨by have := h1.2 p hp; omega, by have := h2 p hp; omega, by have := h2 p hp; omega, by have := h2 p hp; omega⟩⟩
theorem Sm_of {l : List ByteArray} (h : l.length ≤ 1000000) (hz : Sz l) : Sm l := ⟨h, fun s hs => by have := hz s hs; omega⟩
theorem three_ev {l : List Int} (hw : ∀ x ∈ l, 0 ≤ x ∧ x ≤ 255) : ∃ o a b, Ev (fun k => spec_l30Three.f k l) (o, a, b) ∧ Sm o ∧ Sm a ∧ Sm b := by
  obtain ⟨c, hc, hb⟩ := open_ev hw
  obtain ⟨t, q, ht, hl, hz, hq0, hq1⟩ := anyText_ev hb (p := 0) (by omega) (by omega)
  obtain ⟨u, q2, hu, hul, huz, hu0, hu1⟩ := turn_ev hb (p := q) (by omega) (by omega) t (by omega) hz
  obtain ⟨v, hv, hv0, hv1⟩ := pick_ev hb (p := q2) ⟨by omega, by omega⟩ (n := 8) (by omega)
  unfold spec_l30Three.f
  by_cases c0 : v = 0
  · exact ⟨t, u, u, Ev.bind (by rw [hc]; exact Ev.now _) (Ev.bind ht (Ev.bind hu (Ev.bind hv (Ev.posf c0 (Ev.now _))))), Sm_of (by omega) hz, Sm_of (by omega) huz, Sm_of (by omega) huz⟩
  · obtain ⟨x, q3, hx, hxl, hxz, hx0, hx1⟩ := turn_ev hb (p := q2 + 1) (by omega) (by omega) t (by omega) hz
    exact ⟨t, u, x, Ev.bind (by rw [hc]; exact Ev.now _) (Ev.bind ht (Ev.bind hu (Ev.bind hv (Ev.negf c0 (Ev.bind hx (Ev.now _)))))), Sm_of (by omega) hz, Sm_of (by omega) huz, Sm_of (by omega) hxz⟩
end Go.Proofs.Ytfpdkeolecmepaa.Q
end
section
namespace Go.Proofs.Ytfpdkeolecmepaa.Q
open Go.RowKit Go.Proofs.YtfpdkeolecmepaaW.PrintWords Go.Proofs.YtfpdkeolecmepaaW.PrintMore
set_option linter.unusedVariables false
set_option linter.unusedSimpArgs false
/-- No part clashes. -/
def clr (ps : List Pt) : Bool := ps.all (fun p => !p.f0)
/-- All lines that don't clash. -/
def txt (ps : List Pt) : List ByteArray := ps.flatMap (fun p => p.f1)
def sText (ps : List Pt) : List ByteArray × Bool := if clr ps = true ∧ textB (txt ps) = true then (txt ps, true) else ([], false)
def tOf (o a b : List ByteArray) : List ByteArray × Bool := if allB o a b = true then sText (mrg o a b) else ([], false)
theorem clr_cons (p : Pt) (ps : List Pt) : clr (p :: ps) = (!p.f0 && clr ps) := by simp [clr]
theorem txt_cons (p : Pt) (ps : List Pt) : txt (p :: ps) = p.f1 ++ txt ps := by simp [txt]
theorem res_last (q : List Pt) (p : Pt) (l : List ByteArray) (h : p.f0 = false) (hl : l ≠ []) : res (q ++ [p]) l = q ++ [addL p l] := res_old (fun e => hl (List.length_eq_zero_iff.mp e)) h
theorem res_cases (ps : List Pt) (l : List ByteArray) : (l = [] ∧ res ps l = ps) ∨ (∃ q p, ps = q ++ [p] ∧ p.f0 = false ∧ res ps l = q ++ [addL p l]) ∨ res ps l = ps ++ [⟨false, l, [], [], []⟩] := by
  by_cases hl : l = []
  · exact .inl ⟨hl, by rw [res, if_pos hl]⟩
  · rcases List.eq_nil_or_concat ps with rfl | ⟨q, p, hqp⟩
    · exact .inr (.inr (res_new (fun e => hl (List.length_eq_zero_iff.mp e)) (.inl rfl)))
    · rw [List.concat_eq_append] at hqp
      subst hqp
      cases hp : p.f0 with
      | false => exact .inr (.inl ⟨q, p, rfl, hp, res_last q p l hp hl⟩)
      | true => exact .inr (.inr (res_new (fun e => hl (List.length_eq_zero_iff.mp e)) (.inr ⟨q, p, rfl, hp⟩)))
/-- All lines, those of clashes too. -/
def tot (ps : List Pt) : Nat := (ps.map (fun p => p.f1.length + p.f2.length + p.f3.length + p.f4.length)).sum
theorem tot_app (x y : List Pt) : tot (x ++ y) = tot x + tot y := by simp [tot]
theorem tot_res (ps : List Pt) (l : List ByteArray) : tot (res ps l) = tot ps + l.length := by
  rcases res_cases ps l with ⟨hl, e⟩ | ⟨q, p, rfl, hp, e⟩ | e
  · rw [e, hl]; rfl
  · rw [e, tot_app, tot_app]; simp [tot, addL]; omega
  · rw [e, tot_app]; simp [tot]
theorem tot_reg (ps : List Pt) (o a b : List ByteArray) : tot (reg ps o a b) ≤ tot ps + (o.length + a.length + b.length) := by
  unfold reg
  split
  · rw [tot_res]; omega
  · split
    · rw [tot_res]; omega
    · rw [tot_app]; simp [tot]
theorem tot_mg (o a b : List ByteArray) (mA mB : List Int) : ∀ (d i j k : Nat) (ps : List Pt), tot (mg o a b mA mB d i j k ps) ≤ tot ps + (d + 1) * (o.length + a.length + b.length + 1)
  | 0, i, j, k, ps => by
    rw [mg]
    have := tot_reg ps (o.drop i) (a.drop j) (b.drop k)
    simp only [List.length_drop] at this
    omega
  | d + 1, i, j, k, ps => by
    simp only [mg]
    rw [Nat.succ_mul (d + 1)]
    split
    · have := tot_mg o a b mA mB d i j k ps
      omega
    · have h1 := tot_mg o a b mA mB d (o.length - (d + 1) + 1) ((mA.getD (o.length - (d + 1)) 0).toNat + 1) ((mB.getD (o.length - (d + 1)) 0).toNat + 1) (res (reg ps (seg2 o i (o.length - (d + 1))) (seg2 a j (mA.getD (o.length - (d + 1)) 0).toNat) (seg2 b k (mB.getD (o.length - (d + 1)) 0).toNat)) [o.getD (o.length - (d + 1)) ByteArray.empty])
      rw [tot_res] at h1
      have h2 := tot_reg ps (seg2 o i (o.length - (d + 1))) (seg2 a j (mA.getD (o.length - (d + 1)) 0).toNat) (seg2 b k (mB.getD (o.length - (d + 1)) 0).toNat)
      have g1 := seg2_le o i (o.length - (d + 1))
      have g2 := seg2_le a j (mA.getD (o.length - (d + 1)) 0).toNat
      have g3 := seg2_le b k (mB.getD (o.length - (d + 1)) 0).toNat
      simp only [List.length_singleton] at h1
      omega
theorem tot_mrg {o a b : List ByteArray} (ho : o.length ≤ 10) (ha : a.length ≤ 10) (hb : b.length ≤ 10) : tot (mrg o a b) ≤ 1000 := by
  have h := tot_mg o a b (mtc o a 0) (mtc o b 0) o.length 0 0 0 []
  have e : tot [] = 0 := rfl
  have h2 := Nat.mul_le_mul (show o.length + 1 ≤ 11 by omega) (show o.length + a.length + b.length + 1 ≤ 31 by omega)
  unfold mrg
  omega
theorem txt_tot : ∀ ps : List Pt, (txt ps).length ≤ tot ps
  | [] => Nat.le_refl _
  | p :: ps => by
    have := txt_tot ps
    simp only [txt, tot, List.flatMap_cons, List.length_append, List.map_cons, List.sum_cons] at this ⊢
    omega
/-- All lines of parts are such. -/
def inP (Q : ByteArray → Prop) (ps : List Pt) : Prop := ∀ p ∈ ps, (∀ s ∈ p.f1, Q s) ∧ (∀ s ∈ p.f2, Q s) ∧ (∀ s ∈ p.f3, Q s) ∧ (∀ s ∈ p.f4, Q s)
theorem inP_app {Q : ByteArray → Prop} {x y : List Pt} (h : inP Q x) (k : inP Q y) : inP Q (x ++ y) := fun p hp => (List.mem_append.1 hp).elim (h p) (k p)
theorem inP_one {Q : ByteArray → Prop} {p : Pt} (h : (∀ s ∈ p.f1, Q s) ∧ (∀ s ∈ p.f2, Q s) ∧ (∀ s ∈ p.f3, Q s) ∧ (∀ s ∈ p.f4, Q s)) : inP Q [p] := fun q hq => by rw [List.mem_singleton.1 hq]; exact h
theorem inP_res {Q : ByteArray → Prop} {ps : List Pt} (h : inP Q ps) {l : List ByteArray} (hl : ∀ s ∈ l, Q s) : inP Q (res ps l) := by
  rcases res_cases ps l with ⟨_, e⟩ | ⟨q, p, rfl, hp, e⟩ | e
  · rw [e]; exact h
  · rw [e]
    have hp2 := h p (by simp)
    exact inP_app (fun x hx => h x (List.mem_append_left _ hx)) (inP_one ⟨fun s hs => (List.mem_append.1 hs).elim (hp2.1 s) (hl s), hp2.2.1, hp2.2.2.1, hp2.2.2.2⟩)
  · rw [e]
    exact inP_app h (inP_one ⟨hl, by simp, by simp, by simp⟩)
theorem inP_reg {Q : ByteArray → Prop} {ps : List Pt} (h : inP Q ps) {o a b : List ByteArray} (ho : ∀ s ∈ o, Q s) (ha : ∀ s ∈ a, Q s) (hb : ∀ s ∈ b, Q s) : inP Q (reg ps o a b) := by
  unfold reg
  split
  · exact inP_res h hb
  · split
    · exact inP_res h ha
    · exact inP_app h (inP_one ⟨by simp, ho, ha, hb⟩)
theorem seg2_mem {l : List ByteArray} {i j : Nat} {s : ByteArray} (h : s ∈ seg2 l i j) : s ∈ l := List.mem_of_mem_take (List.mem_of_mem_drop h)
theorem inP_mg {Q : ByteArray → Prop} {o a b : List ByteArray} {mA mB : List Int} (ho : ∀ s ∈ o, Q s) (ha : ∀ s ∈ a, Q s) (hb : ∀ s ∈ b, Q s) : ∀ (d i j k : Nat) (ps : List Pt), d ≤ o.length → inP Q ps → inP Q (mg o a b mA mB d i j k ps)
  | 0, i, j, k, ps, hd, h => by
    rw [mg]
    exact inP_reg h (fun s hs => ho s (List.mem_of_mem_drop hs)) (fun s hs => ha s (List.mem_of_mem_drop hs)) (fun s hs => hb s (List.mem_of_mem_drop hs))
  | d + 1, i, j, k, ps, hd, h => by
    simp only [mg]
    split
    · exact inP_mg ho ha hb d i j k ps (by omega) h
    · refine inP_mg ho ha hb d _ _ _ _ (by omega) (inP_res (inP_reg h (fun s hs => ho s (seg2_mem hs)) (fun s hs => ha s (seg2_mem hs)) (fun s hs => hb s (seg2_mem hs))) (fun s hs => ?_))
      rw [List.mem_singleton.1 hs, List.getD_eq_getElem?_getD, List.getElem?_eq_getElem (by omega : o.length - (d + 1) < o.length)]
      exact ho _ (List.getElem_mem _)
theorem inP_mrg {Q : ByteArray → Prop} {o a b : List ByteArray} (ho : ∀ s ∈ o, Q s) (ha : ∀ s ∈ a, Q s) (hb : ∀ s ∈ b, Q s) : inP Q (mrg o a b) := inP_mg ho ha hb o.length 0 0 0 [] (Nat.le_refl _) (fun p hp => by cases hp)
theorem inP_txt {Q : ByteArray → Prop} {ps : List Pt} (h : inP Q ps) : ∀ s ∈ txt ps, Q s := fun s hs => by
  obtain ⟨p, hp, hs⟩ := List.mem_flatMap.1 hs
  exact (h p hp).1 s hs
theorem stl_no : ∀ (ps : List Pt) (out : List ByteArray), stl noBy ps out = if clr ps = true then some (out ++ txt ps) else none
  | [], out => by simp [stl, clr, txt]
  | p :: ps, out => by
    rw [stl]
    cases h : p.f0 with
    | true => simp [noBy, clr, h]
    | false =>
      rw [if_neg (by decide), stl_no ps]
      simp [clr, txt, h]
/-- Texts that are ok: few lines, none too long. -/
def Ok3 (o a b : List ByteArray) : Prop := Sm o ∧ Sm a ∧ Sm b
theorem allB_len {o a b : List ByteArray} (h : allB o a b = true) : o.length ≤ 10 ∧ a.length ≤ 10 ∧ b.length ≤ 10 := by
  unfold allB at h
  simp only [Bool.and_eq_true] at h
  exact ⟨textB_len h.1, textB_len h.2.1, textB_len h.2.2⟩
theorem mrg_inS {o a b : List ByteArray} (hs : Ok3 o a b) : inP (fun s => s.size ≤ 1000000) (mrg o a b) := inP_mrg hs.1.2 hs.2.1.2 hs.2.2.2
theorem part_tot : ∀ {ps : List Pt} {p : Pt}, p ∈ ps → p.f1.length + p.f2.length + p.f3.length + p.f4.length ≤ tot ps
  | q :: ps, p, h => by
    simp only [tot, List.map_cons, List.sum_cons]
    rcases List.mem_cons.1 h with rfl | h
    · omega
    · have := part_tot h
      unfold tot at this
      omega
theorem implText3_ev {o a b : List ByteArray} (hs : Ok3 o a b) : Ev (fun k => impl_MergeText.f k o a b) (tOf o a b) := by
  unfold impl_MergeText.f tOf
  refine Ev.bind (areTexts_ev hs.1 hs.2.1 hs.2.2) ?_
  by_cases h : allB o a b = true
  · rw [if_pos h]
    obtain ⟨h1, h2, h3⟩ := allB_len h
    refine Ev.posf h (Ev.bind (implMerge_ev (by omega) (by omega) (by omega)) ?_)
    have ht := tot_mrg h1 h2 h3
    have hsm := (mrg_small (o := o) (a := a) (b := b) (by omega) (by omega) (by omega)).1
    have hl := (mg_small (o := o) (a := a) (b := b) (mA := mtc o a 0) (mB := mtc o b 0) (by omega) (by omega) (by omega) o.length 0 0 0 0 [] ⟨by simp, by simp⟩ (fun p hp => by cases hp)).1.1
    unfold settledF
    refine Ev.posf ⟨by unfold mrg; omega, fun p hp => ⟨by have := part_tot hp; omega, by simp [noBy]⟩⟩ ?_
    rw [stl_no]
    unfold sText
    cases hc : clr (mrg o a b) with
    | false => simp only [Bool.false_eq_true, if_false, false_and]; exact Ev.now _
    | true =>
      simp only [if_true, true_and, List.nil_append]
      have hx := txt_tot (mrg o a b)
      refine EvT (Ev.bind (implText_ev (txt (mrg o a b)) ⟨by omega, inP_txt (mrg_inS hs)⟩) (Ev.now _)) ?_
      cases textB (txt (mrg o a b)) <;> simp
  · rw [if_neg h]
    exact Ev.negf h (Ev.now _)
end Go.Proofs.Ytfpdkeolecmepaa.Q
end
section
namespace Go.Proofs.Ytfpdkeolecmepaa.Q
open Go.RowKit Go.Proofs.YtfpdkeolecmepaaW.PrintWords Go.Proofs.YtfpdkeolecmepaaW.PrintMore
set_option linter.unusedVariables false
set_option linter.unusedSimpArgs false
def cnt : List Pt → Nat
  | [] => 0
  | p :: ps => (if p.f0 = true then 1 else 0) + cnt ps
def cOf (o a b : List ByteArray) : Int := if allB o a b = true then (cnt (mrg o a b) : Int) else -1
theorem mrg_len {o a b : List ByteArray} (h : allB o a b = true) : (mrg o a b).length ≤ 1000000 ∧ o.length ≤ 10 ∧ a.length ≤ 10 ∧ b.length ≤ 10 := by
  unfold allB at h
  simp only [Bool.and_eq_true] at h
  have h1 := textB_len h.1
  have h2 := textB_len h.2.1
  have h3 := textB_len h.2.2
  have hl := (mg_small (o := o) (a := a) (b := b) (mA := mtc o a 0) (mB := mtc o b 0) (by omega) (by omega) (by omega) o.length 0 0 0 0 [] ⟨by simp, by simp⟩ (fun p hp => by cases hp)).1.1
  unfold mrg
  exact ⟨by omega, h1, h2, h3⟩
theorem implCnt0_ev (ps : List Pt) (hps : ps.length ≤ 1000000) : ∀ (d i c : Nat), i ≤ ps.length → ps.length - i = d → c ≤ i → Ev (fun k => impl_MergeClash.l0 k c ps ps.length i) ((c + cnt (ps.drop i) : Nat) : Int)
  | 0, i, c, hi, hd, hc => by
    refine Ev.step' ?_
    simp only [impl_MergeClash.l0]
    rw [List.drop_eq_nil_of_le (by omega)]
    exact Ev.negf (by omega) (EvT (Ev.now _) (by simp [cnt]))
  | d + 1, i, c, hi, hd, hc => by
    have hip : i < ps.length := by omega
    refine Ev.step' ?_
    simp only [impl_MergeClash.l0]
    rw [rdP hip, w64_succ i (by omega), w64_succ c (by omega), drop_at hip, cnt]
    refine Ev.posf (by omega) (Ev.posf (by omega) (Ev.posf (by omega) ?_))
    cases hf : ps[i].f0 with
    | true =>
      refine Ev.posf rfl ?_
      have ih := implCnt0_ev ps hps d (i + 1) (c + 1) (by omega) (by omega) (by omega)
      rw [if_pos rfl, show c + (1 + cnt (ps.drop (i + 1))) = c + 1 + cnt (ps.drop (i + 1)) by omega]
      exact ih
    | false =>
      refine Ev.negf (by decide) ?_
      have ih := implCnt0_ev ps hps d (i + 1) c (by omega) (by omega) (by omega)
      rw [if_neg (by decide), Nat.zero_add]
      exact ih
theorem implCnt_ev {o a b : List ByteArray} (ho : Sm o) (ha : Sm a) (hb : Sm b) : Ev (fun k => impl_MergeClash.f k o a b) (cOf o a b) := by
  unfold impl_MergeClash.f cOf
  refine Ev.bind (areTexts_ev ho ha hb) ?_
  by_cases h : allB o a b = true
  · rw [if_pos h]
    obtain ⟨h0, h1, h2, h3⟩ := mrg_len h
    have := implCnt0_ev (mrg o a b) h0 _ 0 0 (Nat.zero_le _) rfl (Nat.le_refl _)
    rw [Nat.zero_add, List.drop_zero] at this
    exact Ev.posf h (Ev.bind (implMerge_ev (by omega) (by omega) (by omega)) this)
  · rw [if_neg h]
    exact Ev.negf h (Ev.now _)
end Go.Proofs.Ytfpdkeolecmepaa.Q
end
section
namespace Go.Proofs.Ytfpdkeolecmepaa.Q
open Go.RowKit Go.Proofs.YtfpdkeolecmepaaW.PrintWords
set_option linter.unusedVariables false
set_option linter.unusedSimpArgs false
def mk1 : ByteArray := ⟨#[60, 60, 60]⟩
def mk2 : ByteArray := ⟨#[61, 61, 61]⟩
def mk3 : ByteArray := ⟨#[62, 62, 62]⟩
def shw (p : Pt) : List ByteArray := if p.f0 = true then [mk1] ++ p.f3 ++ [mk2] ++ p.f4 ++ [mk3] else p.f1
def shws (ps : List Pt) : List ByteArray := ps.flatMap shw
theorem shws_cons (p : Pt) (ps : List Pt) : shws (p :: ps) = shw p ++ shws ps := by simp [shws]
theorem shw_len (p : Pt) : (shw p).length ≤ p.f1.length + p.f2.length + p.f3.length + p.f4.length + 3 := by
  unfold shw
  split
  · simp; omega
  · omega
theorem shws_tot : ∀ ps : List Pt, (shws ps).length ≤ tot ps + 3 * ps.length
  | [] => Nat.zero_le _
  | p :: ps => by
    have := shws_tot ps
    have h := shw_len p
    rw [shws_cons]
    simp only [tot, List.length_append, List.map_cons, List.sum_cons, List.length_cons] at this ⊢
    omega
theorem shws_clr : ∀ ps : List Pt, clr ps = true → shws ps = txt ps
  | [], h => rfl
  | p :: ps, h => by
    rw [clr_cons] at h
    simp only [Bool.and_eq_true, Bool.not_eq_true'] at h
    rw [shws_cons, txt_cons, shws_clr ps h.2, shw, if_neg (by rw [h.1]; decide)]
theorem implShow0_ev (ps : List Pt) (hps : ps.length ≤ 1000000) : ∀ (d i : Nat) (out : List ByteArray), i ≤ ps.length → ps.length - i = d → (out ++ shws (ps.drop i)).length ≤ 10000000 →
    Ev (fun k => impl_MergeShow.l0 k out ps ps.length i) (out ++ shws (ps.drop i))
  | 0, i, out, hi, hd, hs => by
    refine Ev.step' ?_
    simp only [impl_MergeShow.l0]
    rw [List.drop_eq_nil_of_le (by omega)]
    exact Ev.negf (by omega) (EvT (Ev.now _) (by simp [shws]))
  | d + 1, i, out, hi, hd, hs => by
    have hip : i < ps.length := by omega
    refine Ev.step' ?_
    simp only [impl_MergeShow.l0]
    rw [rdP hip, w64_succ i (by omega)]
    rw [drop_at hip, shws_cons] at hs ⊢
    have ih := implShow0_ev ps hps d (i + 1) (out ++ shw ps[i]) (by omega) (by omega) (by rw [List.append_assoc]; exact hs)
    rw [List.append_assoc] at ih
    have hl := hs
    simp only [List.length_append] at hl
    refine Ev.posf (by omega) (Ev.posf (by omega) (Ev.posf (by omega) ?_))
    unfold shw at ih hl ⊢
    cases hf : ps[i].f0 with
    | true =>
      simp only [hf, if_true, List.length_append, List.length_singleton] at ih hl ⊢
      simp only [← List.append_assoc] at ih ⊢
      exact Ev.posf (by omega) (Ev.somef (Ev.posf (by simp; omega) (Ev.somef (Ev.posf (by simp; omega) (Ev.somef (Ev.posf (by simp; omega) (Ev.somef (Ev.posf (by simp; omega) ih))))))))
    | false =>
      simp only [hf, Bool.false_eq_true, if_false] at ih hl ⊢
      exact Ev.posf (by omega) ih
theorem specShow0_ev (ps : List Pt) (hps : ps.length ≤ 1000000) : ∀ (d i : Nat) (out : List ByteArray), i ≤ ps.length → ps.length - i = d → (out ++ shws (ps.drop i)).length ≤ 10000000 →
    Ev (fun k => spec_MergeShow.l0 k out ps i) (out ++ shws (ps.drop i))
  | 0, i, out, hi, hd, hs => by
    refine Ev.step' ?_
    simp only [spec_MergeShow.l0]
    rw [List.drop_eq_nil_of_le (by omega)]
    exact Ev.negf (by omega) (EvT (Ev.now _) (by simp [shws]))
  | d + 1, i, out, hi, hd, hs => by
    have hip : i < ps.length := by omega
    refine Ev.step' ?_
    simp only [spec_MergeShow.l0]
    rw [rdP hip, w64_succ i (by omega)]
    rw [drop_at hip, shws_cons] at hs ⊢
    have ih := specShow0_ev ps hps d (i + 1) (out ++ shw ps[i]) (by omega) (by omega) (by rw [List.append_assoc]; exact hs)
    rw [List.append_assoc] at ih
    have hl := hs
    simp only [List.length_append] at hl
    refine Ev.posf (by omega) (Ev.posf (by omega) ?_)
    unfold shw at ih hl ⊢
    cases hf : ps[i].f0 with
    | true =>
      simp only [hf, if_true, List.length_append, List.length_singleton] at ih hl ⊢
      simp only [← List.append_assoc] at ih ⊢
      exact Ev.posf (by omega) (Ev.somef (Ev.posf (by simp; omega) (Ev.somef (Ev.posf (by simp; omega) (Ev.somef (Ev.posf (by simp; omega) (Ev.somef (Ev.posf (by simp; omega) ih))))))))
    | false =>
      simp only [hf, Bool.false_eq_true, if_false] at ih hl ⊢
      exact Ev.posf (by omega) ih
def shOf (o a b : List ByteArray) : List ByteArray := shws (mOf o a b)
theorem mOf_show (o a b : List ByteArray) : (shOf o a b).length ≤ 10000000 ∧ (mOf o a b).length ≤ 1000000 := by
  unfold shOf mOf
  split
  · rename_i h
    obtain ⟨h0, h1, h2, h3⟩ := mrg_len h
    have ht := tot_mrg h1 h2 h3
    have := shws_tot (mrg o a b)
    exact ⟨by omega, h0⟩
  · exact ⟨by simp [shws], by simp⟩
theorem implShow_ev {o a b : List ByteArray} (hs : Ok3 o a b) : Ev (fun k => impl_MergeShow.f k o a b) (shOf o a b) := by
  have hm := mOf_show o a b
  unfold impl_MergeShow.f
  refine Ev.somef (Ev.bind (areTexts_ev hs.1 hs.2.1 hs.2.2) ?_)
  unfold shOf mOf at hm ⊢
  by_cases h : allB o a b = true
  · rw [if_pos h] at hm ⊢
    obtain ⟨h0, h1, h2, h3⟩ := mrg_len h
    have := implShow0_ev (mrg o a b) h0 _ 0 [] (Nat.zero_le _) rfl (by simpa using hm.1)
    exact Ev.posf h (Ev.bind (implMerge_ev (by omega) (by omega) (by omega)) (by simpa using this))
  · rw [if_neg h]
    exact Ev.negf h (Ev.now _)
theorem specShow_ev {o a b : List ByteArray} (hs : Ok3 o a b) : Ev (fun k => spec_MergeShow.f k o a b) (shOf o a b) := by
  have hm := mOf_show o a b
  unfold spec_MergeShow.f
  have := specShow0_ev (mOf o a b) hm.2 _ 0 [] (Nat.zero_le _) rfl (by simpa [shOf] using hm.1)
  exact Ev.bind (specOf_ev hs.1 hs.2.1 hs.2.2) (by simpa [shOf] using this)
theorem smHas0_ev (l : List ByteArray) (x : ByteArray) (hl : l.length ≤ 100000000) : ∀ (d i : Nat), i ≤ l.length → l.length - i = d → ∃ r, Ev (fun k => laws_smHas.l0 k l x i) r ∧ (r = false → ∀ s ∈ l.drop i, s ≠ x)
  | 0, i, hi, hd => by
    refine ⟨false, Ev.step' ?_, fun _ s hs => ?_⟩
    · simp only [laws_smHas.l0]
      exact Ev.negf (by omega) (Ev.now _)
    · rw [List.drop_eq_nil_of_le (by omega)] at hs; cases hs
  | d + 1, i, hi, hd => by
    have hip : i < l.length := by omega
    by_cases c : l[i].toList = x.toList
    · refine ⟨true, Ev.step' ?_, fun h => by cases h⟩
      simp only [laws_smHas.l0]
      rw [rdAt hip]
      exact Ev.posf (by omega) (Ev.posf (by omega) (Ev.posf c (Ev.now _)))
    · obtain ⟨r, hr, hs⟩ := smHas0_ev l x hl d (i + 1) (by omega) (by omega)
      refine ⟨r, Ev.step' ?_, fun h s hm => ?_⟩
      · simp only [laws_smHas.l0]
        rw [rdAt hip, w64_succ i (by omega)]
        exact Ev.posf (by omega) (Ev.posf (by omega) (Ev.negf c hr))
      · rw [drop_at hip] at hm
        rcases List.mem_cons.1 hm with rfl | hm
        · exact fun e => c (by rw [e])
        · exact hs h s hm
theorem smHas_ev (l : List ByteArray) (x : ByteArray) (hl : l.length ≤ 100000000) : ∃ r, Ev (fun k => laws_smHas.f k l x) r ∧ (r = false → ∀ s ∈ l, s ≠ x) := by
  obtain ⟨r, hr, hs⟩ := smHas0_ev l x hl _ 0 (Nat.zero_le _) rfl
  exact ⟨r, hr, by simpa using hs⟩
def mny (x : ByteArray) : List ByteArray → Nat
  | [] => 0
  | s :: l => (if s = x then 1 else 0) + mny x l
theorem mny_app (x : ByteArray) : ∀ l m : List ByteArray, mny x (l ++ m) = mny x l + mny x m
  | [], m => by simp [mny]
  | s :: l, m => by rw [List.cons_append, mny, mny, mny_app x l m]; omega
theorem mny_none (x : ByteArray) : ∀ l : List ByteArray, (∀ s ∈ l, s ≠ x) → mny x l = 0
  | [], h => rfl
  | s :: l, h => by rw [mny, if_neg (h s (by simp)), mny_none x l (fun t ht => h t (by simp [ht]))]
theorem smMany0_ev (l : List ByteArray) (x : ByteArray) (hl : l.length ≤ 100000000) : ∀ (d i c : Nat), i ≤ l.length → l.length - i = d → c ≤ i → Ev (fun k => laws_smMany.l0 k l x c i) ((c + mny x (l.drop i) : Nat) : Int)
  | 0, i, c, hi, hd, hc => by
    refine Ev.step' ?_
    simp only [laws_smMany.l0]
    rw [List.drop_eq_nil_of_le (by omega)]
    exact Ev.negf (by omega) (EvT (Ev.now _) (by simp [mny]))
  | d + 1, i, c, hi, hd, hc => by
    have hip : i < l.length := by omega
    refine Ev.step' ?_
    simp only [laws_smMany.l0]
    rw [rdAt hip, w64_succ i (by omega), w64_succ c (by omega), drop_at hip, mny]
    refine Ev.posf (by omega) (Ev.posf (by omega) ?_)
    by_cases e : l[i].toList = x.toList
    · have ih := smMany0_ev l x hl d (i + 1) (c + 1) (by omega) (by omega) (by omega)
      rw [if_pos (bstr.mp e), show c + (1 + mny x (l.drop (i + 1))) = c + 1 + mny x (l.drop (i + 1)) by omega]
      exact Ev.posf e ih
    · have ih := smMany0_ev l x hl d (i + 1) c (by omega) (by omega) (by omega)
      rw [if_neg (fun h => e (bstr.mpr h)), Nat.zero_add]
      exact Ev.negf e ih
theorem smMany_ev (l : List ByteArray) (x : ByteArray) (hl : l.length ≤ 100000000) : Ev (fun k => laws_smMany.f k l x) ((mny x l : Nat) : Int) := by
  have := smMany0_ev l x hl _ 0 0 (Nat.zero_le _) rfl (Nat.le_refl _)
  rw [Nat.zero_add, List.drop_zero] at this
  exact this
theorem mk21 : mk2 ≠ mk1 := by decide
theorem mk31 : mk3 ≠ mk1 := by decide
theorem shws_cnt : ∀ ps : List Pt, inP (fun s => s ≠ mk1) ps → mny mk1 (shws ps) = cnt ps
  | [], h => rfl
  | p :: ps, h => by
    have hp := h p (by simp)
    have ih := shws_cnt ps (fun q hq => h q (by simp [hq]))
    rw [shws_cons, mny_app, ih, cnt, shw]
    cases hf : p.f0 with
    | true =>
      rw [if_pos rfl, if_pos rfl, mny_app, mny_app, mny_app, mny_app, mny_none _ p.f3 hp.2.2.1, mny_none _ p.f4 hp.2.2.2]
      simp only [mny, if_true, if_neg mk21, if_neg mk31]
    | false =>
      rw [if_neg (by decide), if_neg (by decide), mny_none _ p.f1 hp.1]
end Go.Proofs.Ytfpdkeolecmepaa.Q
namespace Go.Proofs.Ytfpdkeolecmepaa.Pure
open Go.RowKit Go.Proofs.Ytfpdkeolecmepaa.Q Go.Proofs.YtfpdkeolecmepaaW.PrintWords Go.Proofs.YtfpdkeolecmepaaW.PrintLast
theorem FnMergeShow : laws_FnMergeShow.Pure := by
  intro l0 hm hb hw
  refine Ev.rounds ?_
  unfold laws_FnMergeShow.f
  by_cases hl : (l0.length : Int) > 1048576
  · exact Ev.posf hl (Ev.now _)
  · refine Ev.negf hl ?_
    obtain ⟨o, a, b, h3, ho, ha, hb⟩ := three_ev (l := l0) (fun x hx => by have := hw x hx; simp [Lit.wf, IntKind.bits, IntKind.signed, IntKind.min, IntKind.max] at this; omega)
    have hd : Ev (fun k => spec_DrawMergeShow.f k l0) (o, a, b) := by unfold spec_DrawMergeShow.f; exact Ev.bind h3 (Ev.now _)
    have hok : Ok3 o a b := ⟨ho, ha, hb⟩
    have hsh := (mOf_show o a b).1
    have hr := smTexts_refl (shOf o a b) (by omega)
    have hcl := implCnt_ev ho ha hb
    refine Ev.bind hd (Ev.bind (implShow_ev hok) (Ev.bind (specShow_ev hok) (Ev.bind hr (Ev.posf rfl (Ev.bind hcl ?_)))))
    by_cases h : allB o a b = true
    · have ec : cOf o a b = (cnt (mrg o a b) : Int) := by unfold cOf; rw [if_pos h]
      have hneg : decide (cOf o a b < 0) = false := decide_eq_false (by omega)
      rw [hneg]
      rw [ec] at hcl
      have hfin : ∀ x : Bool × List ByteArray, x = ((tOf o a b).2, (tOf o a b).1) → Ev (fun k => if x.1 = true then (laws_smTexts.f k (shOf o a b) x.2).bind fun t => some t else some true) true := fun x hx => by
        subst hx
        unfold tOf sText
        rw [if_pos h]
        by_cases c : clr (mrg o a b) = true ∧ textB (txt (mrg o a b)) = true
        · rw [if_pos c]
          have e : shOf o a b = txt (mrg o a b) := by unfold shOf mOf; rw [if_pos h, shws_clr _ c.1]
          rw [e] at hr ⊢
          exact Ev.posf rfl (Ev.bind hr (Ev.now _))
        · rw [if_neg c]
          exact Ev.negf (by decide) (Ev.now _)
      have hf := hfin _ rfl
      obtain ⟨ra, ea, na⟩ := smHas_ev a mk1 (by have := ha.1; omega)
      obtain ⟨rb, eb, nb⟩ := smHas_ev b mk1 (by have := hb.1; omega)
      obtain ⟨ro, eo, no⟩ := smHas_ev o mk1 (by have := ho.1; omega)
      refine Ev.step' ?_
      simp only [laws_FnMergeShow.j0]
      refine Ev.negf (by decide) (Ev.bind hcl (Ev.bind (implText3_ev hok) (Ev.bind ea ?_)))
      cases ra with
      | true => exact Ev.posf rfl hf
      | false =>
        refine Ev.negf (by decide) (Ev.bind eb ?_)
        cases rb with
        | true => exact Ev.posf rfl hf
        | false =>
          refine Ev.negf (by decide) (Ev.bind eo ?_)
          cases ro with
          | true => exact Ev.posf rfl hf
          | false =>
            refine Ev.negf (by decide) (Ev.bind (smMany_ev (shOf o a b) mk1 (by omega)) (Ev.posf ?_ hf))
            have e : shOf o a b = shws (mrg o a b) := by unfold shOf mOf; rw [if_pos h]
            rw [e, shws_cnt _ (inP_mrg (no rfl) (na rfl) (nb rfl))]
    · have ec : cOf o a b = -1 := by unfold cOf; rw [if_neg h]
      have hneg : decide (cOf o a b < 0) = true := decide_eq_true (by omega)
      rw [hneg]
      refine Ev.step' ?_
      simp only [laws_FnMergeShow.j0]
      exact Ev.posf trivial (Ev.bind (specShow_ev hok) (Ev.bind hr (Ev.now _)))
end Go.Proofs.Ytfpdkeolecmepaa.Pure
end
section
namespace Go.Proofs.YtfpdkeolecmepaaW.PrintWords
open Go.ChangeShapes Go.WideShapes
/-- A row's slice of whole numbers is no longer than its weight allows. -/
theorem sized_ints {H : Type} {enc : TypeId × Value → H} {P : Program} {W : World} {base : Nat} {spare : Nat → Bool} {held : Bool} {t e : TypeId} {k : IntKind} {a : Option Addr} {len cap : Nat} {d : DataW H} {ps : List MemPlace} {ts : List TypeId} {ds : List (DataW H)} {j : Nat}
 (hsz : (DataW.weightsEach P ts ds).all (· ≤ reachBytes) = true) (ht : ts[j]? = some t) (hd : ds[j]? = some d) (hu : P.underlying t = some (.slice e)) (he : P.underlying e = some (.int k)) (hc : P.cellsOf e = 1) {B : Nat} (hB : P.bytesOf e = B)
 (h : DataW.Trod enc P W base spare held t (.slice a len cap) d ps) : len * B ≤ 140737488351232 := by
 obtain ⟨fuel, hf⟩ := h
 rcases open_ints hu he hc hf with ⟨hcs, _⟩ | ⟨x, l, c, zs, hcs, _, hl, _, hz, hx, _, _⟩
 ·simp [Value.cells] at hcs
  obtain ⟨rfl, rfl, rfl⟩ := hcs
  simp
 ·simp [Value.cells] at hcs
  obtain ⟨rfl, rfl, rfl⟩ := hcs
  obtain ⟨hx, _⟩ := Prod.mk.inj hx
  subst hx
  have z := sized_slice hsz ht hd hu
  rw [hB] at z
  have hl2 : len ≤ zs.length := by
   rw [hz]
   split
   ·exact hl
   ·exact Nat.le_refl _
  have h1 : (lits (H := H) k (zs.take len)).length + (lits (H := H) k (zs.drop len)).length = zs.length := by
   simp [lits]
   omega
  rw [h1] at z
  exact Nat.le_trans (Nat.mul_le_mul_right _ hl2) z
end Go.Proofs.YtfpdkeolecmepaaW.PrintWords
end
section
namespace Go.Proofs.Ytfpdkeolecmepaa.fnMergeShow
open Go.ChangeShapes Go.WideShapes Go.ChangeAt Go.RowKit
open Go.ChangeMaps (open_string shut_string)
set_option linter.unusedVariables false
theorem own : ownKnob Try.prog.godebug = none := by kernel_rfl
theorem laidOut : laidOutB Try.prog = true := by kernel_rfl
def IsRow (k : IntKind) (w : World) (a : Option Addr) (len cap : Nat) (zs : List Int) : Prop :=
  (a = none ∧ len = 0 ∧ cap = 0 ∧ zs = []) ∨
  ∃ x, a = some x ∧ len ≤ cap ∧ cap ≤ maxLen ∧ zs.length = cap ∧ (∀ i, i < zs.length → w.cell? (x.add i) = some (.int k (zs.getD i 0))) ∧ ∀ n ∈ zs, (Lit.int k n).wf = true
set_option maxRecDepth 100000 in
theorem lifted (os : Os) (started : os.Started) (H : Type) (enc : TypeId × Value → H) :
    ReturnsInHanded {} Try.checked os 10 .any (Rows.fnMergeShowSpec.pre6 enc Try.prog Try.f10 Rows.fnMergeShowRow.domain false) (Rows.fnMergeShowSpec.post enc Try.prog Try.f10 false true false false) := by
  refine returnsInHanded_of_change_sized (C := Try.checked) own started (by kernel_rfl) Try.func10
    (ChangeSpec.witness6 (enc := enc) (C := Try.checked) false ⟨#[], #[.slice none 0 0], []⟩ 8 (by kernel_rfl) (by kernel_rfl) (by kernel_rfl) (by kernel_rfl)) ?_
  intro W base args ds gs before hval0 hW hcnd hsz0 _
  have hsz : (DataW.weightsEach Try.prog (Try.f10.params.toList ++ Rows.fnMergeShowSpec.plain.varTypes Try.prog) (ds ++ gs)).all (· ≤ reachBytes) = true := hsz0
  have hval : ∀ (j : Nat) t v, Try.f10.params[j]? = some t → args[j]? = some v → Value.okWide Try.prog W .any base t v := hval0
  have hW' := hW
  obtain ⟨p, q, hA0, hV, rfl, hfz, hnd⟩ := hW
  have hA : DataW.TrodAll enc Try.prog W 0 (fun _ => true) true Try.f10.params.toList args.toList ds p := hA0
  rw [Try.params10] at hA hval hsz
  obtain ⟨v0, vs0, d0, ds0, p0, q0, hargs, rfl, rfl, h0, r0⟩ := trodAll_cons hA
  obtain ⟨rfl, rfl, rfl⟩ := trodAll_nil r0
  obtain rfl : args = #[v0] := by cases args; simp_all
  obtain ⟨rfl, rfl⟩ := trodVars_none hV
  obtain ⟨a0, len0, cap0, rfl⟩ := okWide_slice Try.underlying22 (hval 0 22 v0 rfl rfl)
  have k0 := h0
  have lt0 : ∀ x ∈ p0, x.block < W.heap.size := by obtain ⟨m, hm⟩ := k0; exact DataW.trod_lt m _ _ _ hm
  obtain ⟨z0, w0⟩ : ∃ zs, IsRow .u8 W a0 len0 cap0 zs := by
    obtain ⟨fuel, hf⟩ := h0
    rcases open_ints Try.underlying22 Try.underlying5 (by kernel_rfl) hf with ⟨hcs, _⟩ | ⟨x, l, c, zs, hcs, _, hl, hm, hz, _, hcell, hwz⟩
    · simp [Value.cells] at hcs
      obtain ⟨rfl, rfl, rfl⟩ := hcs
      exact ⟨[], .inl ⟨rfl, rfl, rfl, rfl⟩⟩
    · simp [Value.cells] at hcs
      obtain ⟨rfl, rfl, rfl⟩ := hcs
      exact ⟨zs, .inr ⟨_, rfl, hl, hm, by simpa using hz, hcell, hwz⟩⟩
  have y0 : len0 * 1 ≤ 140737488351232 := Go.Proofs.YtfpdkeolecmepaaW.PrintWords.sized_ints hsz (j := 0) (t := 22) rfl rfl Try.underlying22 Try.underlying5 (by kernel_rfl) (by kernel_rfl) h0
  clear hA0 hval0 hsz0 hsz
  refine (Q.laws_FnMergeShow.walk Pure.FnMergeShow a0 len0 cap0 z0 W w0 y0).mono fun e W' ⟨he, bel⟩ => ?_
  subst he
  exact ⟨_, rfl, _, _, _, [], _, [], hW', trodAll_mk1 (shut_bool Try.underlying4 _), (trodAll_cons_mk (Below.trod laidOut (by kernel_rfl) (of_decide_eq_true (by kernel_rfl)) k0 bel lt0) trodAll_mk0), rfl, bel.frame _, fun h => by cases h⟩
theorem over : Rows.fnMergeShowRow.holds Try.pinned (OpenSpec.ofChange Rows.fnMergeShowSpec) :=
  OpenClaim.holds_of_wide 10 Try.f10 rfl rfl rfl rfl rfl rfl rfl ⟨rfl, rfl, rfl, rfl, rfl⟩ rfl rfl rfl rfl rfl (by kernel_rfl) Try.func10 (by kernel_rfl)
    (of_decide_eq_true (by kernel_rfl)) (by unfold Func.isWrapper; first | (rw [if_pos (by decide +kernel)]; kernel_rfl) | (rw [if_neg (by decide +kernel)]; exact ⟨rfl, rfl⟩))
    (fun os started H enc _ => lifted os started H enc)
theorem proved : Rows.FnMergeShowSaid := over
#print axioms proved
end Go.Proofs.Ytfpdkeolecmepaa.fnMergeShow
namespace Go.Proofs.Ytfpdkeolecmepaa
/-- The row, under a short name, for the claim. -/
theorem fnMergeShow_holds : Rows.FnMergeShowSaid := fnMergeShow.proved
end Go.Proofs.Ytfpdkeolecmepaa
end
